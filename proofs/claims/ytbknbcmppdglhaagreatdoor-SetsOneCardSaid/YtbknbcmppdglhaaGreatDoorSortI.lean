/-
 Ranges over functions whose iterator goes over a map:it turns an iterator of its own. No program in sight. (Printed by gen_rangem.py out of XRange,XRangeT.)
-/
import Derived.Test.YtbknbcmppdglhaaGreatDoorA0
import Derived.Test.YtbknbcmppdglhaaGreatDoorOwnR
import Derived.Test.YtbknbcmppdglhaaGreatDoorER
import Derived.Scope
import Derived.Deep.DeepCutAuto
import Derived.Shelf.Sort.Plain
import Derived.Shelf.Slices.Reverse
import Derived.Ground.Names2Prog
import Derived.Shelf.Slices.Clone
import Derived.Shelf.Slices.CompactI
import Derived.Shelf.Slices.In.SortNone
import Derived.Shelf.SlicesE.Reverse
import Derived.Test.YtbknbcmppdglhaaGreatDoorProg
namespace Go.Proofs.YtbknbcmppdglhaaGreatDoor
set_option linter.unusedSimpArgs false
set_option linter.unusedVariables false
set_option linter.unusedSectionVars false
set_option maxRecDepth 100000
set_option maxHeartbeats 40000000
section
open Go.RowKit
def TL:Obj->Bool
 | .mapIter _ _ _ _=>true
 |_=>false
def AY(o:Obj):Bool:=nH o||TL o
def gL(B:Nat)(J:World->Prop):Prop:=
 ∀W W' row,J W->W.grownBy W' row->(∀r,row=some r->B<=r/\∃o:Obj,W.heap[r]? =some o/\AY o=true)->J W'
theorem gL.pure(B:Nat)(p:Prop):gL B (λ_=>p):=λ_ _ _ h _ _=>h
theorem gL.and{B:Nat}{J J':World->Prop}(h:gL B J)(h':gL B J'):gL B (λW=>J W/\J' W):=
 λW W' row hj hg hr=>⟨h W W' row hj.1 hg hr,h' W W' row hj.2 hg hr⟩
theorem gL.ex{B:Nat}{α:Sort _}{J:α->World->Prop}(h:∀x,gL B (J x)):gL B (λW=>∃x,J x W):=
 λW W' row ⟨x,hj⟩ hg hr=>⟨x,h x W W' row hj hg hr⟩
theorem vN{W W':World}{row:Option Nat}{B k:Nat}{o:Obj}(hk:W.heap[k]? =some o)(ho:AY o=false)(hg:W.grownBy W' row)
  (hr:∀r,row=some r->B<=r/\∃o:Obj,W.heap[r]? =some o/\AY o=true):W'.heap[k]? =some o:=by
 refine(hg.block k (au.1 hk).1 (λe=>?_)).trans hk
 grind
theorem gL.block(B k:Nat){o:Obj}(ho:AY o=false):gL B (λW=>W.heap[k]? =some o):=λ_ _ _ h hg hr=>vN h ho hg hr
theorem gL.cell(B:Nat)(p:Addr)(v:Value):gL B (λW=>W.cell? p=some v):=λW W' row h hg hr=>by
 have h:W.cell? p=some v:=h
 show W'.cell? p=some v
 unfold World.cell? at h|-
 cases ho:W.heap[p.block]? with
 |none=>simp[ho] at h
 |some o=>
  rw[vN ho (by cases o<;>simp_all[AY,nH,TL]) hg hr];rw[ho] at h;exact h
theorem gL.below{n₀ B:Nat}{w₀:World}(hn:n₀<=w₀.heap.size)(hB:n₀<=B):gL B (λW=>Below n₀ w₀ W):=
 λ_ _ _ hs hg hr=>hs.grown hg (aT hn hs.size) (λk e=>aT hB (hr k e).1)
theorem gL.ownsRow(B:Nat)(base:Nat)(e:TypeId)(size:Nat)(v:Value)(n:Nat)(xs:List Value):gL B (λW=>W.ownsRow base e size v n xs):=
 λW W' row h hg hr=>by
  refine⟨h.1,?_⟩;rcases h.2 with h2|⟨g,cap,cur,hv,hb,hh,r⟩
  .grind
  .exact Or.inr ⟨g,cap,cur,hv,hb,vN hh rfl hg hr,r⟩
theorem gL.ext{B:Nat}{J:World->Prop}(h:gL B J){W W':World}(hj:J W)(hb:Below W.heap.size W W'):J W':=
 h W W' none hj ⟨hb.os,hb.tape,hb.output,hb.size,λk hk _=>hb.block k hk⟩ (λr e=>by cases e)
theorem gL.put{B:Nat}{J:World->Prop}(h:gL B J){W:World}{l:Nat}{o:Obj}(o':Obj)(hj:J W)(hl:B<=l)(ho:W.heap[l]? =some o)(hb:AY o=true):J (W.putObj l o'):=
 h W _ (some l) hj (dJ W l o') (λr e=>by grind)
theorem gL.size(B n:Nat):gL B (λW=>n<W.heap.size):=λ_ _ _ h hg _=>bw h hg.size
def Bl{σ α:Type}(P:Program)(gf:Nat)(lb:Array Value)(enc:α->Array Value)(ok:σ->α->Prop)(nx:σ->α->σ)(s0:σ)(Fin:σ->Prop)(Inv:σ->World->Prop):Prop:=
 ∀(l:Nat) (K:σ->World->Prop) (Kx:World->Prop) (T:World->Nat->Prop) (W0:World),
  (∀s W W' row,K s W->W.grownBy W' row->(∀q,row=some q->W0.heap.size<=q/\∃o:Obj,W.heap[q]? =some o/\TL o=true)->K s W')->(∀W W',Kx W->Below W.heap.size W W'->Kx W')->(∀s W,K s W->Inv s W)->
  (∀s W k,K s W->T W k->k<W.heap.size)->(∀s W W' row k,K s W->W.grownBy W' row->(∀q,row=some q->W0.heap.size<=q/\∃o:Obj,W.heap[q]? =some o/\TL o=true)->T W' k->T W k)->
  (∀s x W,ok s x->K s W->YieldAt Fence.wide 0 P l (enc x) W λe W'=>(e=.returned (.bool true)/\K (nx s x) W'/\Tch T W W')\/(e=.returned (.bool false)/\Kx W'))->
  K s0 W0->CallsIn Fence.wide 0 P gf (#[.func (.yield l) #[] #[]]++lb) W0 λe W'=>(∃v,e=.returned v)/\((∃s,Fin s/\K s W')\/Kx W')
theorem SF{P:Program}{σ α:Type}{g:Operand}{ps:Array Tmp}{assign body:Code}{Q:Exit->Act->World->Prop}{a:Act}{w:World}{gf:Nat}{lb:Array Value}
  (hg:a.eval g=.func (.func gf) #[] lb) (eg:∀args w,(callFunc gf args).run P w=.ok (.enter gf args) w)
  {enc:α->Array Value} {ok:σ->α->Prop} {nx:σ->α->σ} {s0:σ} {Fin:σ->Prop} {Inv:σ->World->Prop} (hit:Bl P gf lb enc ok nx s0 Fin Inv)
  (hps:∀x,(enc x).size=ps.size)
  (J:σ->World->Prop) (Jx:Code->World->Prop) (A:σ->α->Act->World->Prop)
  (hJ:∀s,gL w.heap.size (J s)) (hJx:∀c,gL w.heap.size (Jx c)) (hA:∀s x a,gL w.heap.size (A s x a)) (hInv:∀s W,J s W->Inv s W)
  (T:World->Nat->Prop) (hT0:∀s W k,J s W->T W k->k<W.heap.size) (hTg:∀W W' row,W.grownBy W' row->(∀r,row=some r->w.heap.size<=r/\∃o:Obj,W.heap[r]? =some o/\AY o=true)->(∃s,J s W)->∀k,T W' k->T W k)
  (h0:J s0 w)
  (hassign:∀(l:Nat) (s:σ) (x:α) (W:World),ok s x->J s W->
    assign.wpIn (Fence.wide.inRound l) 0 P (Exit.then (λa1 W1=>gC W W1/\J s W1/\A s x a1 W1/\Tch T W W1) (λ_ _ _=>False)) {tmps:=(ps.zip (enc x)).foldl (λt (p,v)=>t.setIfInBounds p v) a.tmps,defers:= []} W)
  (hbody:∀(l:Nat) (s:σ) (x:α) (a1:Act) (W:World),ok s x->J s W->A s x a1 W->
    body.wpIn (Fence.wide.inRound l) 0 P (iQ (λW'=>gC W W'/\J (nx s x) W'/\Tch T W W') (λc W'=>gC W W'/\Jx c W')) a1 W)
  (hdone:∀(D:Nat) (s:σ) (W:World),w.heap.size<=D->Fin s->J s W->W.heap[D]? =some (.deferred (some []))->Q .normal {a with defers:={target:=.collected D,args:=#[]} :: a.defers} W)
  (hstop:∀(D:Nat) (c:Code) (W:World),w.heap.size<=D->Jx c W->W.heap[D]? =some (.deferred (some []))->c.wpIn Fence.wide 0 P Q {a with defers:={target:=.collected D,args:=#[]} :: a.defers} W):
  (Code.rangeFunc g ps assign body).wpIn Fence.wide 0 P Q a w:=by
 have hb:∀{X:World} {q:Nat},(∃o:Obj,X.heap[q]? =some o/\TL o=true)->∃o:Obj,X.heap[q]? =some o/\AY o=true:=λ⟨o,a,b⟩=>⟨o,a,by simp_all[AY]⟩
 refine sD hg eg λR W1 hb1 hz h1 hy=>(hit (w.heap.size+1) (λs W=>J s W/\LD R w.heap.size .ready none W) (λW=>∃c,Jx c W/\LD R w.heap.size .done (some c) W) (λW k=>T W k\/k=w.heap.size+1\/k=w.heap.size) W1
  (λs A B row h hg hr=>by rw[hz] at hr;exact⟨hJ s A B row h.1 hg λr e=>⟨by grind,hb (hr r e).2⟩,h.2.grown hg hr⟩)
  (λA B ⟨c,h1,h2⟩ hb=>⟨c,(hJx c).ext h1 hb,h2.ext hb⟩) (λs W h=>hInv s W h.1)
  (λs W k h ht=>ht.elim (hT0 s W k h.1) λe=>e.elim (λe=>e▸h.2.1.lt) λe=>e▸(au.1 h.2.2).1)
  (λs A B row k h hg hr ht=>ht.imp (hTg A B row hg (λr e=>⟨by grind,hb (hr r e).2⟩) ⟨s,h.1⟩ k) id)
  (λs x W hok ⟨hi,hl⟩=>hy hl.1 (hps x) (hassign _ s x W hok hi) λa1 V ⟨hkp,hiV,hAV,hTV⟩=>
    have lV:LD _ _ _ _ _:=hl.keep hkp;have t1:=hTg _ _ _ (lN V (w.heap.size+1) (.loop (R .busy none))) (λr hr=>by cases hr;exact⟨by omega,_,lV.1,rfl⟩) ⟨s,hiV⟩
    ⟨lV.1,λl2=>cD (hbody _ s x a1 _ hok ((hJ s).put _ hiV (by omega) lV.1 rfl) ((hA s x a1).put _ hAV (by omega) lV.1 rfl))
     (mK (λW3 ⟨hk3,hi3,hT3⟩=>have l3:LD _ _ _ _ _:=(LD.put lV).keep hk3;⟨l3.1,.inl ⟨rfl,⟨(hJ _).put _ hi3 (by omega) l3.1 rfl,l3.put⟩,wP (.inl rfl) hTV hT3 t1 (hTg _ _ _ (lN W3 _ _) (λr hr=>by cases hr;exact⟨by omega,_,l3.1,rfl⟩) ⟨_,hi3⟩)⟩⟩)
       λc W3 ⟨hk3,hi3⟩=>have l3:LD _ _ _ _ _:=(LD.put lV).keep hk3;⟨l3.1,.inr ⟨rfl,c,(hJx c).put _ hi3 (by omega) l3.1 rfl,l3.put⟩⟩)⟩)
  ⟨(hJ s0).ext h0 hb1,h1⟩).mono ?_
 rintro e W2 ⟨hv,(⟨s,hS,hi,hl⟩|⟨c,hi,hl⟩)⟩
 .exact⟨hv,.inl ⟨hl.1,λo=>hdone _ s _ (aj _) hS ((hJ s).put _ hi (by omega) hl.1 rfl) ((bo (by omega)).trans hl.2)⟩⟩
 .exact⟨hv,.inr ⟨c,hl.1,λo=>hstop _ c _ (aj _) ((hJx c).put _ hi (by omega) hl.1 rfl) ((bo (by omega)).trans hl.2)⟩⟩
end

section
open Go.RowKit
def gK(f:Nat->Bool):Array Value:=((List.range 200).map λj=>Value.bool (f j)).toArray
theorem fO(f:Nat->Bool):(gK f).size=200:=by simp[gK]
theorem tL(f:Nat->Bool)(j:Nat)(h:j<200):(gK f)[j]? =some (.bool (f j)):=by simp[gK,h]
theorem uj(f:Nat->Bool)(j:Nat)(h:j<200)(b:Bool):(gK f).setIfInBounds j (.bool b)=gK (λk=>if k=j then b else f k):=by
 apply de
 intro k
 by_cases hk:k<200
 .rw[Array.getElem?_setIfInBounds,tL f k hk,tL _ k hk];by_cases e:j=k
  .subst e;simp[fO,h]
  .rw[az e,az (λx=>e x.symm)]
 .rw[bZ (by simp[fO];omega),bZ (by simp[fO];omega)]
theorem mR(f:Nat->Bool):(gK f).all (·.oneCell')=true:=by
 rw[eN]
 intro v hv
 simp[gK] at hv
 obtain⟨j,_,rfl⟩:=hv
 rfl
end

section
open Go.RowKit
theorem pp(x:Int)(w:World):Calls Tryz.prog 250 (#[.int .i64 x]++ #[]) w λe w'=>e=.returned (.bool (x != 0))/\Below w.heap.size w w':=by
 show Calls Tryz.prog 250 #[.int .i64 x] w _
 go_enter Tryz.func250,Tryz.ntmps250
 go_wp2
 go_ret
 exact⟨rfl,ag _ _⟩
theorem LY(args:Array Value)(w:World):(callFunc 250 args).run Tryz.prog w=.ok (.enter 250 args) w:=by kernel_rfl
def yB(xs:List Int):Bool:= !xs.any (λx=>x != 0)
theorem KA(a:Option Addr)(n c:Nat)(xs:List Int)(w:World)(h:iJ w a n xs):
  Calls Tryz.prog 211 #[.slice a n c] w λe w'=>e=.returned (.bool (yB xs))/\Below w.heap.size w w':=by
 have H:=ac h
 clear h
 go_enter Tryz.func211,Tryz.ntmps211
 go_wp2_with (go_at_call 216;refine(nZ _ #[] LY (λx=>x != 0) a n c xs w (λx W _ _=>pp x W) H.out).mono ?_;rintro e w' ⟨rfl,hb'⟩;have HB':=ac hb';clear hb')
 go_ret
 exact⟨rfl,HB'.out⟩
theorem pL(n:Int)(w:World):Calls Tryz.prog 132 #[.int .i64 n] w λe w'=>e=.returned (.bool (qG n))/\w=w':=by
 by_cases h1:1<=n
 .have d1:decide (1<=n)=true:=by simpa using h1
  have HE:Hid (qG n=decide (n<=200)):=by rw[Hid,qG,eR];omega
  go_enter Tryz.func132,Tryz.ntmps132
  go_wp2
  go_ret
  exact⟨by rw[HE.out];rfl,rfl⟩
 .have d1:decide (1<=n)=false:=by simpa using h1
  have HE:Hid (qG n=false):=by rw[Hid,qG,cg];omega
  go_enter Tryz.func132,Tryz.ntmps132
  go_wp2
  go_ret
  exact⟨by rw[HE.out];rfl,rfl⟩
def sS(b:Bool)(n:Int):Bool:=if b then qG n else decide (n=0)
theorem DM(b:Bool)(n:Int)(w:World):Calls Tryz.prog 212 #[.bool b,.int .i64 n] w λe w'=>e=.returned (.bool (sS b n))/\w=w':=by
 cases b with
 |true=>
  go_enter Tryz.func212,Tryz.ntmps212
  go_wp2_with (go_at_call 132;refine(pL _ _).mono ?_;rintro e w' ⟨rfl,rfl⟩)
  go_ret
  exact⟨rfl,rfl⟩
 |false=>
  have HE:Hid (sS false n=(n==0)):=by
   rw[Hid,sS,az (by simp)];by_cases h:n=0<;>simp[h]
  go_enter Tryz.func212,Tryz.ntmps212
  go_wp2
  go_ret
  exact⟨by rw[HE.out];rfl,rfl⟩
abbrev tF(t:fS):Value:=.agg #[.int .i64 t.kind,.int .i64 t.a,.int .i64 t.t0,.int .i64 t.t1]
abbrev sj(t:fS):Obj:=.cells #[.int .i64 t.kind,.int .i64 t.a,.int .i64 t.t0,.int .i64 t.t1] 119
def pU(t:fS):Prop:=I64 t.kind/\I64 t.a/\I64 t.t0/\I64 t.t1
theorem yW{W:World}{g o:Nat}{cells:Array Value}{t:TypeId}(hg:W.heap[g]? =some (.cells cells t (0,0)))(xs:List Int)(hx:∀x∈xs,I64 x)(hn:xs.length<=1000)(hc:∀k,k<xs.length->cells[o+k]? =some (.int .i64 (xs.getD k 0))):iJ W (some ⟨g,o,none⟩) xs.length xs:=
 ⟨rfl,by omega,λk hk=>⟨g,o,rfl,by rw[aZ _ _ _ _ _ _ hg];exact hc k hk,hx _ (by rw[ak,ah hk];exact bJ _)⟩⟩
theorem iT(W:World)(o:Obj)(H:Nat)(hH:W.heap.size=H):(W.alloc o).heap[H]? =some o:=by subst hH;exact ae _ _
def yt(t:fS)(w:World)(e:Ending)(w':World):Prop:=e=.returned (.bool (mU t))/\Below w.heap.size w w'
theorem pD(t:fS)(w:World)(h:pU t):Calls Tryz.prog 133 #[tF t] w (yt t w):=by
 obtain⟨⟨h1,h2⟩,⟨h3,h4⟩,⟨h5,h6⟩,h7,h8⟩:=h
 obtain⟨k,a,x,y⟩:=t
 simp only at h1 h2 h3 h4 h5 h6 h7 h8
 have HX:=ac (show∀z∈[a,x,y],I64 z by simp[I64];omega)
 have box:∀(W:World),Below w.heap.size w W->∀W',Below W.heap.size W W'->Below w.heap.size w W':=λW h1 W' h2=>fC h1 h2
 have HBX:=ac box
 clear box
 by_cases k1:k=1
 .subst k1;have HE:Hid (mU ⟨1,a,x,y⟩=yB [a,y]):=by
   rw[Hid,cS];simp[mU,yB]
  go_enter Tryz.func133,Tryz.ntmps133
  go_wp2_with (go_at_call 211;refine(KA _ _ _ [a,y] _ (yW (iT _ _ _ (by simp)) [a,y] (λz hz=>HX.out z (by simp at hz|-;omega)) (by simp) (λk hk=>by match k,hk with|0,_=>rfl|1,_=>rfl))).mono ?_;rintro e w' ⟨rfl,hb'⟩;have HB':=ac hb';clear hb')
  go_ret
  exact⟨by rw[HE.out];rfl,HBX.out _ ((fD _ _).alloc (by simp) _) _ HB'.out⟩
 .by_cases k2:k=2
  .subst k2;have HE:Hid (mU ⟨2,a,x,y⟩=qG a):=by
    rw[Hid,cS];simp[mU]
   go_enter Tryz.func133,Tryz.ntmps133
   go_wp2_with (go_at_call 132;refine(pL _ _).mono ?_;rintro e w' ⟨rfl,rfl⟩)
   go_ret
   exact⟨by rw[HE.out];rfl,fD _ _⟩
  .by_cases k3:k=3
   .subst k3;by_cases hf:sS (a != 0) a=true
    .have HE:Hid (mU ⟨3,a,x,y⟩=yB [x,y]):=by
      rw[Hid,cS];unfold sS at hf;by_cases ha:a=0
      .simp[mU,yB,ha]
      .simp[ha] at hf;simp[mU,yB,hf]
     have HF:=ac hf;clear hf
     go_enter Tryz.func133,Tryz.ntmps133
     go_wp2_with (first
      |(go_at_call 211;refine(KA _ _ _ [x,y] _ (yW (ae _ _) [x,y] (λz hz=>HX.out z (by simp at hz|-;omega)) (by simp) (λk hk=>by match k,hk with|0,_=>rfl|1,_=>rfl))).mono ?_;rintro e w' ⟨rfl,hb'⟩;have HB':=ac hb';clear hb')
      |(go_at_call 212;refine(DM _ _ _).mono ?_;rintro e w' ⟨rfl,rfl⟩;rw[HF.out]))
     go_ret
     exact⟨by rw[HE.out];rfl,HBX.out _ (fD _ _) _ HB'.out⟩
    .have HE:Hid (mU ⟨3,a,x,y⟩=false):=by
      rw[Hid,dk];unfold sS at hf;by_cases ha:a=0
      .simp[ha] at hf
      .simp[ha] at hf;simp[mU,hf,ha]
     have hf':sS (a != 0) a=false:=by simpa using hf
     have HF:=ac hf';clear hf hf'
     go_enter Tryz.func133,Tryz.ntmps133
     go_wp2_with (go_at_call 212;refine(DM _ _ _).mono ?_;rintro e w' ⟨rfl,rfl⟩;rw[HF.out])
     go_ret
     exact⟨by rw[HE.out];rfl,fD _ _⟩
   .have b1:(k==1)=false:=by simpa using k1
    have b2:(k==2)=false:=by simpa using k2
    have b3:(k==3)=false:=by simpa using k3
    by_cases k4:k=4
    .subst k4;have HE:Hid (mU ⟨4,a,x,y⟩=yB [a,x,y]):=by
      rw[Hid,cS];simp[mU,yB]
     clear b1 b2 b3 k1 k2 k3
     go_enter Tryz.func133,Tryz.ntmps133
     go_wp2_with (go_at_call 211;refine(KA _ _ _ [a,x,y] _ (yW (iT _ _ _ (by simp)) [a,x,y] (λz hz=>HX.out z hz) (by simp) (λk hk=>by match k,hk with|0,_=>rfl|1,_=>rfl|2,_=>rfl))).mono ?_;rintro e w' ⟨rfl,hb'⟩;have HB':=ac hb';clear hb')
     go_ret
     exact⟨by rw[HE.out];rfl,HBX.out _ ((fD _ _).alloc (by simp) _) _ HB'.out⟩
    .have HE:Hid (mU ⟨k,a,x,y⟩=false):=by
      rw[Hid,dk];simp[mU,k1,k2,k3,k4]
     have b4:(k==4)=false:=by simpa using k4
     clear k1 k2 k3 k4
     go_enter Tryz.func133,Tryz.ntmps133
     go_wp2
     go_ret
     exact⟨by rw[HE.out];rfl,fD _ _⟩
end

section
open Go.RowKit
theorem Bz(t:fS)(h:pU t):∀x∈toD t,I64 x:=by
 intro x hx
 unfold toD at hx
 split at hx
 .split at hx
  .simp at hx;subst hx;exact h.2.2.1
  .split at hx
   .simp at hx;rcases hx with rfl|rfl
    .exact h.2.2.1
    .exact h.2.2.2
   .cases hx
 .cases hx
theorem zW{w w':World}{o:Obj}(h:Below (w.alloc o).heap.size (w.alloc o) w'):w.heap.size<=w'.heap.size:=by have:=h.size;simp at this;omega
theorem EE(t:fS)(w:World)(h:pU t):Calls Tryz.prog 137 #[tF t] w (mT w (toD t)):=by
 have HT:=ac h
 have HO:=ac (Bz t h)
 clear h
 obtain⟨k,a,x,y⟩:=t
 by_cases ht:mU ⟨k,a,x,y⟩=true
 .have HB:=ac ht;by_cases k1:k=1
  .subst k1;have HE:Hid (toD ⟨1,a,x,y⟩= [x]):=by rw[Hid,toD,aM ht,aM rfl]
   clear ht
   go_enter Tryz.func137,Tryz.ntmps137
   go_wp2_with (go_at_call 133;refine(pD ⟨1,a,x,y⟩ _ HT.out).mono ?_;rintro e w' ⟨rfl,hb'⟩;rw[HB.out];obtain⟨g1,g2⟩:=kj hb';have HB':=ac hb';clear hb')
   go_ret
   rw[HE.out];exact⟨_,rfl,(JY (xs:= [x]) rfl _ (zW HB'.out) (by have:=HO.out;rwa [HE.out] at this) (by simp)),(fC (fD _ _) HB'.out).alloc (zW HB'.out) _⟩
  .have b1:(k==1)=false:=by simpa using k1
   by_cases k2:k=2
   .subst k2;have HE:Hid (toD ⟨2,a,x,y⟩= [x,y]):=by rw[Hid,toD,aM ht,az (by simp),aM rfl]
    clear ht k1
    go_enter Tryz.func137,Tryz.ntmps137
    go_wp2_with (first
     |(go_at_call 164
       refine(vV _ _ _ [x,y] _ (yW HK.out [x,y] (by have:=HO.out;rwa [HE.out] at this) (by simp) (λk hk=>by match k,hk with|0,_=>rfl|1,_=>rfl))).mono ?_;rintro e w2 ⟨v,rfl,ho,hb2⟩;have HO2:=ac ho;have HB2:=ac hb2
       clear ho hb2)
     |(go_at_call 133
       refine(pD ⟨2,a,x,y⟩ _ HT.out).mono ?_;rintro e w' ⟨rfl,hb'⟩;rw[HB.out];obtain⟨g1,g2⟩:=kj hb';have HK:=ac (fB hb' (ae w (sj ⟨2,a,x,y⟩)));have HB':=ac hb'
       clear hb'))
    go_ret
    rw[HE.out];exact⟨_,rfl,HO2.out.mono (zW HB'.out),fC (fC (fD _ _) HB'.out) HB2.out⟩
   .have b2:(k==2)=false:=by simpa using k2
    have HE:Hid (toD ⟨k,a,x,y⟩= []):=by rw[Hid,toD,aM ht,az k1,az k2]
    clear ht k1 k2
    go_enter Tryz.func137,Tryz.ntmps137
    go_wp2_with (go_at_call 133;refine(pD ⟨k,a,x,y⟩ _ HT.out).mono ?_;rintro e w' ⟨rfl,hb'⟩;rw[HB.out];obtain⟨g1,g2⟩:=kj hb';have HB':=ac hb';clear hb')
    go_ret
    rw[HE.out];exact⟨_,rfl,gD.nil _ _,fC (fD _ _) HB'.out⟩
 .have HE:Hid (toD ⟨k,a,x,y⟩= []):=by rw[Hid,toD,az ht]
  have ht':mU ⟨k,a,x,y⟩=false:=by simpa using ht
  have HB:=ac ht';clear ht ht'
  go_enter Tryz.func137,Tryz.ntmps137
  go_wp2_with (go_at_call 133;refine(pD ⟨k,a,x,y⟩ _ HT.out).mono ?_;rintro e w' ⟨rfl,hb'⟩;rw[HB.out];obtain⟨g1,g2⟩:=kj hb';have HB':=ac hb';clear hb')
  go_ret
  rw[HE.out];exact⟨_,rfl,gD.nil _ _,fC (fD _ _) HB'.out⟩
end

section
open Go.RowKit Go.Shelf
attribute [local go_sem] Oper.semAt_some iF gH gS fX
def rU(x:Nat):Array Value:=#[.int .i64 (x:Int)]
def nD(f:Nat->Bool)(k:Nat):List Nat:=(List.range' k (200-k)).filter f
theorem LA(f:Nat->Bool):nD f 0=gQ f:=by rw[nD,gQ,List.range_eq_range']
theorem OF(f:Nat->Bool):nD f 200= []:=rfl
theorem LB(f:Nat->Bool)(k:Nat)(h:k<200):nD f k=if f k then k :: nD f (k+1) else nD f (k+1):=by
 rw[nD,show 200-k=(200-(k+1))+1 by omega,List.range'_succ,b6]
 rfl
abbrev jY(f:Nat->Bool):Obj:=.cells (gK f) 138 (0,0)
theorem sW(S:Nat)(w:World):Calls Tryz.prog 64 #[.pointer (some ⟨S,0,none⟩)] w λe w'=>e=.returned (.func (.func 159) #[] #[.pointer (some ⟨w.heap.size,0,none⟩)])/\w'=w.alloc (.cells #[.pointer (some ⟨S,0,none⟩)] 245):=by
 go_enter Tryz.func64,Tryz.ntmps64
 go_wp2
 go_ret
 exact⟨rfl,rfl⟩
theorem qL(f:Nat->Bool)(G S:Nat):uU Tryz.prog 159 #[.pointer (some ⟨G,0,none⟩)] rU (gQ f) (λW=>W.cell? ⟨G,0,none⟩=some (.pointer (some ⟨S,0,none⟩))/\W.heap[S]? =some (jY f)):=by
 intro l K Kx W hK hKx hInv hY h0
 refine eK Tryz.func159 rfl trivial ?_ rfl
 simp only[Tryz.ntmps159,bd,bk,bx,Nat.reduceAdd,Nat.reduceSub,bF,bG,bV,bN,bD,bU]
 have HY:=ac hY
 have HI:=ac hInv
 have HK0:=ac hK
 have H0:Hid (K (nD f 0) W):=by rw[Hid,LA];exact h0
 have hg0:W.cell? ⟨G,0,none⟩=some (.pointer (some ⟨S,0,none⟩)):=(hInv _ _ h0).1
 clear hY hInv hK hKx h0
 gi_wp2
 gi_loopw [6] (λi wr=>∃k:Nat,i=.int .i64 k/\k<=200/\Hid (K (nD f k) wr)) (λi _=>200-(intOf i).toNat)
 case atStart=>exact⟨0,rfl,by omega,H0.out⟩
 case round=>
  obtain⟨k,rfl,hk,HK⟩:=hrel;clear hg0;have hSr:=(HI.out _ _ HK.out).2;have hn:∀q,(wr.drewN q).cell? ⟨S,0,none⟩=some (.bool (f 0)):=λq=>by rw[aZ (wr.drewN q) _ _ _ _ _ hSr,tL _ _ (by omega)]
  have hne:wr.cell? ⟨S,0,none⟩=some (.bool (f 0)):=hn 0;by_cases hlt:k<200
  .have hc:wr.cell? ⟨S,k,none⟩=some (.bool (f k)):=by rw[aZ _ _ _ _ _ _ hSr,tL _ _ hlt]
   have HST:=ac (LB f k hlt);have hlt':(k:Int)<200:=by omega
   clear hSr hn;by_cases hf:f k=true
   .rw[hf] at hc;have HR:Hid (nD f k=k :: nD f (k+1)):=by rw[Hid,HST.out,aM hf]
    clear hf HST
    gi_wp2
    refine rP (by kernel_rfl) (by kernel_rfl) ?_
    repeat (go_big_quiet_step (fail))
    refine aq ?_;rintro _ ⟨nq,rfl⟩;have HKq:Hid (K (nD f k) (wr.drewN nq)):=HK0.out _ _ _ HK.out (gB (ag _ _) nq);obtain⟨fn,tmps,assign,body,hy,hR⟩:=HY.out (nD f k) k (wr.drewN nq) (by rw[HR.out];rfl) HKq.out;unfold rU at hy;have hT:nxL (nD f k) k=nD f (k+1):=by rw[HR.out];rfl
    rw[hT] at hR;have HR2:=ac hR;clear hT hR HKq
    gi_wp2
    refine HR2.out.mono ?_;rintro e W' (⟨rfl,hJ'⟩|⟨rfl,hX'⟩)
    .have HK1:=ac hJ';clear hJ' hy HR2
     gi_wp2
     go_roundw
     case rel=>exact⟨k+1,by go_num,by omega,HK1.out⟩
     case measure=>simp[intOf];omega
    .have HX:=ac hX';clear hX' hy HR2
     gi_wp2
     exact aR (v:=.tuple #[]) (by simp[results,Tryz.results159,go_sem]) rfl ⟨⟨_,rfl⟩,Or.inr HX.out⟩
   .have hf':f k=false:=by simpa using hf
    rw[hf'] at hc;have HR:Hid (nD f k=nD f (k+1)):=by rw[Hid,HST.out,az hf]
    clear hf hf' HST
    gi_wp2
    refine rP (by kernel_rfl) (by kernel_rfl) ?_
    repeat (go_big_quiet_step (fail))
    refine aq ?_;rintro _ ⟨nq,rfl⟩;have HKq:Hid (K (nD f (k+1)) (wr.drewN nq)):=by rw[<-HR.out];exact HK0.out _ _ _ HK.out (gB (ag _ _) nq)
    gi_wp2
    go_roundw
    case rel=>exact⟨k+1,by go_num,by omega,HKq.out⟩
    case measure=>simp[intOf];omega
  .obtain rfl:k=200:=by omega
   clear hSr hn
   gi_wp2
   go_end0
   exact⟨⟨_,rfl⟩,Or.inl ⟨_,OF f,HK.out⟩⟩
theorem qq(f:Nat->Bool)(G S:Nat)(w:World)(hG:w.cell? ⟨G,0,none⟩=some (.pointer (some ⟨S,0,none⟩)))(hS:w.heap[S]? =some (jY f)):
  su Tryz.prog 159 #[.pointer (some ⟨G,0,none⟩)] rU (gQ f) w:=
 (qL f G S).mono λW hb=>⟨fZ hb hG,fB hb hS⟩
end

section
open Go.RowKit Go.Shelf
attribute [local go_sem] Oper.semAt_some iF gH gS fX
theorem ws(l:List Nat)(h:∀x∈l,x<1000000):∀x∈fN l,I64 x:=by
 intro x hx
 simp only[fN,a8] at hx
 obtain⟨k,hk,rfl⟩:=hx
 have:=h k hk
 unfold I64
 omega
theorem sE{w:World}{base:Nat}{e:TypeId}{size:Nat}{v:Value}{n:Nat}{xs:List Value}(h:w.ownsRow base e size v n xs):∀(j:Nat) (o:Obj),v.ownBlock=some j->w.heap[j]? =some o->nH o=false:=by
 intro j o hj ho
 rcases h.2 with ⟨rfl,_⟩|⟨g,cap,cur,rfl,_,hh,_⟩
 .cases hj
 .simp only[Value.ownBlock,aW] at hj;subst hj;rw[hh] at ho;cases ho;rfl
theorem fQ{w w':World}{row:Option Nat}(hg:w.grownBy w' row){k:Nat}{o:Obj}(hk:w.heap[k]? =some o)(hne:row≠some k):w'.heap[k]? =some o:=
 (hg.block k (au.1 hk).1 (λe=>hne e.symm)).trans hk
theorem fU(w:World)(b o:Nat)(u:Value):w.grownBy (w.setCell ⟨b,o,none⟩ u) (some b):=
 ⟨rfl,rfl,rfl,by simp,λk _ hne=>aU _ _ _ _ (λe=>hne (by rw[e]))⟩
def AJ(w:World)(B:Nat)(base:Nat)(xs:List Int)(W:World):Prop:=
 ∃v,W.heap[B]? =some (.cells #[v] 22 (0,0))/\gD W base v xs/\v.ownBlock≠some B/\Below w.heap.size w W/\w.heap.size<W.heap.size
theorem fG.ownI(D base:Nat)(v:Value)(xs:List Int):fG D (λW=>gD W base v xs):=(fG.ownsRow _ _ _ _ _ _ _).and (fG.pure _ _)
theorem fG.size(D n:Nat):fG D (λW=>n<W.heap.size):=λ_ _ _ h hg _=>bw h hg.size
theorem AJ.steady{w:World}{B base:Nat}{xs:List Int}{D:Nat}(hD:w.heap.size<=D):fG D (AJ w B base xs):=by
 unfold AJ
 exact fG.ex λv=>(fG.block _ _ rfl).and ((fG.ownI _ _ _ _).and ((fG.pure _ _).and ((fG.below (aj _) hD).and (fG.size _ _))))
theorem NP(gf:Nat)(lb:Array Value)(l:List Nat)(w:World)(eg:∀args w,(callFunc gf args).run Tryz.prog w=.ok (.enter gf args) w)(hit:∀W,Below w.heap.size w W->su Tryz.prog gf lb rU l W)(hl:l.length<=1000000)(hx:∀x∈l,x<1000000):
  Calls Tryz.prog 226 #[.slice none 0 0,.func (.func gf) #[] lb] w (mT w (fN l)):=by
 refine(bu (n:=0)).1 ?_
 refine cu Tryz.func226 rfl trivial ?_
 simp only[Tryz.ntmps226,bd,bk,bx,Nat.reduceAdd,Nat.reduceSub,bF,bG,bV,bN,bD,bU]
 have HIT:=ac hit
 have HX:=ac hx
 clear hit hx
 gi_wp2
 refine sC (ps:=#[7]) (gf:=gf) (lb:=lb) (enc:=rU) (l:=l) rfl eg (λW=>Below w.heap.size w W) (HIT.out _ (ag _ _)) (λ_=>rfl)
  (λd r W=>Hid (AJ w w.heap.size w.heap.size (fN d) W))
  (λ_ _=>False)
  (λd r=>AJ.steady (by simp)) (λc=>fG.pure _ _) (λd r W h=>by obtain⟨v,_,_,_,hb,_⟩:=h.out;exact hb) ?start ?round ?done ?stop
 case start=>exact⟨_,ae _ _,gD.nil _ _,by simp[Value.ownBlock],(ag _ w).alloc (aj _) _,by simp⟩
 case round=>
  rintro lp d x r W hd hJ;unfold rU
  gi_wp2
  refine⟨gC.refl _,hJ,?_⟩;clear hJ lp W;rintro lp W hJ;obtain⟨v,hv,ho,hne,hb,hlt0⟩:=hJ.out;obtain⟨av,cv,rfl⟩:=ho.form;obtain⟨hc0,hf0⟩:=cz 0 hv rfl;have HO:=ac ho;have HV:=ac hv;have HB:=ac hb;have HNE:=ac hne;have hlen:(fN d).length<=1000000:=by rw[hd] at hl;simp[fN] at hl|-;omega
  clear hv ho hb hJ hne
  gi_wp2_with (
   (gi_at_builtin
    refine oM (by repeat (first|exact gZ|refine iK ?_|refine hU ?_)) _ _ _ rfl ?_;refine jI rfl W (.tmp 8) (.tmp 10) 22 3 rfl w.heap.size _ 1 8 be pY rfl (by omega) (.slice av (fN d).length cv) (fN d).length _ [.int .i64 (x:Int)] rfl HO.out.1 W.heap.size rfl rfl rfl (by simp[Value.oneCell']) (by simp only[maxLen];omega) (by omega) (by omega) ?_;intro g cap w2 hown2 hg2 hat2;have HO2:=ac hown2;have HG2:=ac hg2;have HA2:=ac hat2;have hv2:=fQ hg2 HV.out HNE.out;obtain⟨hc2,hf2⟩:=cz 0 hv2 rfl;have hlt2:w.heap.size<w2.heap.size:=(au.1 hv2).1;have HV2:=ac hv2
    clear hown2 hg2 hat2 hv2 hc0 hf0))
  go_wp2;have hb2:Below w.heap.size w w2:=HB.out.grown HG2.out HB.out.size (λk e=>(HO.out.1.lt k e).1);have hgne:g≠w.heap.size:=by
   rcases HA2.out with h|h
   .exact λe=>HNE.out (by rw[<-h,e])
   .omega
  have hd2:fN (d++ [x])=fN d++ [(x:Int)]:=by simp[fN]
  refine⟨(gC.grown HG2.out (sE HO.out.1)).trans (gC.setCell _ _ _),?_⟩;refine⟨_,by have:=aC w2 w.heap.size 0 _ _ (.slice (some ⟨g,0,none⟩) ((fN d).length+1) cap) HV2.out;simpa using this,?_,by simpa[Value.ownBlock] using hgne,?_⟩
  .rw[hd2];refine gD.kept (row:=some w.heap.size) (w:=w2) ⟨?_,?_,by simp;omega⟩ (fU w2 w.heap.size 0 _) (.inr (by simp[Value.ownBlock];omega))
   .have:=HO2.out;simpa[fP] using this
   .intro z hz;rcases ax.1 hz with h|h
    .exact HO.out.2.1 z h
    .simp only[bz] at h;subst h;have:=HX.out x (by rw[hd];simp);unfold I64;omega
  .exact⟨hb2.setCell (aj _) _,by simpa using hlt2⟩
 case done=>
  rintro D W hD hJ hK;obtain⟨v,hv,ho,hne,hb,hlt0⟩:=hJ.out;obtain⟨av,cv,rfl⟩:=ho.form;have hc0:=cK 0 hv rfl;have HO:=ac ho;have HB:=ac hb;have HJ:=hJ;clear hv ho hb hJ hne
  gi_wp2
  obtain⟨v2,hv2,ho2,_,hb2,_⟩:=(AJ.steady (w:=w) (B:=w.heap.size) (base:=w.heap.size) (xs:=fN l) (D:=w.heap.size) (aj _)).put (.deferred none) (l:=D) HJ.out (by simp at hD;omega) hK rfl;refine⟨by simp,.inl ⟨_,_,rfl,cM hK,?_⟩⟩;have ho3:gD (W.putObj D (.deferred none)) w.heap.size (.slice av (fN l).length cv) (fN l):=(fG.ownI w.heap.size w.heap.size (.slice av (fN l).length cv) (fN l)).put (.deferred none) (l:=D) HO.out (by simp at hD;omega) hK rfl;exact⟨.slice av (fN l).length cv,by simp[results,Tryz.results226,go_sem],_,rfl,ho3,hb2⟩
 case stop=>rintro D c W hD h;exact h.elim
theorem YH(gf:Nat)(lb:Array Value)(l:List Nat)(w:World)(eg:∀args w,(callFunc gf args).run Tryz.prog w=.ok (.enter gf args) w)(hit:∀W,Below w.heap.size w W->su Tryz.prog gf lb rU l W)(hl:l.length<=1000000)(hx:∀x∈l,x<1000000):
  Calls Tryz.prog 158 #[.func (.func gf) #[] lb] w (mT w (fN l)):=by
 have HIT:=ac hit
 have HX:=ac hx
 have EG:=ac eg
 clear hit hx eg
 go_enter Tryz.func158,Tryz.ntmps158
 go_wp2_with (go_at_call 226;refine(NP gf lb l w EG.out HIT.out hl HX.out).mono ?_;rintro e w' ⟨v,rfl,ho,hb⟩;have HO:=ac ho;have HB:=ac hb;clear ho hb)
 go_ret
 exact⟨_,rfl,HO.out,HB.out⟩
theorem uF(f:Nat->Bool):∀x∈gQ f,x<200:=λx hx=>by simp[gQ] at hx;exact hx.1
theorem EY(f:Nat->Bool):(gQ f).length<=200:=by
 have:=bX f (List.range 200)
 simpa[gQ] using this
theorem pE(args:Array Value)(w:World):(callFunc 159 args).run Tryz.prog w=.ok (.enter 159 args) w:=dK Tryz.func159 (by kernel_rfl) rfl args w
theorem DH(f:Nat->Bool)(w:World):Calls Tryz.prog 63 #[.agg (gK f)] w (mT w (fN (gQ f))):=by
 go_enter Tryz.func63,Tryz.ntmps63
 go_wp2_with (first
  |(go_at_call 64;refine(sW _ _).mono ?_;rintro e w' ⟨rfl,rfl⟩)
  |(go_at_call 158
    refine(YH _ _ (gQ f) _ pE (λW hW=>qq f _ w.heap.size W ?_ ?_) (by have:=EY f;omega) (λx hx=>by have:=uF f x hx;omega)).mono ?_
    .exact fZ hW (cR (iT _ _ _ (by simp)) rfl)
    .exact fB hW ((aG _ _ _ (by simp)).trans (ae _ _))
    rintro e w' ⟨v,rfl,ho,hb⟩;have HO:=ac ho;have HB:=ac hb
    clear ho hb))
 go_ret
 exact⟨_,rfl,HO.out.mono (by simp;omega),fC ((fD _ _).alloc (by simp) _) HB.out⟩
end

section
open Go.RowKit
theorem gF:(Tryz.prog.info? 138).map (·.size)=some 200:=by kernel_rfl
theorem oX:Tryz.zeroCells138=gK λ_=>false:=by kernel_rfl
def xG(w:World)(f:Nat->Bool)(e:Ending)(w':World):Prop:=e=.returned (.agg (gK f))/\Below w.heap.size w w'
theorem uE{W:World}{g:Nat}{f:Nat->Bool}(hg:W.heap[g]? =some (jY f)):(loadVar 138 ⟨g,0,none⟩).run Tryz.prog W=.ok (.agg (gK f)) W:=
 cQ (P:=Tryz.prog) W g 138 138 _ (0,0) _ hg aL rfl (by rw[fO];exact gF)
theorem AD{W:World}{g:Nat}{f:Nat->Bool}(hg:W.heap[g]? =some (jY f))(j:Nat)(hj:j<200)(b:Bool):(W.setCell ⟨g,j,none⟩ (.bool b)).heap[g]? =some (jY λk=>if k=j then b else f k):=by
 rw[aC _ _ _ _ _ _ hg,uj _ _ hj]
theorem lK{W:World}{g:Nat}{f:Nat->Bool}(hg:W.heap[g]? =some (jY f))(j:Nat)(hj:j<200):W.cell? ⟨g,j,none⟩=some (.bool (f j)):=by rw[aZ _ _ _ _ _ _ hg,tL _ _ hj]
theorem rJ{W:World}{g:Nat}{f:Nat->Bool}(hg:W.heap[g]? =some (jY f))(j:Nat):W.frozen? ⟨g,j,none⟩=false:=cY _ _ _ _ _ hg
theorem fE{W:World}{g:Nat}{o:Obj}(h:W.heap[g]? =some o):g<W.heap.size:=(au.1 h).1
theorem qb(f:Nat->Bool)(b:Nat):(λk=>if k=b then false else f k)=iU f b:=by
 funext k
 by_cases e:k=b<;>simp[iU,e]
theorem KF(f:Nat->Bool)(b:Nat)(hb:b<200)(w:World):Calls Tryz.prog 151 #[.agg (gK f),.int .i64 (b:Int)] w (xG w (iU f b)):=by
 go_enter Tryz.func151,Tryz.ntmps151
 go_upto_region 1 with (fail)
 obtain⟨W,hW⟩:∃W,W=(w.alloc (jY f)).alloc (.cells Tryz.zeroCells138 138):=⟨_,rfl⟩
 rw[<-hW]
 have hs:W.heap[w.heap.size]? =some (jY f):=by rw[hW,aG _ _ _ (by simp)];exact ae _ _
 have hr:W.heap[w.heap.size+1]? =some (jY λ_=>false):=by rw[hW,iT _ _ _ (by simp),oX]
 have hB:Below w.heap.size w W:=by rw[hW];exact(fD _ _).alloc (by simp) _
 have HW:=ac hW
 clear hW
 have hc:=lK hs b hb
 have hf:=rJ hs b
 have hs2:=AD hs b hb false
 rw[qb] at hs2
 have hr2:=(fQ (fU W w.heap.size b (.bool false)) hr (by simp))
 have hB2:=hB.setCell (p:=⟨w.heap.size,b,none⟩) (aj _) (.bool false)
 have HS2:=ac hs2
 have HR2:=ac hr2
 have HB2:=ac hB2
 have hl:=fE hs
 clear hs hr hB hs2 hr2 hB2
 go_wp2_with (first
  |(refine ay rfl 138 _ rfl w.heap.size rfl 138 _ (0,0) _ HS2.out aL rfl (by rw[fO];exact gF) ?_)
  |(refine aP rfl 138 _ _ rfl (w.heap.size+1) (gK (iU f b)) rfl rfl 138 _ HR2.out (by rw[fO];exact gF) rfl (mR _) ?_))
 exact aR (v:=.agg (gK (iU f b))) (by simp[results,Tryz.results151,asAddr,Act.put,uE (bt _ _ _ _ _ _ HR2.out)]) rfl ⟨rfl,aX HB2.out (by omega) _⟩
theorem z8(xs:List Int)(k:Nat)(hk:k<xs.length)(h0:0<=xs.getD k 0)(h1:xs.getD k 0<200):(λj=>if j=(xs.getD k 0).toNat then true else ofS (xs.take k) j)=ofS (xs.take (k+1)):=by
 funext j
 rw[NS xs k 0 hk,ofS,ofS,List.contains_append]
 generalize xs.getD k 0=x at h0 h1
 by_cases e:j=x.toNat
 .subst e;have h3:((x.toNat:Nat):Int)=x:=Int.toNat_of_nonneg h0;have h4:x.toNat<200:=by omega
  simp[h3,h4]
 .have e2:¬(j:Int)=x:=by omega
  simp[e,e2]
theorem VB(xs:List Int)(k:Nat)(hk:k<xs.length)(h:xs.getD k 0<0\/200<=xs.getD k 0):ofS (xs.take k)=ofS (xs.take (k+1)):=by
 funext j
 rw[NS xs k 0 hk,ofS,ofS,List.contains_append]
 generalize xs.getD k 0=x at h
 by_cases hj:j<200
 .have e2:¬(j:Int)=x:=by omega
  simp[e2]
 .simp[hj]
theorem CZ{W:World}{g:Nat}{f h:Nat->Bool}{j:Nat}{b:Bool}(hg:W.heap[g]? =some (jY f))(hj:j<200)(e:(λk=>if k=j then b else f k)=h):(W.setCell ⟨g,j,none⟩ (.bool b)).heap[g]? =some (jY h):=by rw[<-e];exact AD hg j hj b
theorem Ca(a:Option Addr)(n c:Nat)(xs:List Int)(w:World)(h:iJ w a n xs):Calls Tryz.prog 70 #[.slice a n c] w (xG w (ofS xs)):=by
 have HL:=ac h.1
 have hn:=h.2.1
 have H:=ac h
 clear h
 go_enter Tryz.func70,Tryz.ntmps70
 go_wp2
 go_loopw [4,7] (λ_ i wr=>∃(k:Nat),k<=n/\i=.int .i64 k/\Hid (wr.heap[w.heap.size]? =some (jY (ofS (xs.take k))))/\Hid (Below w.heap.size w wr)) (λ_ i _=>n-(intOf i).toNat)
 case atStart=>exact⟨0,by omega,rfl,by rw[Hid,ae,oX];congr 3;funext j;simp[ofS],fD _ _⟩
 case round=>
  obtain⟨k,hk,rfl,HS,HB⟩:=hrel;by_cases hlt:k<n
  .obtain⟨b,o,rfl,hc,hw1,hw2⟩:=(H.out.ext HB.out).2.2 k hlt;have hkx:k<xs.length:=by rw[HL.out];exact hlt
   by_cases h0:0<=xs.getD k 0
   .by_cases h1:xs.getD k 0<200
    .have hx:(xs.getD k 0).toNat<200:=by omega
     have hcell:=lK HS.out _ hx;have hfr:=rJ HS.out (xs.getD k 0).toNat;have HS2:=ac (CZ HS.out hx (z8 xs k hkx h0 h1));have hl:=fE HS.out;generalize xs.getD k 0=x at *;generalize ofS (xs.take k) x.toNat=bb at *;go_wp2
     go_roundw
     case rel=>exact⟨k+1,by omega,by go_num,HS2,HB.out.setCell (aj _) _⟩
     case measure=>simp[intOf];omega
    .have HS2:Hid (wr.heap[w.heap.size]? =some (jY (ofS (xs.take (k+1))))):=by rw[Hid,<-VB xs k hkx (.inr (by omega))];exact HS.out
     generalize xs.getD k 0=x at *;go_wp2
     go_roundw
     case rel=>exact⟨k+1,by omega,by go_num,HS2,HB⟩
     case measure=>simp[intOf];omega
   .have HS2:Hid (wr.heap[w.heap.size]? =some (jY (ofS (xs.take (k+1))))):=by rw[Hid,<-VB xs k hkx (.inl (by omega))];exact HS.out
    generalize xs.getD k 0=x at *;go_wp2
    go_roundw
    case rel=>exact⟨k+1,by omega,by go_num,HS2,HB⟩
    case measure=>simp[intOf];omega
  .have HT:Hid (xs.take k=xs):=bC (by rw[HL.out];omega);have HSx:Hid (wr.heap[w.heap.size]? =some (jY (ofS xs))):=by have:=HS.out;rwa [HT.out] at this
   go_wp2_with (first
    |(refine ay rfl 138 _ rfl w.heap.size rfl 138 _ (0,0) _ HSx.out aL rfl (by rw[fO];exact gF) ?_)
    |(refine aP rfl 138 _ _ rfl w.heap.size (gK (ofS xs)) rfl rfl 138 _ HSx.out (by rw[fO];exact gF) rfl (mR _) ?_))
   exact aR (v:=.agg (gK (ofS xs))) (by simp[results,Tryz.results70,asAddr,Act.put,uE (bt _ _ _ _ _ _ HSx.out)]) rfl ⟨rfl,aX HB.out (by omega) _⟩
def JI(w:World)(a:Option Addr)(n:Nat)(L:List (List Nat)):Prop:=
 L.length=n/\n<=1000/\∀k xs,L[k]? =some xs->∃b o ra rc,a=some ⟨b,o,none⟩/\w.cell? ⟨b,o+k,none⟩=some (.slice ra xs.length rc)/\iJ w ra xs.length (fN xs)
theorem JI.ext{w w':World}{a:Option Addr}{n:Nat}{L:List (List Nat)}(h:JI w a n L)(hb:Below w.heap.size w w'):JI w' a n L:=
 ⟨h.1,h.2.1,λk xs hx=>by
  obtain⟨b,o,ra,rc,e,hc,hi⟩:=h.2.2 k xs hx
  exact⟨b,o,ra,rc,e,fZ hb hc,hi.ext hb⟩⟩
structure lJ where
 pa:Option Addr
 pn:Nat
 pc:Nat
 ba:Option Addr
 bn:Nat
 bc:Nat
 ta:Option Addr
 tc:Nat
 fa:Option Addr
 fc:Nat
abbrev jJ(d:lJ):Value:=.agg #[.slice d.pa d.pn d.pc,.slice d.ba d.bn d.bc,.slice d.ta d.bn d.tc,.slice d.fa d.bn d.fc]
abbrev qM(d:lJ):Obj:=.cells #[.slice d.pa d.pn d.pc,.slice d.ba d.bn d.bc,.slice d.ta d.bn d.tc,.slice d.fa d.bn d.fc] 129
def tZ(ts:List fS):List (List Nat):=(List.range ts.length).map (nx ts)
def sV(ts:List fS):List (List Nat):=(List.range ts.length).map (pv ts)
def mQ(w:World)(d:lJ)(ts:List fS):Prop:=ts.length=d.bn/\d.bn<=200/\JI w d.ta d.bn (tZ ts)/\JI w d.fa d.bn (sV ts)
theorem mQ.ext{w w':World}{d:lJ}{ts:List fS}(h:mQ w d ts)(hb:Below w.heap.size w w'):mQ w' d ts:=⟨h.1,h.2.1,h.2.2.1.ext hb,h.2.2.2.ext hb⟩
theorem wL(d:lJ)(hd:d.bn<=200)(w:World):Calls Tryz.prog 56 #[jJ d] w (xG w (fM d.bn)):=by
 go_enter Tryz.func56,Tryz.ntmps56
 go_wp2
 go_loopw [3,8] (λ_ i wr=>∃(k:Nat),k<=d.bn/\i=.int .i64 k/\Hid (wr.heap[w.heap.size+1]? =some (jY (fM k)))/\Hid (Below w.heap.size w wr)) (λ_ i _=>d.bn-(intOf i).toNat)
 case atStart=>exact⟨0,by omega,rfl,by rw[Hid,iT _ _ _ (by simp),oX];rfl,(fD _ _).alloc (by simp) _⟩
 case round=>
  obtain⟨k,hk,rfl,HS,HB⟩:=hrel;by_cases hlt:k<d.bn
  .have hcell:=lK HS.out k (by omega);have hfr:=rJ HS.out k;have HS2:=ac (CZ (h:=fM (k+1)) (b:=true) HS.out (show k<200 by omega) (by funext j;by_cases e:j=k<;>simp[fM,e]<;>omega));have hl:=fE HS.out;generalize fM k k=bb at *;go_wp2
   go_roundw
   case rel=>exact⟨k+1,by omega,by go_num,HS2,HB.out.setCell (by simp) _⟩
   case measure=>simp[intOf];omega
  .obtain rfl:k=d.bn:=by omega
   go_wp2_with (first
    |(refine ay rfl 138 _ rfl (w.heap.size+1) rfl 138 _ (0,0) _ HS.out aL rfl (by rw[fO];exact gF) ?_)
    |(refine aP rfl 138 _ _ rfl (w.heap.size+1) (gK (fM d.bn)) rfl rfl 138 _ HS.out (by rw[fO];exact gF) rfl (mR _) ?_))
   exact aR (v:=.agg (gK (fM d.bn))) (by simp[results,Tryz.results56,asAddr,Act.put,uE (bt _ _ _ _ _ _ HS.out)]) rfl ⟨rfl,aX HB.out (by omega) _⟩
end

section
open Go.Shelf
def XO:Go.Shelf.Ren:=⟨λ|189=>165|125=>231|257=>230|128=>264|129=>265|294=>255|295=>256|296=>257|297=>258|298=>259|299=>260|216=>261|300=>262|301=>263|328=>270|329=>271|330=>272|331=>273|332=>274|215=>156|343=>275|n=>n,λ|28=>22|3=>3|46=>311|0=>0|51=>267|53=>122|4=>4|183=>348|182=>347|131=>109|5=>5|9=>9|218=>355|222=>359|228=>361|229=>362|n=>n,λ|n=>n⟩
theorem lw:Go.Proofs.Lays.n189 Tryz.prog XO:={
 mixed:=by rfl
 f125:=Tryz.func231.trans (bh some (by rfl))
 f128:=Tryz.func264.trans (bh some (by rfl))
 f129:=Tryz.func265.trans (bh some (by rfl))
 f189:=Tryz.func165.trans (bh some (by rfl))
 f215:=Tryz.func156.trans (bh some (by rfl))
 f216:=Tryz.func261.trans (bh some (by rfl))
 f257:=Tryz.func230.trans (bh some (by rfl))
 f294:=Tryz.func255.trans (bh some (by rfl))
 f295:=Tryz.func256.trans (bh some (by rfl))
 f296:=Tryz.func257.trans (bh some (by rfl))
 f297:=Tryz.func258.trans (bh some (by rfl))
 f298:=Tryz.func259.trans (bh some (by rfl))
 f299:=Tryz.func260.trans (bh some (by rfl))
 f300:=Tryz.func262.trans (bh some (by rfl))
 f301:=Tryz.func263.trans (bh some (by rfl))
 f328:=Tryz.func270.trans (bh some (by rfl))
 f329:=Tryz.func271.trans (bh some (by rfl))
 f330:=Tryz.func272.trans (bh some (by rfl))
 f331:=Tryz.func273.trans (bh some (by rfl))
 f332:=Tryz.func274.trans (bh some (by rfl))
 f343:=Tryz.func275.trans (bh some (by rfl))
 t0:=Tryz.underlying0
 a0:=Tryz.isAgg0
 z0:=Tryz.sizeOf0
 v0:=Tryz.zeroValue0
 t3:=bP
 a3:=Tryz.isAgg3
 z3:=Tryz.sizeOf3
 v3:=Tryz.zeroValue3
 t4:=eC
 a4:=Tryz.isAgg4
 z4:=Tryz.sizeOf4
 v4:=Tryz.zeroValue4
 t5:=Tryz.underlying5
 a5:=Tryz.isAgg5
 z5:=Tryz.sizeOf5
 v5:=Tryz.zeroValue5
 t9:=Tryz.underlying9
 a9:=Tryz.isAgg9
 z9:=Tryz.sizeOf9
 v9:=Tryz.zeroValue9
 t28:=be
 a28:=Tryz.isAgg22
 z28:=Tryz.sizeOf22
 v28:=Tryz.zeroValue22
 t46:=Tryz.underlying311
 a46:=Tryz.isAgg311
 z46:=Tryz.sizeOf311
 v46:=Tryz.zeroValue311
 t51:=Tryz.underlying267
 a51:=Tryz.isAgg267
 z51:=Tryz.sizeOf267
 v51:=Tryz.zeroValue267
 t53:=fh
 a53:=Tryz.isAgg122
 z53:=Tryz.sizeOf122
 v53:=Tryz.zeroValue122
 t131:=Tryz.underlying109
 a131:=Tryz.isAgg109
 z131:=Tryz.sizeOf109
 v131:=Tryz.zeroValue109
 t182:=Tryz.underlying347
 a182:=Tryz.isAgg347
 z182:=Tryz.sizeOf347
 v182:=Tryz.zeroValue347
 t183:=Tryz.underlying348
 a183:=Tryz.isAgg348
 z183:=Tryz.sizeOf348
 v183:=Tryz.zeroValue348
 t218:=Tryz.underlying355
 a218:=Tryz.isAgg355
 z218:=Tryz.sizeOf355
 v218:=Tryz.zeroValue355
 t222:=Tryz.underlying359
 a222:=Tryz.isAgg359
 z222:=Tryz.sizeOf359
 v222:=Tryz.zeroValue359
 t228:=Tryz.underlying361
 a228:=Tryz.isAgg361
 z228:=Tryz.sizeOf361
 v228:=Tryz.zeroValue361
 t229:=Tryz.underlying362
 a229:=Tryz.isAgg362
 z229:=Tryz.sizeOf362
 v229:=Tryz.zeroValue362}
open Go.Sort Go.RowKit in
theorem slices_Sort_int(blk off cap:Nat)(zs:List Int)(w:World)(hH:Holds (Value.int .i64) w blk off zs.toArray)(hblk:blk<w.heap.size)(hsz:zs.length<4611686018427387904):
  Calls Tryz.prog 165 #[.slice (some ⟨blk,off,none⟩) zs.length cap] w λe w'=>
   e=.returned (.tuple #[])/\∃n os,w'=grow (putRow (Value.int .i64) (Sort.ahead w n) blk off (zs.mergeSort λx y=>decide (x<=y)).toArray) os:=Any.slices_Sort_int lw blk off cap zs w hH hblk hsz
def XP:Go.Shelf.Ren:=⟨λ|112=>238|n=>n,λ|28=>22|3=>3|4=>4|0=>0|n=>n,λ|n=>n⟩
theorem lx:Go.Proofs.Lays.n112 Tryz.prog XP:={
 mixed:=by rfl
 f112:=Tryz.func238.trans (bh some (by rfl))
 t0:=Tryz.underlying0
 a0:=Tryz.isAgg0
 z0:=Tryz.sizeOf0
 v0:=Tryz.zeroValue0
 t3:=bP
 a3:=Tryz.isAgg3
 z3:=Tryz.sizeOf3
 v3:=Tryz.zeroValue3
 t4:=eC
 a4:=Tryz.isAgg4
 z4:=Tryz.sizeOf4
 v4:=Tryz.zeroValue4
 t28:=be
 a28:=Tryz.isAgg22
 z28:=Tryz.sizeOf22
 v28:=Tryz.zeroValue22}
open Go.RowKit Go.Lib Go.Sort in
theorem slices_Reverse_int(blk off cap:Nat)(zs:List Int)(w:World)(hH:Holds (Value.int .i64) w blk off zs.toArray)(hsz:zs.length<=9223372036854775807):
  Calls Tryz.prog 238 #[.slice (some ⟨blk,off,none⟩) zs.length cap] w λe w'=>e=.returned (.tuple #[])/\∃n,w'=putRow (Value.int .i64) (Sort.ahead w n) blk off zs.reverse.toArray:=Any.slices_Reverse_int lx blk off cap zs w hH hsz
open Go.RowKit Go.Lib Go.Sort in
theorem slices_Reverse_int_empty(a:Option Addr)(cap:Nat)(w:World):
  Calls Tryz.prog 238 #[.slice a 0 cap] w λe w'=>e=.returned (.tuple #[])/\w'=w:=Any.slices_Reverse_int_empty lx a cap w
def NH:Go.Shelf.Ren:=⟨λ|20=>166|n=>n,λ|22=>22|3=>3|4=>4|0=>0|n=>n,λ|n=>n⟩
theorem OX:Go.Proofs.Lays2.n20 Tryz.prog NH:={
 mixed:=by rfl
 f20:=Tryz.func166.trans (bh some (by rfl))
 t0:=Tryz.underlying0
 a0:=Tryz.isAgg0
 z0:=Tryz.sizeOf0
 v0:=Tryz.zeroValue0
 t3:=bP
 a3:=Tryz.isAgg3
 z3:=Tryz.sizeOf3
 v3:=Tryz.zeroValue3
 t4:=eC
 a4:=Tryz.isAgg4
 z4:=Tryz.sizeOf4
 v4:=Tryz.zeroValue4
 t22:=be
 a22:=Tryz.isAgg22
 z22:=Tryz.sizeOf22
 v22:=Tryz.zeroValue22
 i3:=by kernel_rfl}
open Go.RowKit Go.Lib Go.Sort in
theorem slices_Compact_int(blk off cap:Nat)(zs:List Int)(w:World)(hH:Holds (Value.int .i64) w blk off zs.toArray)(hsz:zs.length<=9223372036854775807)(hcap:zs.length<=cap):
  Calls Tryz.prog 166 #[.slice (some ⟨blk,off,none⟩) zs.length cap] w λe w'=>e=.returned (.slice (some ⟨blk,off,none⟩) (Lib.compact zs).length cap)/\∃q,w'=putRow (Value.int .i64) (Sort.ahead w q) blk off (Lib.compact zs++List.replicate (zs.length-(Lib.compact zs).length) 0).toArray:=Any.slices_Compact_int OX blk off cap zs w hH hsz hcap
open Go.RowKit Go.Lib Go.Sort in
theorem slices_Compact_int_empty(a:Option Addr)(cap:Nat)(w:World):
  Calls Tryz.prog 166 #[.slice a 0 cap] w λe w'=>e=.returned (.slice a 0 cap)/\w'=w:=Any.slices_Compact_int_empty OX a cap w
open Go.RowKit Go.Sort in
theorem slices_Sort_int_none(p:Option Addr)(cap:Nat)(w:World):
  Calls Tryz.prog 165 #[.slice p 0 cap] w λe w'=>e=.returned (.tuple #[])/\w'=w:=Any.slices_Sort_int_none lw p cap w
end

section
open Go.RowKit Go.Sort
theorem BM(w:World)(g k:Nat)(f:Array Value->Array Value):(mapBlock w g f).heap[k]? =if g=k then (w.heap[k]?).map (onCells f) else w.heap[k]?:=by
 show(w.heap.modify g (onCells f))[k]? =_
 grind
theorem xV(w:World)(g q:Nat)(ys:List Int):w.grownBy (putRow (Value.int .i64) (Sort.ahead w q) g 0 ys.toArray) (some g):=by
 refine⟨rfl,rfl,rfl,by simp,λk _ hne=>?_⟩
 unfold putRow
 rw[BM,az (λe=>hne (by rw[e]))]
 rfl
theorem i8{w w':World}{row:Option Nat}(h:w.grownBy w' row)(os:Array Obj):w.grownBy (grow w' os) row:=by
 refine⟨h.os,h.tape,h.output,?_,λk hk hne=>?_⟩
 .have:=h.size;simp[grow];omega
 .rw[heap_grow_old w' os (bw hk h.size)];exact h.block k hk hne
theorem EV{w:World}{base g n c:Nat}{xs:List Int}(h:gD w base (.slice (some ⟨g,0,none⟩) n c) xs):Holds (Value.int .i64) w g 0 xs.toArray:=by
 intro j hj
 have hj':j<xs.length:=by omega
 have hn:=h.cap.2.2
 obtain⟨b,o,e,hc,_⟩:=h.ints.2.2 j (by omega)
 refine⟨?_,?_⟩
 .grind
 .rcases h.1.2 with ⟨hv,_⟩|⟨g',cap,cur,hv,_,hh,_⟩
  .omega
  grind[frozen_of_row]
theorem BY{w:World}{base g n c:Nat}{xs:List Int}(h:gD w base (.slice (some ⟨g,0,none⟩) n c) xs)(q:Nat)(ys:List Int)(hl:ys.length=xs.length)(hy:∀y∈ys,I64 y):
  gD (putRow (Value.int .i64) (Sort.ahead w q) g 0 ys.toArray) base (.slice (some ⟨g,0,none⟩) n c) ys:=by
 have hn:=h.cap.2.2
 refine⟨⟨by simp[fP],?_⟩,hy,by have:=h.2.2;omega⟩
 rcases h.1.2 with ⟨hv,_⟩|⟨g',cap,cur,hv,hb,hh,h1,h2,h3,h4⟩
 .grind
 .injection hv with e1 e2 e3;injection e1 with e1;injection e1 with e1 _ _;subst e1 e3;refine .inr ⟨g,c,putCells (Value.int .i64) 0 ys.toArray cur,by rw[hn,hl],hb,?_,by omega,h2,by simp[putCells,h3],?_⟩
  .unfold putRow;rw[BM,aM rfl];show(w.heap[g]?).map _=_;rw[hh];rfl
  .apply cZ;intro k;rw[eY];by_cases hk:k<ys.length
   .have hkc:k<cur.size:=by omega
    simp[putCells,fP,hk,hkc]
   .rw[az (by omega),di (by simp[fP];omega)]
theorem pb{w:World}{base:Nat}{v:Value}{xs:List Int}(h:gD w base v xs)(os:Array Obj):gD (grow w os) base v xs:=
 h.ext ⟨rfl,rfl,rfl,by simp,λk hk=>heap_grow_old w os hk⟩
def WI(w:World)(base:Nat)(v:Value)(ys:List Int)(e:Ending)(w':World):Prop:=e=.returned (.tuple #[])/\gD w' base v ys/\w.grownBy w' v.ownBlock
theorem sF(w:World)(row:Option Nat):w.grownBy w row:=⟨rfl,rfl,rfl,aj _,λ_ _ _=>rfl⟩
theorem OA(base:Nat)(v:Value)(xs:List Int)(w:World)(h:gD w base v xs):
  Calls Tryz.prog 165 #[v] w (WI w base v (xs.mergeSort λx y=>decide (x<=y))):=by
 rcases id h.1.2 with ⟨rfl,h0⟩|⟨g,cap,cur,rfl,hb,hh,_⟩
 .refine(slices_Sort_int_none none 0 w).mono ?_;rintro e w' ⟨rfl,rfl⟩;exact⟨rfl,by simp_all,sF _ _⟩
 .refine(slices_Sort_int g 0 cap xs w (EV h) (au.1 hh).1 (by have:=h.2.2;omega)).mono ?_;rintro e w' ⟨rfl,n,os,rfl⟩;have hp:=eV xs λx y=>decide (x<=y);refine⟨rfl,pb (BY h n _ (List.length_mergeSort _) (λy hy=>h.2.1 y (hp.mem_iff.1 hy))) os,?_⟩;exact i8 (xV w g n _) os
theorem SA(base:Nat)(v:Value)(xs:List Int)(w:World)(h:gD w base v xs):
  Calls Tryz.prog 238 #[v] w (WI w base v xs.reverse):=by
 rcases id h.1.2 with ⟨rfl,h0⟩|⟨g,cap,cur,rfl,hb,hh,_⟩
 .refine(slices_Reverse_int_empty none 0 w).mono ?_;rintro e w' ⟨rfl,rfl⟩;exact⟨rfl,by grind,sF _ _⟩
 .refine(slices_Reverse_int g 0 cap xs w (EV h) (by have:=h.2.2;omega)).mono ?_;rintro e w' ⟨rfl,n,rfl⟩;exact⟨rfl,BY h n _ (by simp) (λy hy=>h.2.1 y (by grind)),xV w g n _⟩
def YS(w:World)(base:Nat)(v:Value)(ys:List Int)(e:Ending)(w':World):Prop:=∃v',e=.returned v'/\gD w' base v' ys/\w.grownBy w' v.ownBlock
theorem YF(xs:List Int):(Lib.compact xs).length<=xs.length:=by
 unfold Lib.compact Lib.compactUpTo
 grind
theorem YE(xs:List Int):∀y∈Lib.compact xs,y∈xs:=by
 intro y hy
 unfold Lib.compact Lib.compactUpTo at hy
 grind
theorem gp{w:World}{base g c n:Nat}{xs ys:List Int}(h:gD w base (.slice (some ⟨g,0,none⟩) n c) (xs++ys)):gD w base (.slice (some ⟨g,0,none⟩) xs.length c) xs:=by
 refine⟨⟨by simp[fP],?_⟩,λz hz=>h.2.1 z (by grind),by have:=h.2.2;grind⟩
 rcases h.1.2 with ⟨hv,_⟩|⟨g',cap,cur,hv,hb,hh,h1,h2,h3,h4⟩
 .grind
 .injection hv with e1 e2 e3;injection e1 with e1;injection e1 with e1 _ _;subst e1 e3;refine .inr ⟨g,c,cur,rfl,hb,hh,by simp at h1;omega,h2,h3,?_⟩;have h5:(cur.toList.take ((xs++ys).length*1)).take xs.length=(fP (xs++ys)).take xs.length:=by rw[h4]
  rw[List.take_take] at h5;simpa[fP] using h5
theorem SZ(base:Nat)(v:Value)(xs:List Int)(w:World)(h:gD w base v xs):
  Calls Tryz.prog 166 #[v] w (YS w base v (Lib.compact xs)):=by
 rcases id h.1.2 with ⟨rfl,h0⟩|⟨g,cap,cur,rfl,hb,hh,h1,_⟩
 .have h0:xs= []:=da h0;subst h0;refine(slices_Compact_int_empty none 0 w).mono ?_;rintro e w' ⟨rfl,rfl⟩;exact⟨_,rfl,h,sF _ _⟩
 .refine(slices_Compact_int g 0 cap xs w (EV h) (by have:=h.2.2;omega) h1).mono ?_;rintro e w' ⟨rfl,n,rfl⟩;have hc:=YF xs
  have h9:=BY h n (Lib.compact xs++List.replicate (xs.length-(Lib.compact xs).length) 0) (by grind) (λy hy=>by
   rcases ax.1 hy with hy|hy
   .exact h.2.1 y (YE xs y hy)
   grind[I64])
  exact⟨_,rfl,gp h9,xV w g n _⟩
end
end Go.Proofs.YtbknbcmppdglhaaGreatDoor
