/-
 Edge:over (a function's tiles,whose own each block is,which tiles it lies in).
-/
import Derived.Test.YtchdkjenhppleaaGreatA0
import Derived.Test.YtchdkjenhppleaaGreatED
import Derived.Test.YtchdkjenhppleaaGreatPick
import Derived.Test.YtchdkjenhppleaaGreatTX
import Derived.Test.YtchdkjenhppleaaGreatTM
namespace Go.Proofs.YtchdkjenhppleaaGreat
set_option linter.unusedSimpArgs false
set_option linter.unusedVariables false
set_option linter.unusedSectionVars false
set_option maxRecDepth 100000
set_option maxHeartbeats 40000000
section
open Go.RowKit Go.Shelf
attribute [local go_sem] Oper.semAt_some iB fS gP fH
theorem AC(w:World):(zeroValue 22).run Tryz.prog w=.ok (.slice none 0 0) w:=by kernel_rfl
theorem iD:(Tryz.prog.info? 154).map (·.size)=some 3:=by kernel_rfl
abbrev kH(a:Option Addr)(n c:Nat)(o:Value)(m:Option Nat):Obj:=.cells #[.slice a n c,o,.map m] 154
def Far(base:Nat)(a:Option Addr):Prop:=∀b o,a=some ⟨b,o,none⟩->base<=b
theorem fR.grown{w w':World}{a:Option Addr}{n:Nat}{xs:List Int}{row:Option Nat}(h:fR w a n xs)(hg:w.grownBy w' row)(hr:∀b o,a=some ⟨b,o,none⟩->b<w.heap.size->row≠some b):fR w' a n xs:=
 ⟨h.1,h.2.1,λk hk=>by
  obtain⟨b,o,e,hc,hi⟩:=h.2.2 k hk;have hlt:=aF _ _ hc
  exact⟨b,o,e,(AS (hg.block b hlt (λe2=>hr b o e hlt e2.symm))).trans hc,hi⟩⟩
theorem Far.own{w:World}{base:Nat}{a:Option Addr}{n c:Nat}{xs:List Int}(h:fQ w base (.slice a n c) xs):Far base a:=λb o e=>by
 rcases h.1.2 with ⟨hv,_⟩|⟨g,cap,cur,hv,hb,_⟩
 .rw[e] at hv;cases hv
 .rw[e] at hv;injection hv with h1 _ _;injection h1 with h1;injection h1 with h1 _ _;omega
def DN(w:World)(base M:Nat)(l:List eW)(n:Nat):Prop:=
 ∃f,iT w M f/\base<=M/\∀b:Nat,b<n->∃a c,f b=some (.slice a (inL l b).length c)/\fR w a (inL l b).length (inL l b)/\Far base a
theorem DN.grown{w w':World}{base M:Nat}{l:List eW}{n:Nat}{row:Option Nat}(h:DN w base M l n)(hg:w.grownBy w' row)(hr:∀q,row=some q->q<base\/w.heap.size<=q):DN w' base M l n:=by
 obtain⟨f,h1,h0,h2⟩:=h
 refine⟨f,h1.grown hg (λe=>?_),h0,λb hbn=>?_⟩
 .have:=h1.lt;have:=hr M e.symm;omega
 .obtain⟨a,c,h3,h4,h5⟩:=h2 b hbn;refine⟨a,c,h3,h4.grown hg (λq o e hlt e2=>?_),h5⟩;have:=h5 q o e;have:=hr q e2;omega
theorem DN.ext{w w':World}{base M:Nat}{l:List eW}{n:Nat}(h:DN w base M l n)(hb:Below w.heap.size w w'):DN w' base M l n:=by
 obtain⟨f,h1,h0,h2⟩:=h
 exact⟨f,h1.ext hb,h0,λb hbn=>let ⟨a,c,h3,h4,h5⟩:=h2 b hbn;⟨a,c,h3,h4.ext hb,h5⟩⟩
def mU(w:World)(base:Nat)(l:List eW)(n:Nat)(a:Option Addr)(ln lc:Nat)(v:Value):Prop:=
 ∃g c M,v=.agg #[.slice a ln lc,.slice (some ⟨g,0,none⟩) n c,.map (some M)]/\fR w (some ⟨g,0,none⟩) n (wA l n)/\base<=g/\DN w base M l n
theorem mU.grown{w w':World}{base:Nat}{l:List eW}{n:Nat}{a:Option Addr}{ln lc:Nat}{v:Value}{row:Option Nat}(h:mU w base l n a ln lc v)(hg:w.grownBy w' row)(hr:∀q,row=some q->q<base\/w.heap.size<=q):mU w' base l n a ln lc v:=by
 obtain⟨g,c,M,e,h1,h0,h2⟩:=h
 refine⟨g,c,M,e,h1.grown hg (λq o e hlt e2=>?_),h0,h2.grown hg hr⟩
 injection e with e
 injection e with e _ _
 subst e
 have:=hr _ e2
 omega
theorem mU.ext{w w':World}{base:Nat}{l:List eW}{n:Nat}{a:Option Addr}{ln lc:Nat}{v:Value}(h:mU w base l n a ln lc v)(hb:Below w.heap.size w w'):mU w' base l n a ln lc v:=by
 obtain⟨g,c,M,e,h1,h0,h2⟩:=h
 exact⟨g,c,M,e,h1.ext hb,h0,h2.ext hb⟩
def kG(ts:List fC)(l:List eW):Int:=if gS ts then (if fE ts l then 0 else 12) else 2
def AU(ts:List fC)(l:List eW)(n:Nat)(a:Option Addr)(ln lc:Nat)(w:World)(e:Ending)(w':World):Prop:=
 ∃cs:Array Value,e=.returned (.tuple #[.agg cs,.int .i64 (kG ts l)])/\cs.size=3/\cs.all (·.oneCell')=true/\Below w.heap.size w w'/\(fE ts l=false->cs= #[.slice none 0 0,.slice none 0 0,.map none])/\(fE ts l=true->mU w' w.heap.size l n a ln lc (.agg cs))
theorem ib(pa:Option Addr)(pn pc:Nat)(ba:Option Addr)(bn bc:Nat)(bs:List jU)(a:Option Addr)(n c:Nat)(ls:List lI)(w:World)(h:iP w ba bn bs)(ht:jW w a n ls)(hT:zR (eM ls)<=1000000)(hno:fE (eZ bs) (eM ls)=false):
  Calls Tryz.prog 122 #[kF pa pn pc ba bn bc,.slice a n c] w (AU (eZ bs) (eM ls) bn a n c w):=by
 have H:=ac h
 have HT:=ac ht
 clear h ht
 go_enter Tryz.func122,Tryz.ntmps122
 go_upto_region 1 with (fail)
 obtain⟨W,hW⟩:∃W,W=(w.alloc (gH pa pn pc ba bn bc)).alloc (kH none 0 0 (.slice none 0 0) none):=⟨_,rfl⟩
 rw[<-hW]
 have hk0:W.heap[w.heap.size]? =some (gH pa pn pc ba bn bc):=by rw[hW];exact eB (eD _ _) (ai _ _)
 have hk1:W.heap[w.heap.size+1]? =some (kH none 0 0 (.slice none 0 0) none):=by rw[hW];have:=ai (w.alloc (gH pa pn pc ba bn bc)) (kH none 0 0 (.slice none 0 0) none);simpa using this
 have hB:Below w.heap.size w W:=by rw[hW];exact eA (eD _ _) (eD _ _)
 have HK:=ac hk0
 have HX:=ac hk1
 have HB:=ac hB
 clear hW hk0 hk1 hB
 cases hf:gS (eZ bs) with
 |false=>
  have HE:Hid (kG (eZ bs) (eM ls)=2):=by simp[Hid,kG,hf]
  have HR:Hid (fE (eZ bs) (eM ls)=false):=by simp[Hid,fE,hf]
  have HF:=ac hf;clear hf hno
  go_wp2_with (first
   |(refine ay (o:=⟨some 8,.load 47 _,_,_,_,_⟩) rfl 47 _ rfl w.heap.size rfl 47 _ (0,0) _ HK.out bj rfl fY ?_)
   |(refine ay (o:=⟨some 11,.load 154 _,_,_,_,_⟩) rfl 154 _ rfl (w.heap.size+1) rfl 154 _ (0,0) _ HX2.out cX rfl iD ?_)
   |(refine aU (o:=⟨none,.store 154 _ _,_,_,_,_⟩) rfl 154 _ _ rfl (w.heap.size+1) #[.slice none 0 0,.slice none 0 0,.map none] rfl rfl 154 _ HX2.out iD rfl (by simp[Value.oneCell']) ?_)
   |(go_at_call 84
     refine(sE pa pn pc ba bn bc bs W (H.out.ext HB.out)).mono ?_;rintro e w2 ⟨rfl,hb⟩;rw[HF.out];have HX2:=ac (eB hb HX.out);have HB2:=ac (eA HB.out hb)
     clear hb))
  refine aD (v:=.tuple #[.agg #[.slice none 0 0,.slice none 0 0,.map none],.int .i64 2]) ?_ rfl ⟨_,by rw[HE.out],rfl,by simp[Value.oneCell'],aA HB2.out (by omega) _,λ_=>rfl,λh=>by rw[HR.out] at h;cases h⟩;have hl:=cd (P:=Tryz.prog) _ (w.heap.size+1) 154 154 _ (0,0) _ (aG _ _ _ #[.slice none 0 0,.slice none 0 0,.map none] _ _ HX2.out) cX rfl iD;simp[results,Tryz.results122,asAddr,Act.put,hl]
 |true=>
  .have HE:Hid (kG (eZ bs) (eM ls)=12):=by simp[Hid,kG,hf,hno]
   have HF:=ac hf;have HR:=ac hno;clear hf hno
   go_wp2_with (first
    |(refine ay (o:=⟨some 8,.load 47 _,_,_,_,_⟩) rfl 47 _ rfl w.heap.size rfl 47 _ (0,0) _ HK.out bj rfl fY ?_)
    |(refine ay (o:=⟨some 16,.load 154 _,_,_,_,_⟩) rfl 154 _ rfl (w.heap.size+1) rfl 154 _ (0,0) _ HX3.out cX rfl iD ?_)
    |(refine aU (o:=⟨none,.store 154 _ _,_,_,_,_⟩) rfl 154 _ _ rfl (w.heap.size+1) #[.slice none 0 0,.slice none 0 0,.map none] rfl rfl 154 _ HX3.out iD rfl (by simp[Value.oneCell']) ?_)
    |(go_at_call 152
      refine(EK pa pn pc ba bn bc bs a n c ls w2 (H.out.ext HB2.out) (HT.out.ext HB2.out) hT).mono ?_;rintro e w3 ⟨rfl,hb⟩;rw[HR.out];have HX3:=ac (eB hb HX2.out);have HB3:=ac (eA HB2.out hb)
      clear hb)
    |(refine ay (o:=⟨some 12,.load 47 _,_,_,_,_⟩) rfl 47 _ rfl w.heap.size rfl 47 _ (0,0) _ HK2.out bj rfl fY ?_)
    |(go_at_call 84
      refine(sE pa pn pc ba bn bc bs W (H.out.ext HB.out)).mono ?_;rintro e w2 ⟨rfl,hb⟩;rw[HF.out];have HK2:=ac (eB hb HK.out);have HX2:=ac (eB hb HX.out);have HB2:=ac (eA HB.out hb)
      clear hb))
   refine aD (v:=.tuple #[.agg #[.slice none 0 0,.slice none 0 0,.map none],.int .i64 12]) ?_ rfl ⟨_,by rw[HE.out],rfl,by simp[Value.oneCell'],aA HB3.out (by omega) _,λ_=>rfl,λh=>by rw[HR.out] at h;cases h⟩;have hl:=cd (P:=Tryz.prog) _ (w.heap.size+1) 154 154 _ (0,0) _ (aG _ _ _ #[.slice none 0 0,.slice none 0 0,.map none] _ _ HX3.out) cX rfl iD;simp[results,Tryz.results122,asAddr,Act.put,hl]
end
end Go.Proofs.YtchdkjenhppleaaGreat
