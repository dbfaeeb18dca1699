/-
 slices.ContainsFunc of instructions,of blocks;ir.long,whole.
-/
import Derived.Test.YtbknbcmppdglhaaGreatDoorA0
import Derived.Test.YtbknbcmppdglhaaGreatDoorTH
import Derived.Test.YtbknbcmppdglhaaGreatDoorTI
import Derived.Test.YtbknbcmppdglhaaGreatDoorPB
import Derived.Test.YtbknbcmppdglhaaGreatDoorSortI
import Derived.Test.YtbknbcmppdglhaaGreatDoorOwnR
import Derived.BigQuiet
namespace Go.Proofs.YtbknbcmppdglhaaGreatDoor
set_option linter.unusedSimpArgs false
set_option linter.unusedVariables false
set_option linter.unusedSectionVars false
set_option maxRecDepth 100000
set_option maxHeartbeats 40000000
section
open Go.RowKit
theorem SQ(F:Nat)(caps:Array Value)(eF:∀args w,(callFunc F args).run Tryz.prog w=.ok (.enter F args) w)(p:lP->Bool)(a:Option Addr)(n c:Nat)(rs:List lP)(w:World)
  (hp:∀(r:lP) (W:World),r∈rs->Below w.heap.size w W->Calls Tryz.prog F (#[NV r]++caps) W λe W'=>e=.returned (.bool (p r))/\Below W.heap.size W W') (h:tC w a n rs):
  Calls Tryz.prog 213 #[.slice a n c,.func (.func F) #[] caps] w λe w'=>e=.returned (.int .i64 (pF p rs))/\Below w.heap.size w w':=by
 have HL:=ac h.1.1
 have hn:=h.1.2.1
 have H:=ac h
 have HP:=ac hp
 clear h hp
 go_enter Tryz.func213,Tryz.ntmps213
 go_wp2
 go_loopw [5,8] (λ_ i wr=>∃(k:Nat),k<=n/\i=.int .i64 k/\Hid (∀j y,j<k->rs[j]? =some y->p y=false)/\Hid (Below w.heap.size w wr)) (λ_ i _=>n-(intOf i).toNat)
 case atStart=>exact⟨0,by omega,rfl,λj y hj=>absurd hj (by omega),ag _ _⟩
 case round=>
  obtain⟨k,hk,rfl,HR,HB⟩:=hrel;by_cases hlt:k<n
  .obtain⟨r,b,o,hr,hok,rfl,c0,c1,c2,c3,c4,c5,c6,c7⟩:=(H.out.ext HB.out).cells hlt;have HG:=ac hr;have HM:=ac (aK hr);clear hr hok;by_cases hy:p r=true
   .have HE:Hid (pF p rs=k):=xO p rs k r HG.out hy HR.out;go_wp2;refine(HP.out r wr HM.out HB.out).mono ?_;rintro e w' ⟨rfl,hb'⟩;have HB':=ac (fC HB.out hb');clear hb';rw[hy];go_wp2
    go_ret
    exact⟨by rw[HE.out];rfl,HB'.out⟩
   .have hy':p r=false:=by simpa using hy
    have HE:Hid (∀j z,j<k+1->rs[j]? =some z->p z=false):=λj z hj hz=>by
     by_cases e:j=k
     .subst e;rw[HG.out] at hz;injection hz with hz;subst hz;exact hy'
     .exact HR.out j z (by omega) hz
    go_wp2;refine(HP.out r wr HM.out HB.out).mono ?_;rintro e w' ⟨rfl,hb'⟩;have HB':=ac (fC HB.out hb');clear hb';rw[hy'];go_wp2
    go_roundw
    case rel=>exact⟨k+1,by omega,by go_num,HE,HB'⟩
    case measure=>simp[intOf];omega
  .obtain rfl:k=n:=by omega
   have HE:Hid (pF p rs= -1):=AT p rs (λz hz=>by
    obtain⟨j,hj,e⟩:=bj.1 hz
    exact HR.out j z (by rw[HL.out] at hj;exact hj) (by rw[ah hj,e]))
   go_wp2
   go_ret
   exact⟨by rw[HE.out];rfl,HB.out⟩
theorem yE(F:Nat)(caps:Array Value)(eF:∀args w,(callFunc F args).run Tryz.prog w=.ok (.enter F args) w)(p:lP->Bool)(a:Option Addr)(n c:Nat)(rs:List lP)(w:World)
  (hp:∀(r:lP) (W:World),r∈rs->Below w.heap.size w W->Calls Tryz.prog F (#[NV r]++caps) W λe W'=>e=.returned (.bool (p r))/\Below W.heap.size W W') (h:tC w a n rs):
  Calls Tryz.prog 134 #[.slice a n c,.func (.func F) #[] caps] w λe w'=>e=.returned (.bool (rs.any p))/\Below w.heap.size w w':=by
 have HA:=ac (DJ p rs)
 have hg:=CU p rs
 have HP:=ac hp
 have H:=ac h
 clear hp h
 go_enter Tryz.func134,Tryz.ntmps134
 go_wp2_with (go_at_call 213;refine(SQ F caps eF p a n c rs w HP.out H.out).mono ?_;rintro e w' ⟨rfl,hb'⟩;have HB':=ac hb';clear hb')
 go_ret
 exact⟨by rw[<-HA.out];rfl,HB'.out⟩
theorem SR(F:Nat)(caps:Array Value)(eF:∀args w,(callFunc F args).run Tryz.prog w=.ok (.enter F args) w)(p:nA->Bool)(a:Option Addr)(n c:Nat)(rs:List nA)(w:World)
  (hp:∀(r:nA) (W:World),r∈rs->Below w.heap.size w W->Calls Tryz.prog F (#[IE r]++caps) W λe W'=>e=.returned (.bool (p r))/\Below W.heap.size W W') (h:lZ w a n rs):
  Calls Tryz.prog 210 #[.slice a n c,.func (.func F) #[] caps] w λe w'=>e=.returned (.int .i64 (pF p rs))/\Below w.heap.size w w':=by
 have HL:=ac h.1.1
 have hn:=h.1.2.1
 have H:=ac h
 have HP:=ac hp
 clear h hp
 go_enter Tryz.func210,Tryz.ntmps210
 go_wp2
 go_loopw [5,8] (λ_ i wr=>∃(k:Nat),k<=n/\i=.int .i64 k/\Hid (∀j y,j<k->rs[j]? =some y->p y=false)/\Hid (Below w.heap.size w wr)) (λ_ i _=>n-(intOf i).toNat)
 case atStart=>exact⟨0,by omega,rfl,λj y hj=>absurd hj (by omega),ag _ _⟩
 case round=>
  obtain⟨k,hk,rfl,HR,HB⟩:=hrel;by_cases hlt:k<n
  .obtain⟨r,b,o,hr,hok,rfl,c0,c1,c2,c3,c4⟩:=(H.out.ext HB.out).cells hlt;have HG:=ac hr;have HM:=ac (aK hr);clear hr hok;by_cases hy:p r=true
   .have HE:Hid (pF p rs=k):=xO p rs k r HG.out hy HR.out;go_wp2;refine(HP.out r wr HM.out HB.out).mono ?_;rintro e w' ⟨rfl,hb'⟩;have HB':=ac (fC HB.out hb');clear hb';rw[hy];go_wp2
    go_ret
    exact⟨by rw[HE.out];rfl,HB'.out⟩
   .have hy':p r=false:=by simpa using hy
    have HE:Hid (∀j z,j<k+1->rs[j]? =some z->p z=false):=λj z hj hz=>by
     by_cases e:j=k
     .subst e;rw[HG.out] at hz;injection hz with hz;subst hz;exact hy'
     .exact HR.out j z (by omega) hz
    go_wp2;refine(HP.out r wr HM.out HB.out).mono ?_;rintro e w' ⟨rfl,hb'⟩;have HB':=ac (fC HB.out hb');clear hb';rw[hy'];go_wp2
    go_roundw
    case rel=>exact⟨k+1,by omega,by go_num,HE,HB'⟩
    case measure=>simp[intOf];omega
  .obtain rfl:k=n:=by omega
   have HE:Hid (pF p rs= -1):=AT p rs (λz hz=>by
    obtain⟨j,hj,e⟩:=bj.1 hz
    exact HR.out j z (by rw[HL.out] at hj;exact hj) (by rw[ah hj,e]))
   go_wp2
   go_ret
   exact⟨by rw[HE.out];rfl,HB.out⟩
theorem IJ(F:Nat)(caps:Array Value)(eF:∀args w,(callFunc F args).run Tryz.prog w=.ok (.enter F args) w)(p:nA->Bool)(a:Option Addr)(n c:Nat)(rs:List nA)(w:World)
  (hp:∀(r:nA) (W:World),r∈rs->Below w.heap.size w W->Calls Tryz.prog F (#[IE r]++caps) W λe W'=>e=.returned (.bool (p r))/\Below W.heap.size W W') (h:lZ w a n rs):
  Calls Tryz.prog 130 #[.slice a n c,.func (.func F) #[] caps] w λe w'=>e=.returned (.bool (rs.any p))/\Below w.heap.size w w':=by
 have HA:=ac (DJ p rs)
 have hg:=CU p rs
 have HP:=ac hp
 have H:=ac h
 clear hp h
 go_enter Tryz.func130,Tryz.ntmps130
 go_wp2_with (go_at_call 210;refine(SR F caps eF p a n c rs w HP.out H.out).mono ?_;rintro e w' ⟨rfl,hb'⟩;have HB':=ac hb';clear hb')
 go_ret
 exact⟨by rw[<-HA.out];rfl,HB'.out⟩
theorem pz(b:nA)(w:World):Calls Tryz.prog 131 (#[IE b]++ #[]) w λe w'=>e=.returned (.bool (decide (64<b.n)))/\Below w.heap.size w w':=by
 show Calls Tryz.prog 131 #[IE b] w _
 have HE:Hid (decide (64<b.n)=decide ((64:Int)<(b.n:Int))):=by rw[Hid,eR];omega
 go_enter Tryz.func131,Tryz.ntmps131
 go_wp2
 go_ret
 exact⟨by rw[HE.out];rfl,fD _ _⟩
theorem jt(args:Array Value)(w:World):(callFunc 131 args).run Tryz.prog w=.ok (.enter 131 args) w:=dK Tryz.func131 (by kernel_rfl) rfl args w
theorem KQ(r:lP)(w:World)(h:rD w r):Calls Tryz.prog 135 (#[NV r]++ #[]) w λe w'=>e=.returned (.bool (!oQ r.d))/\Below w.heap.size w w':=by
 show Calls Tryz.prog 135 #[NV r] w _
 have HC:=ac (FC r.d r.aa r.na r.ca (w.alloc (vR r.d r.aa r.na r.ca)) (h.1.ext (fD _ _)) h.2.2.2.2.1 h.2.2.2.2.2.1 h.2.2.2.2.2.2.1 h.2.2.2.2.2.2.2.1)
 clear h
 go_enter Tryz.func135,Tryz.ntmps135
 go_wp2_with (
  (go_at_call 136
   refine HC.out.mono ?_;rintro e w1 ⟨rfl,hb1⟩;have HB1:=ac (fC (fD w _) hb1)
   clear hb1))
 go_ret
 exact⟨rfl,HB1.out⟩
theorem GV(args:Array Value)(w:World):(callFunc 135 args).run Tryz.prog w=.ok (.enter 135 args) w:=dK Tryz.func135 (by kernel_rfl) rfl args w
def rC(pn bn:Nat)(bs:List nA):Bool:=decide (bn=0)||decide (200<bn)||decide (8<pn)||bs.any λb=>decide (64<b.n)
theorem DG(pa:Option Addr)(pn pc:Nat)(ba:Option Addr)(bn bc:Nat)(bs:List nA)(w:World)(h:lZ w ba bn bs):
  Calls Tryz.prog 47 #[mB pa pn pc ba bn bc] w λe w'=>e=.returned (.bool (rC pn bn bs))/\Below w.heap.size w w':=by
 have HC:=ac (λW (hb:Below w.heap.size w W)=>IJ 131 #[] jt (λb=>decide (64<b.n)) ba bn bc bs W (λr W' _ _=>pz r W') (h.ext hb))
 clear h
 by_cases h0:bn=0
 .have HE:Hid (rC pn bn bs=true):=by rw[Hid,rC,h0];simp
  subst h0
  go_enter Tryz.func47,Tryz.ntmps47
  go_wp2
  go_ret
  exact⟨by rw[HE.out];rfl,fD _ _⟩
 .have b0:((bn:Int)==0)=false:=by simpa using h0
  by_cases h1:200<bn
  .have HE:Hid (rC pn bn bs=true):=by rw[Hid,rC];simp[h1]
   have h1':(200:Int)<(bn:Int):=by omega
   clear h0 h1
   go_enter Tryz.func47,Tryz.ntmps47
   go_wp2
   go_ret
   exact⟨by rw[HE.out];rfl,fD _ _⟩
  .have h1':¬(200:Int)<(bn:Int):=by omega
   by_cases h2:8<pn
   .have HE:Hid (rC pn bn bs=true):=by rw[Hid,rC];simp[h2]
    have h2':(8:Int)<(pn:Int):=by omega
    clear h0 h1 h2
    go_enter Tryz.func47,Tryz.ntmps47
    go_wp2
    go_ret
    exact⟨by rw[HE.out];rfl,fD _ _⟩
   .have h2':¬(8:Int)<(pn:Int):=by omega
    have HE:Hid (rC pn bn bs=bs.any λb=>decide (64<b.n)):=by rw[Hid,rC];simp[h0,h1,h2]
    clear h0 h1 h2
    go_enter Tryz.func47,Tryz.ntmps47
    go_wp2_with (
     (go_at_call 130
      refine(HC.out _ (fD w _)).mono ?_;rintro e w1 ⟨rfl,hb1⟩;have HB1:=ac (fC (fD w _) hb1)
      clear hb1))
    go_ret
    exact⟨by rw[HE.out];rfl,HB1.out⟩
end

section
open Go.RowKit
theorem nW:(Tryz.prog.info? 158).map (·.size)=some 201:=by kernel_rfl
theorem nV:Tryz.zeroCells158=jN λ_=>false:=by kernel_rfl
abbrev vsO(f:Nat->Bool):Obj:=.cells (jN f) 158
theorem xB{f g:Nat->Bool}(h:∀k,k<201->f k=g k):vsO f=vsO g:=by rw[vsO,vsO,UM h]
theorem AR{W:World}{g:Nat}{f:Nat->Bool}(hg:W.heap[g]? =some (vsO f)):(loadVar 158 ⟨g,0,none⟩).run Tryz.prog W=.ok (.agg (jN f)) W:=
 cQ (P:=Tryz.prog) W g 158 158 _ (0,0) _ hg cP rfl (by rw[iI];exact nW)
theorem wB{W:World}{g:Nat}{f h:Nat->Bool}(hg:W.heap[g]? =some (vsO f))(j:Nat)(b:Bool)(e:∀k,k<201->(if k=j then b else f k)=h k):(W.setCell ⟨g,j,none⟩ (.bool b)).heap[g]? =some (vsO h):=by
 rw[aC _ _ _ _ _ _ hg,ui,UM e]
theorem oK{W:World}{g:Nat}{f:Nat->Bool}(hg:W.heap[g]? =some (vsO f))(j:Nat)(hj:j<201):W.cell? ⟨g,j,none⟩=some (.bool (f j)):=by rw[aZ _ _ _ _ _ _ hg,uW _ _ hj]
theorem tR{W:World}{g:Nat}{f:Nat->Bool}(hg:W.heap[g]? =some (vsO f))(j:Nat):W.frozen? ⟨g,j,none⟩=false:=cY _ _ _ _ _ hg
def th(w:World)(f:Nat->Bool)(e:Ending)(w':World):Prop:=e=.returned (.agg (jN f))/\Below w.heap.size w w'
theorem nh(w:World):Calls Tryz.prog 138 #[] w (th w λ_=>true):=by
 go_enter Tryz.func138,Tryz.ntmps138
 go_wp2
 go_loopw [1,2] (λ_ i wr=>∃(k:Nat),k<=201/\i=.int .i64 k/\Hid (wr.heap[w.heap.size]? =some (vsO λj=>decide (j<k)))/\Hid (Below w.heap.size w wr)) (λ_ i _=>201-(intOf i).toNat)
 case atStart=>exact⟨0,by omega,rfl,by rw[Hid,ae,nV,<-xB (f:=λ_=>false) (g:=λj=>decide (j<0)) (λk _=>by simp)],fD _ _⟩
 case round=>
  obtain⟨k,hk,rfl,HS,HB⟩:=hrel;by_cases hlt:k<201
  .have hcell:=oK HS.out k hlt;have hfr:=tR HS.out k;have HS2:Hid ((wr.setCell ⟨w.heap.size,k,none⟩ (.bool true)).heap[w.heap.size]? =some (vsO λj=>decide (j<k+1))):=wB HS.out k true λj _=>by
    by_cases e:j=k
    .simp[e]
    .have:(j<k+1)↔j<k:=by omega
     simp[e,this]
   have hl:=fE HS.out;have hlt':(k:Int)<201:=by omega
   generalize decide (k<k)=bb at *;go_wp2
   go_roundw
   case rel=>exact⟨k+1,by omega,by go_num,HS2,HB.out.setCell (aj _) _⟩
   case measure=>simp[intOf];omega
  .obtain rfl:k=201:=by omega
   have HSx:Hid (wr.heap[w.heap.size]? =some (vsO λ_=>true)):=by
    have:=HS.out
    rwa [xB (f:=λj=>decide (j<201)) (g:=λ_=>true) (λj hj=>by simp[hj])] at this
   go_wp2_with (first
    |(refine ay rfl 158 _ rfl w.heap.size rfl 158 _ (0,0) _ HSx.out cP rfl (by rw[iI];exact nW) ?_)
    |(refine aP rfl 158 _ _ rfl w.heap.size (jN λ_=>true) rfl rfl 158 _ HSx.out (by rw[iI];exact nW) rfl (nT _) ?_))
   exact aR (v:=.agg (jN λ_=>true)) (by simp[results,Tryz.results138,asAddr,Act.put,AR (bt _ _ _ _ _ _ HSx.out)]) rfl ⟨rfl,aX HB.out (by omega) _⟩
def BD(f g:Nat->Bool)(k j:Nat):Bool:=if j<k then f j&&g j else f j
theorem nf(f g:Nat->Bool)(w:World):Calls Tryz.prog 139 #[.agg (jN f),.agg (jN g)] w (th w λj=>f j&&g j):=by
 go_enter Tryz.func139,Tryz.ntmps139
 go_upto_region 1 with (fail)
 obtain⟨W,hW⟩:∃W,W=((w.alloc (vsO f)).alloc (vsO g)).alloc (vsO λ_=>false):=⟨_,rfl⟩
 rw[nV,<-hW]
 have hs:W.heap[w.heap.size]? =some (vsO f):=by rw[hW,aG _ _ _ (by simp;omega),aG _ _ _ (by simp)];exact ae _ _
 have ht:W.heap[w.heap.size+1]? =some (vsO g):=by
  rw[hW,aG _ _ _ (by simp)];have:=ae (w.alloc (vsO f)) (vsO g);simpa using this
 have hr:W.heap[w.heap.size+1+1]? =some (vsO λ_=>false):=by
  rw[hW];have:=ae ((w.alloc (vsO f)).alloc (vsO g)) (vsO λ_=>false);simpa using this
 have hB:Below w.heap.size w W:=by rw[hW];exact((((ag _ w).alloc (aj _) _).alloc (by simp) _).alloc (by simp;omega) _)
 have HS:=ac hs
 have HT:=ac ht
 have HR:=ac hr
 have HB:=ac hB
 clear hW hs ht hr hB
 go_wp2
 go_loopw [5,6] (λ_ i wr=>∃(k:Nat),k<=201/\i=.int .i64 k/\Hid (wr.heap[w.heap.size]? =some (vsO (BD f g k)))/\Hid (wr.heap[w.heap.size+1]? =some (vsO g))/\Hid (wr.heap[w.heap.size+1+1]? =some (vsO λ_=>false))/\Hid (Below w.heap.size w wr)) (λ_ i _=>201-(intOf i).toNat)
 case atStart=>exact⟨0,by omega,rfl,by rw[Hid,xB (f:=BD f g 0) (g:=f) (λj _=>by simp[BD])];exact HS.out,HT.out,HR.out,HB.out⟩
 case round=>
  obtain⟨k,hk,rfl,HS,HT,HR,HB⟩:=hrel;by_cases hlt:k<201
  .have hlt':(k:Int)<201:=by omega
   have hcell:wr.cell? ⟨w.heap.size,k,none⟩=some (.bool (f k)):=by
    have:=oK HS.out k hlt
    rwa [show BD f g k k=f k by simp[BD]] at this
   have hcg:=oK HT.out k hlt;have hfr:=tR HS.out k;have hstep:∀b,b=(f k&&g k)->Hid ((wr.setCell ⟨w.heap.size,k,none⟩ (.bool b)).heap[w.heap.size]? =some (vsO (BD f g (k+1)))):=λb hb=>wB HS.out k b λj _=>by
    unfold BD;by_cases e:j=k
    .subst e;simp[hb]
    .have:(j<k+1)↔j<k:=by omega
     simp[e,this]
   have HST:=ac hstep;have hl:=fE HS.out;have hl1:=fE HT.out;clear hstep
   have hfin:∀b,b=(f k&&g k)->∃(k':Nat),k'<=201/\Value.int IntKind.i64 ((k:Int)+1)=.int .i64 k'/\Hid ((wr.setCell ⟨w.heap.size,k,none⟩ (.bool b)).heap[w.heap.size]? =some (vsO (BD f g k')))/\Hid ((wr.setCell ⟨w.heap.size,k,none⟩ (.bool b)).heap[w.heap.size+1]? =some (vsO g))/\Hid ((wr.setCell ⟨w.heap.size,k,none⟩ (.bool b)).heap[w.heap.size+1+1]? =some (vsO λ_=>false))/\Hid (Below w.heap.size w (wr.setCell ⟨w.heap.size,k,none⟩ (.bool b))):=λb hb=>
    ⟨k+1,by omega,by simp,HST.out b hb,by rw[Hid,aU _ _ _ _ (by simp)];exact HT.out,by rw[Hid,aU _ _ _ _ (by simp;omega)];exact HR.out,HB.out.setCell (aj _) _⟩
   have HFIN:=ac hfin;clear hfin;cases hf:f k with
   |true=>
    rw[hf] at hcell;have HB2:Hid (g k=(f k&&g k)):=by rw[Hid,hf];rfl
    clear hf;go_wp2
    go_roundw
    case rel=>exact HFIN.out _ HB2.out
    case measure=>simp[intOf];omega
   |false=>
    rw[hf] at hcell;have HB2:Hid (false=(f k&&g k)):=by rw[Hid,hf];rfl
    clear hf;go_wp2
    go_roundw
    case rel=>exact HFIN.out _ HB2.out
    case measure=>simp[intOf];omega
  .obtain rfl:k=201:=by omega
   have HSx:Hid (wr.heap[w.heap.size]? =some (vsO λj=>f j&&g j)):=by
    have:=HS.out
    rwa [xB (f:=BD f g 201) (g:=λj=>f j&&g j) (λj hj=>by simp[BD,hj])] at this
   go_wp2_with (first
    |(refine ay rfl 158 _ rfl w.heap.size rfl 158 _ (0,0) _ HSx.out cP rfl (by rw[iI];exact nW) ?_)
    |(refine aP rfl 158 _ _ rfl (w.heap.size+1+1) (jN λj=>f j&&g j) rfl rfl 158 _ HR.out (by rw[iI];exact nW) rfl (nT _) ?_))
   exact aR (v:=.agg (jN λj=>f j&&g j)) (by simp[results,Tryz.results139,asAddr,Act.put,AR (bt _ _ _ _ _ _ HR.out)]) rfl ⟨rfl,aX HB.out (by omega) _⟩
theorem ng(f:Nat->Bool)(G B:Nat)(x:Int)(hx:0<=x/\x<=200)(w:World)(hG:w.heap[G]? =some (vsO f))(hB:w.cell? ⟨B,0,none⟩=some (.pointer (some ⟨G,0,none⟩))):
  Calls Tryz.prog 251 (#[.int .i64 x]++ #[.pointer (some ⟨B,0,none⟩)]) w λe w'=>e=.returned (.bool (!f x.toNat))/\Below w.heap.size w w':=by
 obtain⟨m,rfl⟩:∃m:Nat,x=(m:Int):=⟨x.toNat,by omega⟩
 show Calls Tryz.prog 251 #[.int .i64 (m:Int),.pointer (some ⟨B,0,none⟩)] w _
 have hm:(m:Int)<201:=by omega
 have hcell:=oK hG m (by omega)
 have h0:=oK hG 0 (by omega)
 rw[dr]
 clear hG hx
 go_enter Tryz.func251,Tryz.ntmps251
 go_wp2
 go_ret
 exact⟨rfl,ag _ _⟩
theorem jr(args:Array Value)(w:World):(callFunc 251 args).run Tryz.prog w=.ok (.enter 251 args) w:=dK Tryz.func251 (by kernel_rfl) rfl args w
def MY(f:Nat->Bool)(xs:List Int):Bool:= !xs.any λx=> !f x.toNat
theorem JP(f:Nat->Bool)(G:Nat)(a:Option Addr)(n c:Nat)(xs:List Int)(w:World)(hG:w.heap[G]? =some (vsO f))(h:iJ w a n xs)(hx:∀x∈xs,0<=x/\x<=200):
  Calls Tryz.prog 217 #[.pointer (some ⟨G,0,none⟩),.slice a n c] w λe w'=>e=.returned (.bool (MY f xs))/\Below w.heap.size w w':=by
 have HC:=ac (nZ 251 #[.pointer (some ⟨w.heap.size,0,none⟩)] jr (λx=> !f x.toNat) a n c xs (w.alloc (.cells #[.pointer (some ⟨G,0,none⟩)] 340))
  (λx W hxx hb=>ng f G w.heap.size x (hx x hxx) W (fB (fC (fD w _) hb) hG) (by
    have:=fB hb (ae w (.cells #[.pointer (some ⟨G,0,none⟩)] 340))
    rw[aZ _ _ _ _ _ _ this];rfl)) (h.ext (fD _ _)))
 clear h hx hG
 go_enter Tryz.func217,Tryz.ntmps217
 go_wp2_with (
  (go_at_call 216
   refine HC.out.mono ?_;rintro e w1 ⟨rfl,hb1⟩;have HB1:=ac (fC (fD w _) hb1)
   clear hb1))
 go_ret
 exact⟨rfl,HB1.out⟩
end

section
section
variable {P:Program} {ops:Array Oper} {rest:List Oper} {o:Oper} {a:Act}
theorem nY{w:World}{Q:Exit->Act->World->Prop}(hw:Region.wanted o (yielded ops a.tmps)=true)(ty:TypeId)(x:Operand)(ho:o.op=.load ty x)
  (g:Nat) (hx:a.eval x=.pointer (some ⟨g,0,none⟩)) (t:TypeId) (cs:Array Value) (fr:Nat×Nat) (d:TypeDesc) (hg:w.heap[g]? =some (.cells cs t fr))
  (hu:P.underlying ty=some d) (hd:(match d with| .struct _| .array _ _=>true|_=>false)=true) (hi:(P.info? ty).map (·.size)=some cs.size)
  (h:wpList P ops Q rest (a.put o.dst (.agg cs)) w):wpList P ops Q (o :: rest) a w:=
 BigFrame.wpList_want hw λ_ hK=>cy ty x ho g hx t cs fr d hg hu hd hi (hK _ _ h)
theorem fW{C:World->Prop}{Q:Act->Prop}(hw:Region.wanted o (yielded ops a.tmps)=true)(ty:TypeId)(x:Operand)(ho:o.op=.load ty x)
  (g:Nat) (hx:a.eval x=.pointer (some ⟨g,0,none⟩)) (t:TypeId) (cs:Array Value) (fr:Nat×Nat) (d:TypeDesc) (hg:∀w,C w->w.heap[g]? =some (.cells cs t fr))
  (hu:P.underlying ty=some d) (hd:(match d with| .struct _| .array _ _=>true|_=>false)=true) (hi:(P.info? ty).map (·.size)=some cs.size)
  (h:wpQuiet P ops C Q rest (a.put o.dst (.agg cs))):wpQuiet P ops C Q (o :: rest) a:=
 BigFrame.wpQuiet_want hw λ_ hK=>⟨.agg cs,λw hC=>by
  unfold Oper.quietAt execOp;simp only[ho,hx,Instr.loadAt,Instr.sureAddr,b7,dw,b8,cQ w g t ty cs fr d (hg w hC) hu hd hi]
  exact⟨rfl,rfl⟩,hK _ h⟩
theorem oH{l:List Oper}{Q:Exit->Act->World->Prop}{e:Nat}{K:Act->World->Prop}{w:World}(ho:l[e]? =some o)(hw:Region.wanted o (yielded l.toArray a.tmps)=true)(h:o.wp P a w K Q):wpOp P l.toArray Q e K a w:=by
 unfold wpOp
 simp only[d8,ho]
 rw[aM hw]
 exact .inl h
end
end

section
open Go.RowKit
theorem DL{b:Bool}{x:Int}(h:sS b x=true):x=0\/qG x=true:=by
 unfold sS at h
 split at h
 .exact .inr h
 .exact .inl (by simpa using h)
theorem VP{i:uP}(h:oQ i=true):(∀x∈i.args,qG x=true)/\(i.a=0\/qG i.a=true)/\(i.b=0\/qG i.b=true)/\(i.dst=0\/qG i.dst=true):=by
 unfold oQ at h
 simp only at h
 split at h
 .cases h
 .split at h
  .simp only[aB,yB,List.any_cons,List.any_nil,Bool.or_false,dm,cV,bne_eq_false_iff_eq,dQ,Bool.not_eq_true,Bool.not_eq_false'] at h;obtain⟨⟨⟨⟨h0,_⟩,hd⟩,_⟩,ha⟩:=h;exact⟨λx hx=>(by have:=ha x hx;simpa using this),.inl h0.1,.inl h0.2.1,DL hd⟩
  .split at h
   .cases h
   .simp only[aB,db] at h;obtain⟨⟨⟨⟨_,hargs⟩,hd⟩,ha⟩,hb⟩:=h;have hargs:=da hargs;exact⟨λx hx=>(by rw[hargs] at hx;cases hx),DL ha,DL hb,DL hd⟩
theorem uV{x:Int}:qG x=true↔1<=x/\x<=200:=by simp[qG]
theorem AM{i:uP}{x:Int}(h:x∈gV i):1<=x/\x<=200:=by
 unfold gV at h
 split at h
 .rename_i hi
  obtain⟨h1,h2,h3,_⟩:=VP hi;rcases ax.1 h with h|h
  .obtain⟨h4,h5⟩:=bI.1 h;have h5:x≠0:=by simpa using h5
   simp only[aS,bO,cX] at h4;rcases h4 with rfl|rfl
   .exact uV.1 (h2.resolve_left h5)
   .exact uV.1 (h3.resolve_left h5)
  .exact uV.1 (h1 x h)
 .cases h
theorem lX(i:uP):0<=gM i/\gM i<=200:=by
 unfold gM
 split
 .rename_i hi
  rcases(VP hi).2.2.2 with h|h
  .rw[h];omega
  .have:=uV.1 h;omega
 .omega
theorem AO{t:fS}{x:Int}(h:x∈jV t):1<=x/\x<=200:=by
 unfold jV at h
 split at h
 .rename_i hb
  simp only[aB,bne_iff_ne,ne_eq] at hb;rw[bz] at h;subst h;have ht:=hb.1;have h0:=hb.2;unfold mU at ht
  repeat' split at ht
  .simp only[aN] at ht;exact absurd ht.1 h0
  .exact uV.1 ht
  .simp only[aB,bW,aN] at ht;exact uV.1 (ht.1.resolve_left h0)
  .simp only[aN] at ht;exact absurd ht.2.1 h0
 .cases h
def IA(f:Nat->Bool)(j:Nat):Nat->Bool:=λk=>if k=j then true else f k
def rS:(Nat->Bool)->List lP->fS->Bool
 |f,[],t=>MY f (jV t)
 |f,r :: l,t=>MY f (gV r.d)&&rS (IA f (gM r.d).toNat) l t
def pW(f:Nat->Bool)(rs:List lP):Nat->Bool:=rs.foldl (λf r=>IA f (gM r.d).toNat) f
theorem OH(f:Nat->Bool)(rs:List lP)(k:Nat)(r:lP)(h:rs[k]? =some r):pW f (rs.take (k+1))=IA (pW f (rs.take k)) (gM r.d).toNat:=by
 rw[bL,h,pW,List.foldl_append]
 rfl
theorem oz(f:Nat->Bool)(rs:List lP)(t:fS)(k:Nat)(r:lP)(h:rs[k]? =some r):rS f (rs.drop k) t=(MY f (gV r.d)&&rS (IA f (gM r.d).toNat) (rs.drop (k+1)) t):=by
 have hk:=(aE.1 h).1
 rw[cn hk,rS]
 have:=(aE.1 h).2
 rw[this]
def PJ(w:World)(b:nA)(f:Nat->Bool)(W:World):Prop:=
 W.heap[w.heap.size]? =some (vsO f)/\W.heap[w.heap.size+1]? =some (oA b)/\(∃h,W.heap[w.heap.size+1+1]? =some (vsO h))/\Below w.heap.size w W
theorem PJ.ext{w:World}{b:nA}{f:Nat->Bool}{W W':World}(h:PJ w b f W)(hb:Below W.heap.size W W'):PJ w b f W':=by
 obtain⟨h1,h2,⟨g,h3⟩,h4⟩:=h
 refine⟨fB hb h1,fB hb h2,⟨g,fB hb h3⟩,h4.trans (hb.mono h4.size)⟩
theorem mY:(Tryz.prog.info? 161).map (·.size)=some 8:=by kernel_rfl
theorem nb(f:Nat->Bool)(b:nA)(rs:List lP)(w:World)(ht:pU b.t)(hI:tC w b.ia b.n rs)(hna:∀r∈rs,r.na<=1000000):
  Calls Tryz.prog 140 #[.agg (jN f),IE b] w λe w'=>∃h,e=.returned (.tuple #[.agg (jN h),.bool (rS f rs b.t)])/\Below w.heap.size w w':=by
 have HT:=ac ht
 have HI:=ac hI
 have HNA:=ac hna
 have HL:=ac hI.1.1
 have hn:=hI.1.2.1
 clear ht hI hna
 go_enter Tryz.func140,Tryz.ntmps140
 go_upto_region 1 with (fail)
 obtain⟨W,hW⟩:∃W,W=((w.alloc (vsO f)).alloc (oA b)).alloc (vsO λ_=>false):=⟨_,rfl⟩
 rw[nV,<-hW]
 have hJ:PJ w b f W:=by
  rw[hW];refine⟨?_,?_,⟨λ_=>false,?_⟩,(((ag _ w).alloc (aj _) _).alloc (by simp) _).alloc (by simp;omega) _⟩
  .rw[aG _ _ _ (by simp;omega),aG _ _ _ (by simp)];exact ae _ _
  .rw[aG _ _ _ (by simp)];have:=ae (w.alloc (vsO f)) (oA b);simpa using this
  .have:=ae ((w.alloc (vsO f)).alloc (oA b)) (vsO λ_=>false);simpa using this
 have HJ:=ac hJ
 have b0:=cK 0 hJ.2.1 rfl
 have hl1:=fE hJ.2.1
 clear hW hJ
 go_wp2
 clear b0 hl1
 go_loopw [11] (λi wr=>∃k:Nat,i=.int .i64 k/\k<=b.n/\Hid (PJ w b (pW f (rs.take k)) wr)/\Hid (rS f rs b.t=rS (pW f (rs.take k)) (rs.drop k) b.t)) (λi _=>b.n-(intOf i).toNat)
 case atStart=>exact⟨0,rfl,by omega,HJ.out,rfl⟩
 case round=>
  obtain⟨k,rfl,hk,HP,HE⟩:=hrel;clear HJ;by_cases hlt:k<b.n
  .obtain⟨r,bb,oo,hr,hok,hia,c0,c1,c2,c3,c4,c5,c6,c7⟩:=(HI.out.ext HP.out.2.2.2).cells hlt;have HST:=ac (OH f rs k r hr);have HDR:=ac (oz (pW f (rs.take k)) rs b.t k r hr);have hnr:=HNA.out r (aK hr);generalize pW f (rs.take k)=fk at *;rw[hia];have hlt':(k:Int)<(b.n:Int):=by omega
   have HOK:=ac hok;clear hr hok;go_upto_region 4 with (fail)
   obtain⟨Wi,hWi⟩:∃Wi,Wi=wr.alloc (vR r.d r.aa r.na r.ca):=⟨_,rfl⟩
   have hri:Wi.heap[wr.heap.size]? =some (vR r.d r.aa r.na r.ca):=by rw[hWi];exact ae _ _
   have hbi:Below wr.heap.size wr Wi:=by rw[hWi];exact fD _ _
   rw[show wr.alloc (Obj.cells #[.int .i64 r.d.op,.int .i64 r.d.dst,.int .i64 r.d.a,.int .i64 r.d.b,.int .i64 r.d.imm,.int .i64 r.d.callee,.slice r.aa r.na r.ca,.int .i64 r.d.many] 161)=Wi from hWi.symm];have HRI:=ac hri;have HPI:=ac (HP.out.ext hbi);have HOKI:=ac (HOK.out.ext hbi);have HRD:=ac (λx hx=>AM (i:=r.d) (x:=x) hx);obtain⟨m,hm⟩:∃m:Nat,gM r.d=(m:Int):=⟨(gM r.d).toNat,by have:=(lX r.d).1;omega⟩
   have hml:m<201:=by have:=(lX r.d).2;omega
   have HMD:=ac hm;clear hWi hri hbi c0 c1 c2 c3 c4 c5 c6 c7 hia hm HP HOK;cases hb:MY fk (gV r.d) with
   |false=>
    have HF:Hid (rS f rs b.t=false):=by rw[Hid,HE.out,HDR.out,hb];rfl
    go_wp2_with (first
     |((with_reducible show wpList _ _ _ (⟨some 15,_,_,_,_,_⟩ :: _) _ _);refine ay (o:=⟨some 15,.load 161 _,_,_,_,_⟩) rfl 161 _ rfl wr.heap.size rfl 161 _ (0,0) _ HRI.out cF rfl mY ?_)
     |(go_at_call 73
       refine(uH r.d r.aa r.na r.ca Wi HOKI.out.1 HOKI.out.2.2.2.2.1 HOKI.out.2.2.2.2.2.1 HOKI.out.2.2.2.2.2.2.1 HOKI.out.2.2.2.2.2.2.2.1 hnr).mono ?_;rintro e w1 ⟨rv,rfl,ho,hb1⟩;obtain⟨ra,rc,rfl⟩:=ho.form;have HO1:=ac ho.ints;have HP1:=ac (HPI.out.ext hb1)
       clear ho hb1)
     |(go_at_call 217
       refine(JP fk w.heap.size ra _ rc (gV r.d) w1 HP1.out.1 HO1.out (λx hx=>⟨by have:=(HRD.out x hx).1;omega,(HRD.out x hx).2⟩)).mono ?_;rw[hb];rintro e w2 ⟨rfl,hb2⟩;have HP2:=ac (HP1.out.ext hb2)
       clear hb2)
     |((with_reducible show wpList _ _ _ (⟨some 19,_,_,_,_,_⟩ :: _) _ _);refine ay (o:=⟨some 19,.load 158 _,_,_,_,_⟩) rfl 158 _ rfl w.heap.size rfl 158 _ (0,0) _ HP2.out.1 cP rfl (by rw[iI];exact nW) ?_)
     |(refine aP rfl 158 _ _ rfl (w.heap.size+1+1) (jN fk) rfl rfl 158 _ HP2.out.2.2.1.choose_spec (by rw[iI];exact nW) (by rw[iI,iI]) (nT _) ?_))
    have hload:=AR (bt _ _ _ (jN fk) _ _ HP2.out.2.2.1.choose_spec);refine aR (v:=.tuple #[.agg (jN fk),.bool false]) (by simp[results,Tryz.results140,asAddr,Act.put,hload]) rfl ?_;rw[HF.out];exact⟨_,rfl,aX HP2.out.2.2.2 (by omega) _⟩
   |true=>
    have HF:Hid (rS f rs b.t=rS (IA fk m) (rs.drop (k+1)) b.t):=by rw[Hid,HE.out,HDR.out,hb,HMD.out];rfl
    have HS1:Hid (pW f (rs.take (k+1))=IA fk m):=by rw[Hid,HST.out,HMD.out];rfl
    go_wp2_with (first
     |((with_reducible show wpList _ _ _ (⟨some 15,_,_,_,_,_⟩ :: _) _ _);refine ay (o:=⟨some 15,.load 161 _,_,_,_,_⟩) rfl 161 _ rfl wr.heap.size rfl 161 _ (0,0) _ HRI.out cF rfl mY ?_)
     |(go_at_call 73
       refine(uH r.d r.aa r.na r.ca Wi HOKI.out.1 HOKI.out.2.2.2.2.1 HOKI.out.2.2.2.2.2.1 HOKI.out.2.2.2.2.2.2.1 HOKI.out.2.2.2.2.2.2.2.1 hnr).mono ?_;rintro e w1 ⟨rv,rfl,ho,hb1⟩;obtain⟨ra,rc,rfl⟩:=ho.form;have HO1:=ac ho.ints;have HP1:=ac (HPI.out.ext hb1);have HR1:=ac (fB hb1 HRI.out);have HK1:=ac (HOKI.out.ext hb1)
       clear ho hb1)
     |(go_at_call 217
       refine(JP fk w.heap.size ra _ rc (gV r.d) w1 HP1.out.1 HO1.out (λx hx=>⟨by have:=(HRD.out x hx).1;omega,(HRD.out x hx).2⟩)).mono ?_;rw[hb];rintro e w2 ⟨rfl,hb2⟩;have HP2:=ac (HP1.out.ext hb2);have HR2:=ac (fB hb2 HR1.out);have HK2:=ac (HK1.out.ext hb2)
       clear hb2)
     |((with_reducible show wpList _ _ _ (⟨some 20,_,_,_,_,_⟩ :: _) _ _);refine ay (o:=⟨some 20,.load 161 _,_,_,_,_⟩) rfl 161 _ rfl wr.heap.size rfl 161 _ (0,0) _ HR2.out cF rfl mY ?_)
     |(go_at_call 74
       refine(sZ r.d r.aa r.na r.ca w2 HK2.out.1 HK2.out.2.2.2.2.1 HK2.out.2.2.2.2.2.1 HK2.out.2.2.2.2.2.2.1 HK2.out.2.2.2.2.2.2.2.1).mono ?_;rw[HMD.out];rintro e w3 ⟨rfl,hb3⟩;have HP3:=ac (HP2.out.ext hb3);have hcell:=oK HP3.out.1 m hml;have hfr:=tR HP3.out.1 m;have hl3:=fE HP3.out.1;have hmi:(m:Int)<201:=(by omega)
       clear hb3))
    have hP4:PJ w b (IA fk m) (w3.setCell ⟨w.heap.size,m,none⟩ (.bool true)):=by
     obtain⟨h1,h2,⟨h,h3⟩,h4⟩:=HP3.out;refine⟨wB h1 m true λj _=>rfl,?_,⟨h,?_⟩,h4.setCell (aj _) _⟩
     .rw[aU _ _ _ _ (by simp)];exact h2
     .rw[aU _ _ _ _ (by simp;omega)];exact h3
    go_roundw
    case rel=>exact⟨k+1,by go_num,by omega,by rw[Hid,HS1.out];exact hP4,by rw[Hid,HS1.out];exact HF.out⟩
    case measure=>simp[intOf];omega
  .obtain rfl:k=b.n:=by omega
   have HE2:Hid (rS f rs b.t=MY (pW f (rs.take b.n)) (jV b.t)):=by
    rw[Hid,HE.out,dx (by rw[HL.out];exact aj _)];rfl
   generalize pW f (rs.take b.n)=fk at *;have HNV:=ac (λx hx=>AO (t:=b.t) (x:=x) hx);obtain⟨wp,hwp⟩:∃x,x=wr:=⟨_,rfl⟩
   go_upto_region 8 with (fail)
   have q1:∀w',(∃m:mL (PJ w b fk),w'=m.val)->w'.heap[w.heap.size]? =some (vsO fk):=λw' ⟨m,e⟩=>by rw[e];exact m.prop.1
   have g1:∀m:mL (PJ w b fk),m.val.cell? ⟨w.heap.size+1,1,none⟩=some (.int .i64 b.t.kind):=λm=>cR m.prop.2.1 rfl;have g2:∀m:mL (PJ w b fk),m.val.cell? ⟨w.heap.size+1,2,none⟩=some (.int .i64 b.t.a):=λm=>cR m.prop.2.1 rfl;have g3:∀m:mL (PJ w b fk),m.val.cell? ⟨w.heap.size+1,3,none⟩=some (.int .i64 b.t.t0):=λm=>cR m.prop.2.1 rfl;have g4:∀m:mL (PJ w b fk),m.val.cell? ⟨w.heap.size+1,4,none⟩=some (.int .i64 b.t.t1):=λm=>cR m.prop.2.1 rfl;have hP0:PJ w b fk wr.drew:=HP.out.ext (gB (ag _ _) 1);obtain⟨v0,hv0,hP0⟩:∃v0,wr.drew=v0/\PJ w b fk v0:=⟨_,rfl,hP0⟩
   have hne:Nonempty (mL (PJ w b fk)):=wZ hP0;have hst:∀W',PJ w b fk W'->PJ w b fk (W'.setRow (w.heap.size+1+1) (jN fk))/\(W'.setRow (w.heap.size+1+1) (jN fk)).heap[w.heap.size+1+1]? =some (vsO fk):=λW' h=>by
    obtain⟨h1,h2,⟨h,h3⟩,h4⟩:=h;have hs:=bt _ _ _ (jN fk) _ _ h3;refine⟨⟨?_,?_,⟨fk,hs⟩,aX h4 (by omega) _⟩,hs⟩
    .exact((aX (B:=w.heap.size+1) (g:=w.heap.size+1+1) (w0:=W') (w:=W') (ag _ _) (by omega) (jN fk)).block w.heap.size (by omega)).trans h1
    .exact((aX (B:=w.heap.size+1+1) (g:=w.heap.size+1+1) (w0:=W') (w:=W') (ag _ _) (by omega) (jN fk)).block (w.heap.size+1) (by omega)).trans h2
   refine rG (λw'=>∃m:mL (PJ w b fk),w'=m.val) (by kernel_rfl) ?_;rw[hv0];refine gR 0 3 (by kernel_rfl) (kX hP0) ?_;simp only[ap,aD,am,aw]
   repeat (first
    |(refine fW (o:=⟨some 24,.load 158 _,_,_,_,_⟩) (by rfl) 158 _ rfl w.heap.size rfl 158 _ (0,0) _ q1 cP rfl (by rw[iI];exact nW) ?_;simp only[Act.put,ar,aH,aF])
    |go_big_quiet_step (fail))
   refine aq ?_;clear q1 g1 g2 g3 g4 hv0;have HST:=ac hst;have HP0:=ac hP0;clear hst hP0 hne;refine jD 3 (by kernel_rfl) ?_;refine fR rfl rfl ?_;go_simp;refine(xM b.t v0 HT.out).mono ?_;rintro e v1 ⟨rv,rfl,ho,hb1⟩;obtain⟨ra,rc,rfl⟩:=ho.form;have HO1:=ac ho.ints;have HP1:=ac (HP0.out.ext hb1);clear ho hb1;refine⟨Or.inr (kX HP1.out),?_⟩
   try simp only[Act.put,ar,aH,aF]
   refine jD 4 (by kernel_rfl) ?_;refine fR rfl rfl ?_;go_simp;refine(JP fk w.heap.size ra _ rc (jV b.t) v1 HP1.out.1 HO1.out (λx hx=>⟨by have:=(HNV.out x hx).1;omega,(HNV.out x hx).2⟩)).mono ?_;rintro e v2 ⟨rfl,hb2⟩;have HP2:=ac (HP1.out.ext hb2);clear hb2;refine⟨Or.inr (kX HP2.out),?_⟩
   try simp only[Act.put,ar,aH,aF]
   refine jD 5 (by kernel_rfl) ?_;refine fR rfl rfl ?_;refine eQ 158 _ _ rfl (w.heap.size+1+1) (jN fk) rfl rfl 158 _ HP2.out.2.2.1.choose_spec (by rw[iI];exact nW) (by rw[iI,iI]) (nT _) ?_;have HP3:=ac (HST.out v2 HP2.out);refine⟨Or.inr (kX HP3.out.1),?_⟩
   try simp only[Act.put,ar,aH,aF]
   refine gR 6 1 (by kernel_rfl) (kX HP3.out.1) ?_;simp only[ap,aD,am,aw]
   repeat (go_big_quiet_step (fail))
   refine aq ?_;refine oO (by kernel_rfl) ?_;generalize v2.setRow (w.heap.size+1+1) (jN fk)=v3 at *;go_wp2;have hload:=AR HP3.out.2;refine aR (v:=.tuple #[.agg (jN fk),.bool (MY fk (jV b.t))]) (by simp[results,Tryz.results140,asAddr,Act.put,hload]) rfl ?_;rw[HE2.out];exact⟨_,rfl,HP3.out.1.2.2.2⟩
end

section
open Go.RowKit
structure iN where
 d:fT
 ba:Option Addr
 bn:Nat
 bc:Nat
def qN(t:iN):List Value:= [.int .i64 t.d.kind,.int .i64 t.d.parent,.slice t.ba t.bn t.bc]
theorem AK(t:iN):(qN t).length=3:=rfl
def iY(w:World)(a:Option Addr)(n:Nat)(ls:List iN):Prop:=tI 3 qN w a n ls/\∀t∈ls,iJ w t.ba t.bn t.d.blocks/\t.bn<=t.bc/\I64 t.d.kind/\I64 t.d.parent
theorem iY.ext{w w':World}{a:Option Addr}{n:Nat}{ls:List iN}(h:iY w a n ls)(hb:Below w.heap.size w w'):iY w' a n ls:=⟨h.1.ext AK hb,λt ht=>⟨(h.2 t ht).1.ext hb,(h.2 t ht).2⟩⟩
def fI(ls:List iN):List fT:=ls.map (·.d)
theorem mC(ls:List iN):(fI ls).length=ls.length:=by simp[fI]
theorem tK(ls:List iN)(k:Nat)(t:iN)(h:ls[k]? =some t):(fI ls).getD k oG=t.d:=by simp[fI,ak,h]
abbrev FP(t:iN):Obj:=.cells #[.int .i64 t.d.kind,.int .i64 t.d.parent,.slice t.ba t.bn t.bc] 65
theorem iY.cells{w:World}{a:Option Addr}{n:Nat}{ls:List iN}(h:iY w a n ls){k:Nat}(hk:k<n):∃t b o,ls[k]? =some t/\(iJ w t.ba t.bn t.d.blocks/\t.bn<=t.bc/\I64 t.d.kind/\I64 t.d.parent)/\a=some ⟨b,o,none⟩/\
  w.cell? ⟨b,o+k*3,none⟩=some (.int .i64 t.d.kind)/\w.cell? ⟨b,o+k*3+1,none⟩=some (.int .i64 t.d.parent)/\w.cell? ⟨b,o+k*3+2,none⟩=some (.slice t.ba t.bn t.bc):=by
 have hk':k<ls.length:=by rw[h.1.1];exact hk
 obtain⟨b,o,e,hc⟩:=h.1.2.2 k ls[k] (ah hk')
 exact⟨ls[k],b,o,ah hk',h.2 _ (bJ hk'),e,hc 0 (by omega),hc 1 (by omega),hc 2 (by omega)⟩
theorem vF(a:Option Addr)(n c:Nat)(ls:List iN)(w:World)(h:iY w a n ls):
  Calls Tryz.prog 66 #[.slice a n c] w λe w'=>e=.returned (.bool (jE (fI ls)))/\Below w.heap.size w w':=by
 have hn:=h.1.2.1
 have HL:=ac h.1.1
 have H:=ac h
 clear h
 go_enter Tryz.func66,Tryz.ntmps66
 go_wp2
 go_loopw [7] (λi wr=>∃(k:Nat),k<=n/\i=.int .i64 k/\Hid (∀j,j<k->-1<=oN (fI ls) j/\oN (fI ls) j<j)/\Hid (Below w.heap.size w wr)) (λi _=>n-(intOf i).toNat)
 case atStart=>exact⟨0,by omega,rfl,λj hj=>absurd hj (by omega),ag _ _⟩
 case round=>
  obtain⟨k,hk,rfl,HR,HB⟩:=hrel;by_cases hlt:k<n
  .obtain⟨t,b,o,hlk,hok,rfl,c0,c1,c2⟩:=(H.out.ext HB.out).cells hlt;obtain⟨_,_,_,hp1,hp2⟩:=hok;have htd:=tK ls k t hlk;have HTD:Hid (oN (fI ls) k=t.d.parent):=by rw[Hid,oN,htd]
   clear hlk htd;have hlt':(k:Int)<(n:Int):=by omega
   by_cases hg1:t.d.parent< -1
   .have HE:Hid (jE (fI ls)=false):=by
     rw[Hid,dk];intro h;have:=(jQ _).1 h k (by rw[mC,HL.out];exact hlt);rw[HTD.out] at this;omega
    go_wp2
    go_ret
    exact⟨by rw[HE.out];rfl,HB.out.alloc HB.out.size _⟩
   .by_cases hg2:t.d.parent<k
    .have HR2:Hid (∀j,j<k+1->-1<=oN (fI ls) j/\oN (fI ls) j<j):=λj hj=>by
      by_cases e:j=k
      .subst e;rw[HTD.out];omega
      .exact HR.out j (by omega)
     go_wp2
     go_roundw
     case rel=>exact⟨k+1,by omega,by go_num,HR2,HB.out.alloc HB.out.size _⟩
     case measure=>simp[intOf];omega
    .have HE:Hid (jE (fI ls)=false):=by
      rw[Hid,dk];intro h;have:=(jQ _).1 h k (by rw[mC,HL.out];exact hlt);rw[HTD.out] at this;omega
     go_wp2
     go_ret
     exact⟨by rw[HE.out];rfl,HB.out.alloc HB.out.size _⟩
  .obtain rfl:k=n:=by omega
   have HE:Hid (jE (fI ls)=true):=(jQ _).2 λj hj=>HR.out j (by rw[mC,HL.out] at hj;exact hj);go_wp2
   go_ret
   exact⟨by rw[HE.out];rfl,HB.out⟩
end
end Go.Proofs.YtbknbcmppdglhaaGreatDoor
