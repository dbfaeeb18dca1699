/-
 slices.ContainsFunc of instructions,of blocks;ir.long,whole.
-/
import Derived.Test.YtchdkjenhppleaaGreatA0
import Derived.Test.YtchdkjenhppleaaGreatSE
import Derived.Test.YtchdkjenhppleaaGreatTI
import Derived.Test.YtchdkjenhppleaaGreatInsR
import Derived.Test.YtchdkjenhppleaaGreatFC
import Derived.Test.YtchdkjenhppleaaGreatFM
import Derived.Test.YtchdkjenhppleaaGreatFP
import Derived.Test.YtchdkjenhppleaaGreatFH
namespace Go.Proofs.YtchdkjenhppleaaGreat
set_option linter.unusedSimpArgs false
set_option linter.unusedVariables false
set_option linter.unusedSectionVars false
set_option maxRecDepth 100000
set_option maxHeartbeats 40000000
section
open Go.RowKit
theorem FV(F:Nat)(caps:Array Value)(eF:∀args w,(callFunc F args).run Tryz.prog w=.ok (.enter F args) w)(p:iO->Bool)(a:Option Addr)(n c:Nat)(rs:List iO)(w:World)
  (hp:∀(r:iO) (W:World),r∈rs->Below w.heap.size w W->Calls Tryz.prog F (#[CW r]++caps) W λe W'=>e=.returned (.bool (p r))/\Below W.heap.size W W') (h:rN w a n rs):
  Calls Tryz.prog 53 #[.slice a n c,.func (.func F) #[] caps] w λe w'=>e=.returned (.int .i64 (iA p rs))/\Below w.heap.size w w':=by
 have HL:=ac h.1.1
 have hn:=h.1.2.1
 have H:=ac h
 have HP:=ac hp
 clear h hp
 go_enter Tryz.func53,Tryz.ntmps53
 go_wp2
 go_loopw [5,8] (λ_ i wr=>∃(k:Nat),k<=n/\i=.int .i64 k/\Hid (∀j y,j<k->rs[j]? =some y->p y=false)/\Hid (Below w.heap.size w wr)) (λ_ i _=>n-(intOf i).toNat)
 case atStart=>exact⟨0,by omega,rfl,λj y hj=>absurd hj (by omega),ao _ _⟩
 case round=>
  obtain⟨k,hk,rfl,HR,HB⟩:=hrel;by_cases hlt:k<n
  .obtain⟨r,b,o,hr,hok,rfl,c0,c1,c2,c3,c4,c5,c6,c7⟩:=(H.out.ext HB.out).cells hlt;have HG:=ac hr;have HM:=ac (aK hr);clear hr hok;by_cases hy:p r=true
   .have HE:Hid (iA p rs=k):=pU p rs k r HG.out hy HR.out;go_wp2;refine(HP.out r wr HM.out HB.out).mono ?_;rintro e w' ⟨rfl,hb'⟩;have HB':=ac (eA HB.out hb');clear hb';rw[hy];go_wp2
    go_ret
    exact⟨by rw[HE.out];rfl,HB'.out⟩
   .have hy':p r=false:=by simpa using hy
    have HE:Hid (∀j z,j<k+1->rs[j]? =some z->p z=false):=λj z hj hz=>by
     by_cases e:j=k
     .subst e;rw[HG.out] at hz;injection hz with hz;subst hz;exact hy'
     .exact HR.out j z (by omega) hz
    go_wp2;refine(HP.out r wr HM.out HB.out).mono ?_;rintro e w' ⟨rfl,hb'⟩;have HB':=ac (eA HB.out hb');clear hb';rw[hy'];go_wp2
    go_roundw
    case rel=>exact⟨k+1,by omega,by go_num,HE,HB'⟩
    case measure=>simp[intOf];omega
  .obtain rfl:k=n:=by omega
   have HE:Hid (iA p rs= -1):=rG p rs (λz hz=>by
    obtain⟨j,hj,e⟩:=a8.1 hz
    exact HR.out j z (by rw[HL.out] at hj;exact hj) (by rw[au hj,e]))
   go_wp2
   go_ret
   exact⟨by rw[HE.out];rfl,HB.out⟩
theorem rJ(F:Nat)(caps:Array Value)(eF:∀args w,(callFunc F args).run Tryz.prog w=.ok (.enter F args) w)(p:iO->Bool)(a:Option Addr)(n c:Nat)(rs:List iO)(w:World)
  (hp:∀(r:iO) (W:World),r∈rs->Below w.heap.size w W->Calls Tryz.prog F (#[CW r]++caps) W λe W'=>e=.returned (.bool (p r))/\Below W.heap.size W W') (h:rN w a n rs):
  Calls Tryz.prog 30 #[.slice a n c,.func (.func F) #[] caps] w λe w'=>e=.returned (.bool (rs.any p))/\Below w.heap.size w w':=by
 have HA:=ac (tD p rs)
 have hg:=vM p rs
 have HP:=ac hp
 have H:=ac h
 clear hp h
 go_enter Tryz.func30,Tryz.ntmps30
 go_wp2_with (go_at_call 53;refine(FV F caps eF p a n c rs w HP.out H.out).mono ?_;rintro e w' ⟨rfl,hb'⟩;have HB':=ac hb';clear hb')
 go_ret
 exact⟨by rw[<-HA.out];rfl,HB'.out⟩
theorem LW(F:Nat)(caps:Array Value)(eF:∀args w,(callFunc F args).run Tryz.prog w=.ok (.enter F args) w)(p:jU->Bool)(a:Option Addr)(n c:Nat)(rs:List jU)(w:World)
  (hp:∀(r:jU) (W:World),r∈rs->Below w.heap.size w W->Calls Tryz.prog F (#[AB r]++caps) W λe W'=>e=.returned (.bool (p r))/\Below W.heap.size W W') (h:iP w a n rs):
  Calls Tryz.prog 116 #[.slice a n c,.func (.func F) #[] caps] w λe w'=>e=.returned (.int .i64 (iA p rs))/\Below w.heap.size w w':=by
 have HL:=ac h.1.1
 have hn:=h.1.2.1
 have H:=ac h
 have HP:=ac hp
 clear h hp
 go_enter Tryz.func116,Tryz.ntmps116
 go_wp2
 go_loopw [5,8] (λ_ i wr=>∃(k:Nat),k<=n/\i=.int .i64 k/\Hid (∀j y,j<k->rs[j]? =some y->p y=false)/\Hid (Below w.heap.size w wr)) (λ_ i _=>n-(intOf i).toNat)
 case atStart=>exact⟨0,by omega,rfl,λj y hj=>absurd hj (by omega),ao _ _⟩
 case round=>
  obtain⟨k,hk,rfl,HR,HB⟩:=hrel;by_cases hlt:k<n
  .obtain⟨r,b,o,hr,hok,rfl,c0,c1,c2,c3,c4⟩:=(H.out.ext HB.out).cells hlt;have HG:=ac hr;have HM:=ac (aK hr);clear hr hok;by_cases hy:p r=true
   .have HE:Hid (iA p rs=k):=pU p rs k r HG.out hy HR.out;go_wp2;refine(HP.out r wr HM.out HB.out).mono ?_;rintro e w' ⟨rfl,hb'⟩;have HB':=ac (eA HB.out hb');clear hb';rw[hy];go_wp2
    go_ret
    exact⟨by rw[HE.out];rfl,HB'.out⟩
   .have hy':p r=false:=by simpa using hy
    have HE:Hid (∀j z,j<k+1->rs[j]? =some z->p z=false):=λj z hj hz=>by
     by_cases e:j=k
     .subst e;rw[HG.out] at hz;injection hz with hz;subst hz;exact hy'
     .exact HR.out j z (by omega) hz
    go_wp2;refine(HP.out r wr HM.out HB.out).mono ?_;rintro e w' ⟨rfl,hb'⟩;have HB':=ac (eA HB.out hb');clear hb';rw[hy'];go_wp2
    go_roundw
    case rel=>exact⟨k+1,by omega,by go_num,HE,HB'⟩
    case measure=>simp[intOf];omega
  .obtain rfl:k=n:=by omega
   have HE:Hid (iA p rs= -1):=rG p rs (λz hz=>by
    obtain⟨j,hj,e⟩:=a8.1 hz
    exact HR.out j z (by rw[HL.out] at hj;exact hj) (by rw[au hj,e]))
   go_wp2
   go_ret
   exact⟨by rw[HE.out];rfl,HB.out⟩
theorem tT(F:Nat)(caps:Array Value)(eF:∀args w,(callFunc F args).run Tryz.prog w=.ok (.enter F args) w)(p:jU->Bool)(a:Option Addr)(n c:Nat)(rs:List jU)(w:World)
  (hp:∀(r:jU) (W:World),r∈rs->Below w.heap.size w W->Calls Tryz.prog F (#[AB r]++caps) W λe W'=>e=.returned (.bool (p r))/\Below W.heap.size W W') (h:iP w a n rs):
  Calls Tryz.prog 79 #[.slice a n c,.func (.func F) #[] caps] w λe w'=>e=.returned (.bool (rs.any p))/\Below w.heap.size w w':=by
 have HA:=ac (tD p rs)
 have hg:=vM p rs
 have HP:=ac hp
 have H:=ac h
 clear hp h
 go_enter Tryz.func79,Tryz.ntmps79
 go_wp2_with (go_at_call 116;refine(LW F caps eF p a n c rs w HP.out H.out).mono ?_;rintro e w' ⟨rfl,hb'⟩;have HB':=ac hb';clear hb')
 go_ret
 exact⟨by rw[<-HA.out];rfl,HB'.out⟩
theorem XO(b:jU)(w:World):Calls Tryz.prog 105 (#[AB b]++ #[]) w λe w'=>e=.returned (.bool (decide (64<b.n)))/\Below w.heap.size w w':=by
 show Calls Tryz.prog 105 #[AB b] w _
 have HE:Hid (decide (64<b.n)=decide ((64:Int)<(b.n:Int))):=by rw[Hid,di];omega
 go_enter Tryz.func105,Tryz.ntmps105
 go_wp2
 go_ret
 exact⟨by rw[HE.out];rfl,eD _ _⟩
theorem TS(args:Array Value)(w:World):(callFunc 105 args).run Tryz.prog w=.ok (.enter 105 args) w:=cQ Tryz.func105 (by kernel_rfl) rfl args w
theorem EE(r:iO)(w:World)(h:vG w r):Calls Tryz.prog 108 (#[CW r]++ #[]) w λe w'=>e=.returned (.bool (!iQ r.d))/\Below w.heap.size w w':=by
 show Calls Tryz.prog 108 #[CW r] w _
 have HC:=ac (uO r.d r.aa r.na r.ca (w.alloc (zY r.d r.aa r.na r.ca)) (h.1.ext (eD _ _)) h.2.2.2.2.1 h.2.2.2.2.2.1 h.2.2.2.2.2.2.1 h.2.2.2.2.2.2.2.1)
 clear h
 go_enter Tryz.func108,Tryz.ntmps108
 go_wp2_with (
  (go_at_call 101
   refine HC.out.mono ?_;rintro e w1 ⟨rfl,hb1⟩;have HB1:=ac (eA (eD w _) hb1)
   clear hb1))
 go_ret
 exact⟨rfl,HB1.out⟩
theorem CC(args:Array Value)(w:World):(callFunc 108 args).run Tryz.prog w=.ok (.enter 108 args) w:=cQ Tryz.func108 (by kernel_rfl) rfl args w
def tO(pn bn:Nat)(bs:List jU):Bool:=decide (bn=0)||decide (200<bn)||decide (8<pn)||bs.any λb=>decide (64<b.n)
theorem DV(pa:Option Addr)(pn pc:Nat)(ba:Option Addr)(bn bc:Nat)(bs:List jU)(w:World)(h:iP w ba bn bs):
  Calls Tryz.prog 72 #[kF pa pn pc ba bn bc] w λe w'=>e=.returned (.bool (tO pn bn bs))/\Below w.heap.size w w':=by
 have HC:=ac (λW (hb:Below w.heap.size w W)=>tT 105 #[] TS (λb=>decide (64<b.n)) ba bn bc bs W (λr W' _ _=>XO r W') (h.ext hb))
 clear h
 by_cases h0:bn=0
 .have HE:Hid (tO pn bn bs=true):=by rw[Hid,tO,h0];simp
  subst h0
  go_enter Tryz.func72,Tryz.ntmps72
  go_wp2
  go_ret
  exact⟨by rw[HE.out];rfl,eD _ _⟩
 .have b0:((bn:Int)==0)=false:=by simpa using h0
  by_cases h1:200<bn
  .have HE:Hid (tO pn bn bs=true):=by rw[Hid,tO];simp[h1]
   have h1':(200:Int)<(bn:Int):=by omega
   clear h0 h1
   go_enter Tryz.func72,Tryz.ntmps72
   go_wp2
   go_ret
   exact⟨by rw[HE.out];rfl,eD _ _⟩
  .have h1':¬(200:Int)<(bn:Int):=by omega
   by_cases h2:8<pn
   .have HE:Hid (tO pn bn bs=true):=by rw[Hid,tO];simp[h2]
    have h2':(8:Int)<(pn:Int):=by omega
    clear h0 h1 h2
    go_enter Tryz.func72,Tryz.ntmps72
    go_wp2
    go_ret
    exact⟨by rw[HE.out];rfl,eD _ _⟩
   .have h2':¬(8:Int)<(pn:Int):=by omega
    have HE:Hid (tO pn bn bs=bs.any λb=>decide (64<b.n)):=by rw[Hid,tO];simp[h0,h1,h2]
    clear h0 h1 h2
    go_enter Tryz.func72,Tryz.ntmps72
    go_wp2_with (
     (go_at_call 79
      refine(HC.out _ (eD w _)).mono ?_;rintro e w1 ⟨rfl,hb1⟩;have HB1:=ac (eA (eD w _) hb1)
      clear hb1))
    go_ret
    exact⟨by rw[HE.out];rfl,HB1.out⟩
end

section
open Go.RowKit Go.Shelf
attribute [local go_sem] Oper.semAt_some iB fS gP fH
def exM:eY:=⟨2,[],0,[]⟩
abbrev MN:Value:=.agg #[.int .i64 2,.slice none 0 0,.int .i64 0,.slice none 0 0]
abbrev ZQ:Value:=.agg #[.int .i64 2,.slice none 0 0,.int .i64 0,.slice none 0 0,.int .i64 0,.int .i64 1]
abbrev IB:Obj:=.cells #[.int .i64 2,.slice none 0 0,.int .i64 0,.slice none 0 0,.int .i64 0,.int .i64 1] 148 (0,0)
theorem NL(is:Bool)(n:Int)(w:World):Calls Tryz.prog 117 #[.bool is,.int .i64 n] w λe w'=>e=.returned (.bool (!is&&n != 0))/\w=w':=by
 go_enter Tryz.func117,Tryz.ntmps117
 cases is
 .go_wp2
  go_ret
  exact⟨rfl,rfl⟩
 .go_wp2
  go_ret
  exact⟨rfl,rfl⟩
theorem TK(args:Array Value)(w:World):(callFunc 149 args).run Tryz.prog w=.ok (.enter 149 args) w:=cQ Tryz.func149 (by kernel_rfl) rfl args w
theorem WO(x:Int)(g:Nat)(w:World)(h:w.heap[g]? =some IB)(hx:0<=x/\x<2):Calls Tryz.prog 149 (#[.int .i64 x]++ #[.pointer (some ⟨g,0,none⟩)]) w λe w'=>e=.returned (.bool ((λ_=>false) x))/\Below w.heap.size w w':=by
 have d0:=cK 0 h rfl
 obtain⟨h1,h2⟩:=hx
 have h3:¬x<0:=by omega
 have h4:¬2<=x:=by omega
 go_enter Tryz.func149,Tryz.ntmps149
 go_wp2
 go_ret
 exact⟨by simp[h4],ao _ _⟩
theorem gm(a:Option Addr)(n c:Nat)(xs:List Int)(w:World)(h:fR w a n xs)(hx:∀x∈xs,0<=x/\x<2):Calls Tryz.prog 118 #[ZQ,.slice a n c] w λe w'=>e=.returned (.bool true)/\Below w.heap.size w w':=by
 have hmf:∀(fn:Fn) (first cap:Array Value) (w:World),(Instr.makeFunc fn first cap).run Tryz.prog w=.ok (.func fn first cap) w:=λ_ _ _ _=>rfl
 have H:=ac h
 have HX:=ac hx
 clear h hx
 go_enter Tryz.func118,Tryz.ntmps118
 go_wp2_with (
  (go_at_call 119
   refine(iJ _ #[.pointer (some ⟨w.heap.size,0,none⟩)] TK (λ_=>false) a n c xs (w.alloc IB) (λx W hm hb=>WO x _ W (eB hb (ai w _)) (HX.out x hm)) (H.out.ext (eC _ _))).mono ?_;rintro e w1 ⟨rfl,hb⟩;have HB:=ac (eA (eC w IB) hb);rw[show xs.any (λ_=>false)=false from by simp]
   clear hb))
 go_ret
 exact⟨rfl,HB.out⟩
theorem EQ{P:Program}{f:FuncId}{args:Array Value}{w:World}{a n:Nat}{v:Value}
  (h:Calls P f args (w.drewN (a+n)) λe w'=>e=.returned v/\w.drewN (a+n)=w'):Calls P f args (w.drewN (a+n)) λe w''=>e=.returned v/\∃m,w''=w.drewN (a+m):=
 h.mono λ_ _ ⟨he,hm⟩=>⟨he,n,hm.symm⟩
theorem NZ(i:mI)(w:World)(hi:i=⟨1,1,0,0,5,0,[],0⟩\/i=⟨15,0,1,0,0,0,[],0⟩):
  Calls Tryz.prog 80 #[ZQ,wC i none 0 0] w λe w'=>e=.returned (.int .i64 0)/\Below w.heap.size w w':=by
 have e1:eG 9 1=true:=rfl
 have e2:eG 9 2=false:=rfl
 have e3:eG 9 4=false:=rfl
 have e4:eG 9 24=true:=rfl
 have e5:eG 9 32=false:=rfl
 have e6:eG 9 8=true:=rfl
 have e7:eG 9 16=false:=rfl
 have k1:eG 3 1=true:=rfl
 have k2:eG 3 2=true:=rfl
 have k3:eG 3 4=false:=rfl
 have k4:eG 3 24=false:=rfl
 have k5:eG 3 32=false:=rfl
 have k6:eG 3 8=false:=rfl
 have k7:eG 3 16=false:=rfl
 have j1:hZ 1=9:=rfl
 have j2:hZ 15=3:=rfl
 rcases hi with rfl|rfl
 all_goals
  go_enter Tryz.func80,Tryz.ntmps80
  go_wp2_with (
   (go_at_call 95
    refine(qZ _ _).mono ?_;rintro e w1 ⟨rfl,hb1⟩;obtain⟨x1,x2,x3⟩:=GG w IB _ w1 hb1;obtain⟨a0,a1,a2,a3,a4,a5⟩:=nk x1 rfl;obtain⟨c0,c1,c2,c3,c4,c5,c6,c7⟩:=RC x2 rfl;have HB1:=ac x3
    clear x1 x2 x3 hb1))
  iterate 6
   go_quiet (first|(go_at_call 96;first|exact rC (mR _ _ _)|exact EQ (mR _ _ _))|(go_at_call 117;first|exact rC (NL _ _ _)|exact EQ (NL _ _ _)))
   go_wp2_with (first
    |(go_at_call 96
      refine(mR _ _ _).mono ?_
      rintro e w' ⟨rfl,rfl⟩)
    |(go_at_call 118
      refine(gm _ 3 3 _ _ (wQ _ w1.heap.size (by simp) _ _ _ (by unfold I64;omega) (by unfold I64;omega) (by unfold I64;omega) _) (by simp)).mono ?_;rintro e w2 ⟨rfl,hb⟩;have HB2:Hid (Below w.heap.size w w2):=eA HB1.out (eA (eA (eS (ao _ _) _) (eC _ _)) hb)
      clear hb))
  go_ret
  exact⟨rfl,HB2.out⟩
theorem WB(w:World):Calls Tryz.prog 81 #[ZQ,.agg #[.int .i64 3,.int .i64 0,.int .i64 0,.int .i64 0]] w λe w'=>e=.returned (.int .i64 0)/\Below w.heap.size w w':=by
 go_enter Tryz.func81,Tryz.ntmps81
 have hq:=λw=>ZS w 0 0 0 0
 go_wp2
 go_ret
 exact⟨rfl,eA (eC _ _) (eC _ _)⟩
def BA:mI:=⟨1,1,0,0,5,0,[],0⟩
def MU:mI:=⟨15,0,1,0,0,0,[],0⟩
def pA(w:World)(gT gB nt:Nat):Prop:=w.heap[gT]? =some (.cells #[.int .i64 1,.int .i64 1,.int .i64 0,.int .i64 0,.int .i64 5,.int .i64 0,.slice none 0 0,.int .i64 0,.int .i64 15,.int .i64 0,.int .i64 1,.int .i64 0,.int .i64 0,.int .i64 0,.slice none 0 0,.int .i64 0] 62 (0,0))/\w.heap[gB]? =some (.cells #[.slice (some ⟨gT,0,none⟩) nt 2,.int .i64 3,.int .i64 0,.int .i64 0,.int .i64 0] 31 (0,0))
theorem pA.ext{w w':World}{gT gB nt:Nat}(h:pA w gT gB nt)(hb:Below w.heap.size w w'):pA w' gT gB nt:=⟨eB hb h.1,eB hb h.2⟩
abbrev QZ(gB:Nat):Value:=.agg #[.int .i64 0,.slice (some ⟨gB,0,none⟩) 1 1]
def ku(gT nt:Nat):jU:=⟨some ⟨gT,0,none⟩,nt,2,⟨3,0,0,0⟩⟩
theorem pA.blks{w:World}{gT gB nt:Nat}(h:pA w gT gB nt):iP w (some ⟨gB,0,none⟩) 1 [ku gT nt]:=by
 refine⟨⟨rfl,by omega,λk x hx=>⟨gB,0,rfl,λj hj=>?_⟩⟩,λb hb=>?_⟩
 .rw[bd _ _ _ _ _ _ h.2]
  match k,hx,j,hj with
  |0,hx,0,_|0,hx,1,_|0,hx,2,_|0,hx,3,_|0,hx,4,_=>injection hx with hx;subst hx;rfl
  |k+1,hx,_,_=>simp at hx
  |_,_,j+5,hj=>omega
 .rw[bm] at hb;subst hb;simp only[rM,ku,I64];omega
theorem GS(args:Array Value)(w:World):(callFunc 78 args).run Tryz.prog w=.ok (.enter 78 args) w:=cQ Tryz.func78 (by kernel_rfl) rfl args w
theorem PO(b:jU)(w:World):Calls Tryz.prog 78 (#[AB b]++ #[]) w λe w'=>e=.returned (.bool (decide (4000<b.n)))/\Below w.heap.size w w':=by
 go_enter Tryz.func78,Tryz.ntmps78
 go_wp2
 go_ret
 exact⟨by rw[show decide (4000<b.n)=decide ((4000:Int)<(b.n:Int)) from di.2 (by omega)];rfl,eC _ _⟩
theorem AA(w:World):lB w exM none 0 0 none 0 0:=⟨⟨rfl,by omega,λk hk=>absurd hk (by simp[exM])⟩,⟨rfl,by omega,λk hk=>absurd hk (by simp[exM])⟩,by omega,by omega,by omega,by omega,by show I64 2;unfold I64;omega,by show I64 0;unfold I64;omega⟩
abbrev RA(gB:Nat):Obj:=.cells #[.int .i64 0,.slice (some ⟨gB,0,none⟩) 1 1] 49 (0,0)
def GJ(P gT gB nt:Nat)(W:World):Prop:=W.heap[P]? =some (iK exM none 0 0 none 0 0)/\W.heap[P+1]? =some (RA gB)/\pA W gT gB nt
theorem GJ.ext{P gT gB nt:Nat}{W W':World}(h:GJ P gT gB nt W)(hb:Below W.heap.size W W'):GJ P gT gB nt W':=⟨eB hb h.1,eB hb h.2.1,h.2.2.ext hb⟩
theorem GJ.tgt{P gT gB nt:Nat}{W:World}(h:GJ P gT gB nt W):W.cell? ⟨P+1,0,none⟩=some (.int .i64 0)/\W.cell? ⟨P+1,1,none⟩=some (.slice (some ⟨gB,0,none⟩) 1 1):=qR h.2.1 rfl
theorem GJ.mach{P gT gB nt:Nat}{W:World}(h:GJ P gT gB nt W):W.cell? ⟨P,0,none⟩=some (.int .i64 2)/\W.cell? ⟨P,1,none⟩=some (.slice none 0 0)/\W.cell? ⟨P,2,none⟩=some (.int .i64 0)/\W.cell? ⟨P,3,none⟩=some (.slice none 0 0):=wD h.1 rfl
theorem GJ.blk{P gT gB nt:Nat}{W:World}(h:GJ P gT gB nt W):W.cell? ⟨gB,0,none⟩=some (.slice (some ⟨gT,0,none⟩) nt 2)/\W.cell? ⟨gB,1,none⟩=some (.int .i64 3)/\W.cell? ⟨gB,2,none⟩=some (.int .i64 0)/\W.cell? ⟨gB,3,none⟩=some (.int .i64 0)/\W.cell? ⟨gB,4,none⟩=some (.int .i64 0):=nN h.2.2.2 rfl
theorem LT(gT gB nt:Nat)(w:World)(hn:nt=1\/nt=2)(h:pA w gT gB nt):Calls Tryz.prog 46 #[MN,QZ gB] w λe w'=>e=.returned (.int .i64 0)/\Below w.heap.size w w':=by
 have hn1:1<=nt:=by omega
 have hn2:nt<=2:=by omega
 have hn3:decide (4000<nt)=false:=dd (by omega)
 have HN:=ac hn
 have H:=ac h
 clear hn h
 obtain⟨W,hW⟩:∃W,W=(w.alloc (iK exM none 0 0 none 0 0)).alloc (RA gB):=⟨_,rfl⟩
 obtain⟨x1,x2,x3⟩:=GG w (iK exM none 0 0 none 0 0) (RA gB) W (by rw[hW];exact ao _ _)
 have HB:=ac x3
 have HW:=ac hW
 have HM:Hid (GJ w.heap.size gT gB nt W):=⟨x1,x2,H.out.ext x3⟩
 have e0:kN exM=true:=by decide
 clear x1 x2 x3 hW
 go_enter Tryz.func46,Tryz.ntmps46
 go_upto_region 2 with (fail)
 have hWe:(w.alloc (.cells #[.int .i64 2,.slice none 0 0,.int .i64 0,.slice none 0 0] 24)).alloc (.cells #[.int .i64 0,.slice (some ⟨gB,0,none⟩) 1 1] 49)=W:=HW.out.symm
 rw[hWe]
 clear hWe
 obtain⟨P,hP⟩:∃P,P=w.heap.size:=⟨_,rfl⟩
 have HP:=ac hP
 rw[<-hP] at HM|-
 clear hP
 obtain⟨m0,m1,m2,m3⟩:=HM.out.mach
 go_upto_region 9 with (first
  |(go_at_call 79
    refine(tT _ #[] GS (λb=>decide (4000<b.n)) (some ⟨gB,0,none⟩) 1 1 [ku gT nt] w1 (λb W _ _=>PO b W) HM1.out.2.2.blks).mono ?_;rw[show [ku gT nt].any (λb=>decide (4000<b.n))=false from by simp only[List.any_cons,List.any_nil,Bool.or_false];exact hn3];rintro e w2 ⟨rfl,hb2⟩;obtain⟨M0,M1,M2,M3⟩:=(HM1.out.ext hb2).mach;obtain⟨T0,T1⟩:=(HM1.out.ext hb2).tgt;have HM2:=ac (HM1.out.ext hb2);have HB2:=ac (eA HB1.out hb2)
    clear hb2)
  |(go_at_call 27
    refine(nK exM none none 0 0 0 0 W (AA W)).mono ?_;rw[e0];rintro e w1 ⟨rfl,hb1⟩;obtain⟨t0,t1⟩:=(HM.out.ext hb1).tgt;have HM1:=ac (HM.out.ext hb1);have HB1:=ac hb1
    clear hb1))
 clear t0 t1 m0 m1 m2 m3
 go_upto_region 10 with (fail)
 obtain⟨w3,hw3⟩:∃w3,w3=w2.alloc IB:=⟨_,rfl⟩
 have hw3':w2.alloc (.cells #[.int .i64 2,.slice none 0 0,.int .i64 0,.slice none 0 0,.int .i64 0,.int .i64 1] 148)=w3:=hw3.symm
 rw[hw3']
 have hx3:Below w2.heap.size w2 w3:=by rw[hw3];exact eC _ _
 have HF3:Hid (w3.heap[w2.heap.size]? =some IB):=by rw[hw3];exact ai _ _
 have HM3:=ac (HM2.out.ext hx3)
 have HB3:=ac (eA HB2.out hx3)
 obtain⟨T0',T1'⟩:=HM3.out.tgt
 clear hw3 hw3' hx3 M0 M1 M2 M3 T0 T1
 generalize w2.heap.size=F at*
 go_wp2
 go_loopw [44] (λi wr=>∃k:Nat,i=.int .i64 (k:Int)/\k<=1/\Hid (Below w3.heap.size w3 wr)) (λi _=>1-(intOf i).toNat)
 case atStart=>exact⟨0,rfl,by omega,ao _ _⟩
 case round=>
  obtain⟨k,rfl,hk,HR⟩:=hrel;by_cases hlt:k<1
  .obtain rfl:k=0:=by omega
   rw[show((0:Nat):Int)=0 from rfl];obtain⟨b0,b1,b2,b3,b4⟩:=(HM3.out.ext HR.out).blk;go_upto_region 13 with (fail)
   obtain⟨w4,hw4⟩:∃w4,w4=wr.alloc (.cells #[.slice (some ⟨gT,0,none⟩) nt 2,.int .i64 3,.int .i64 0,.int .i64 0,.int .i64 0] 31):=⟨_,rfl⟩
   rw[<-hw4];have hx4:Below wr.heap.size wr w4:=by rw[hw4];exact eC _ _
   have HQ4:Hid (w4.heap[wr.heap.size]? =some (.cells #[.slice (some ⟨gT,0,none⟩) nt 2,.int .i64 3,.int .i64 0,.int .i64 0,.int .i64 0] 31 (0,0))):=by rw[hw4];exact ai _ _
   obtain⟨q0,q1,q2,q3,q4⟩:=nN HQ4.out rfl;have HR4:=ac (eA HR.out hx4);clear hw4 hx4 b0 b1 b2 b3 b4;generalize wr.heap.size=Q at *;go_wp2;clear q0 q1 q2 q3 q4
   go_loopw [51] (λi wr=>∃k:Nat,i=.int .i64 (k:Int)/\k<=nt/\Hid (Below w4.heap.size w4 wr)) (λi _=>nt-(intOf i).toNat)
   case atStart=>exact⟨0,rfl,by omega,ao _ _⟩
   case round=>
    obtain⟨k,rfl,hk,HI⟩:=hrel;have hX:=eA HR4.out HI.out;by_cases hlt2:k<nt
    .have hk2:k=0\/k=1:=by omega
     have hlt3:(k:Int)<(nt:Int):=by omega
     have hr:=(HM3.out.ext hX).2.2.1;obtain⟨f0,f1,f2,f3,f4,f5⟩:=nk (eB hX HF3.out) rfl;have hFl:=eT (eB hX HF3.out);have HX:=ac hX;clear hX;rcases hk2 with rfl|rfl
     .obtain⟨c0,c1,c2,c3,c4,c5,c6,c7⟩:=RC hr rfl;clear hr
      go_wp2_with (
       (go_at_call 80
        refine(NZ BA _ (.inl rfl)).mono ?_;rintro e w5 ⟨rfl,hb5⟩;have HI5:=ac (eA HI.out (eA (eC _ _) hb5))
        clear hb5))
      go_roundw
      case rel=>exact⟨1,rfl,by omega,HI5⟩
      case measure=>simp[intOf];omega
     .have c0:=cK 8 hr rfl;have c1:=cK 9 hr rfl;have c2:=cK 10 hr rfl;have c3:=cK 11 hr rfl;have c4:=cK 12 hr rfl;have c5:=cK 13 hr rfl;have c6:=cK 14 hr rfl;have c7:=cK 15 hr rfl;clear hr
      go_wp2_with (
       (go_at_call 80
        refine(NZ MU _ (.inr rfl)).mono ?_;rintro e w5 ⟨rfl,hb5⟩;have HI5:=ac (eA HI.out (eA (eC _ _) hb5))
        clear hb5))
      go_roundw
      case rel=>exact⟨2,rfl,by omega,HI5⟩
      case measure=>simp[intOf];omega
    .obtain rfl:k=nt:=by omega
     have hlt3:¬(k:Int)<(k:Int):=by omega
     obtain⟨f0,f1,f2,f3,f4,f5⟩:=nk (eB hX HF3.out) rfl;obtain⟨q0,q1,q2,q3,q4⟩:=nN (eB HI.out HQ4.out) rfl;have HX:=ac hX;clear hX;obtain⟨w6,rfl⟩:∃z:World,z=wr:=⟨_,rfl⟩
     go_wp2_with (
      (go_at_call 81
       refine(WB w6).mono ?_;rintro e w7 ⟨rfl,hb7⟩;have HR7:=ac (eA HX.out hb7)
       clear hb7))
     go_roundw
     case rel=>exact⟨1,rfl,by omega,HR7⟩
     case measure=>simp[intOf]
  .obtain rfl:k=1:=by omega
   go_wp2
   go_ret
   exact⟨rfl,eA HB.out (eA HB3.out HR.out)⟩
end
end Go.Proofs.YtchdkjenhppleaaGreat
