/-
 mach.Keeps;ir.Reads.
-/
import Derived.Test.YtchdkjenhppleaaGreatA0
import Derived.Test.YtchdkjenhppleaaGreatKH
import Derived.Test.YtchdkjenhppleaaGreatFP
import Derived.Test.YtchdkjenhppleaaGreatFL
import Derived.Test.YtchdkjenhppleaaGreatFM
import Derived.Test.YtchdkjenhppleaaGreatFC
namespace Go.Proofs.YtchdkjenhppleaaGreat
set_option linter.unusedSimpArgs false
set_option linter.unusedVariables false
set_option linter.unusedSectionVars false
set_option maxRecDepth 100000
set_option maxHeartbeats 40000000
section
open Go.RowKit
def xK(r:Int):Fct:=(-1-r,false,r)
def wH(m:eY):List Fct:=if kN m then m.saved.map xK else []
theorem PH{m:eY}(h:kN m=true):m.saved.length<=64/\∀r∈m.saved,0<=r/\r<64:=by
 simp only[kN,az,aR] at h
 obtain⟨⟨⟨⟨⟨⟨h1,h2⟩,h3⟩,h4⟩,h5⟩,h6⟩,h7⟩:=h
 refine⟨by omega,λr hr=>?_⟩
 unfold ofB at h7
 rw[aR] at h7
 obtain⟨j,hj,e⟩:=a8.1 (db m.ret hr)
 have:=h7 ⟨j,hj⟩
 simp only[Fin.getElem_fin,e] at this
 omega
def kl(w:World)(l:List Fct)(e:Ending)(w':World):Prop:=∃v,e=.returned v/\qA w' w.heap.size v l/\Below w.heap.size w w'
theorem JF(m:eY)(a1 a2:Option Addr)(n1 c1 n2 c2:Nat)(w:World)(h:lB w m a1 n1 c1 a2 n2 c2):
  Calls Tryz.prog 68 #[nG m a1 n1 c1 a2 n2 c2] w (kl w (wH m)):=by
 have HM:=ac h
 have HL:=ac h.2.1.1
 clear h
 cases hr:kN m with
 |false=>
  have HR:=ac hr;clear hr
  go_enter Tryz.func68,Tryz.ntmps68
  go_wp2_with (
   (go_at_call 27
    refine(nK m a1 a2 n1 c1 n2 c2 _ (HM.out.ext (eC w _))).mono ?_;rintro e w1 ⟨rfl,hb1⟩;rw[HR.out];have HB1:=ac (eA (eC w _) hb1)
    clear hb1))
  go_ret
  exact⟨_,rfl,by unfold wH;rw[HR.out];exact jE.nil _ _ _ _ _,HB1.out⟩
 |true=>
  have HR:=ac hr;have HSV:=ac (PH hr);clear hr
  go_enter Tryz.func68,Tryz.ntmps68
  go_wp2_with (
   (go_at_call 27
    refine(nK m a1 a2 n1 c1 n2 c2 _ (HM.out.ext (eC w _))).mono ?_;rintro e w1 ⟨rfl,hb1⟩;rw[HR.out];have hx1:=eB hb1 (ai w (iK m a1 n1 c1 a2 n2 c2));have x3:=cK 3 hx1 rfl;have HB1:=ac (eA (eC w _) hb1)
    clear hb1 hx1))
  have hn2:n2<=64:=by have:=HSV.out.1;rw[HL.out] at this;exact this
  go_loopw [2,4,11] (λv _ i wr=>∃k,k<=n2/\i=.int .i64 (k:Nat)/\Hid (qA wr w.heap.size v ((m.saved.take k).map xK))/\Hid (Below w.heap.size w wr)) (λ_ _ i _=>n2-(intOf i).toNat)
  case atStart=>exact⟨0,by omega,rfl,jE.nil _ _ _ _ _,HB1⟩
  case round=>
   obtain⟨k,hk,rfl,HO,HB⟩:=hrel;clear x3;by_cases hlt:k<n2
   .obtain⟨b,o,rfl,hc,_⟩:=(HM.out.ext HB.out).2.1.2.2 k hlt
    have hsv:=HSV.out.2 (m.saved.getD k 0) (by
     have hk':k<m.saved.length:=by rw[HL.out];exact hlt
     rw[ax,au hk']
     exact dB hk')
    have HS:Hid ((m.saved.take (k+1)).map xK=(m.saved.take k).map xK++ [xK (m.saved.getD k 0)]):=by
     have hk':k<m.saved.length:=by rw[HL.out];exact hlt
     rw[Hid,DF m.saved k 0 hk',bN];rfl
    have HTL:Hid (((m.saved.take k).map xK).length=k):=by rw[Hid,bR,ck,HL.out];omega
    generalize m.saved.getD k 0=x at *;obtain⟨hs0,hs1⟩:=hsv;generalize (m.saved.take k).map xK=ls at *;obtain⟨av,cv,rfl⟩:=HO.out.form;have hll:=HTL.out;have hl2:ls.length<=64:=by omega
    clear hll
    go_wp2_with (
     (at_builtin
      refine fN rfl wr (.tmp 15) (.tmp 21) 32 44 rfl w.heap.size _ 3 24 cP MV rfl (by omega) (.slice av ls.length cv) ls.length _ (csF (xK x)) rfl HO.out.1 wr.heap.size rfl rfl rfl (by simp[csF,Value.oneCell']) (by simp only[maxLen];omega) (by omega) HB.out.size ?_;intro g2 cap w3 hown3 hgr3 hat3;have HO3:Hid (qA w3 w.heap.size (.slice (some ⟨g2,0,none⟩) (ls.length+1) cap) (ls++ [xK x])):=(⟨by simpa[cB] using hown3,by simp;omega⟩)
      have HB3:Hid (Below w.heap.size w w3):=(HB.out.grown hgr3 HB.out.size (λq e=>(HO.out.low e).1))
      clear hown3 hgr3 hat3))
    go_roundw
    case rel=>exact⟨k+1,by omega,by go_num,by rw[Hid,HS.out];exact HO3.out,HB3⟩
    case measure=>simp[intOf];omega
   .obtain rfl:k=n2:=by omega
    go_wp2
    go_ret
    refine⟨_,rfl,?_,HB.out⟩;unfold wH;rw[HR.out,aX rfl];have:=HO.out;rw[<-HL.out,cg] at this;exact this
theorem xX{w:World}{base:Nat}{e:TypeId}{size:Nat}{v:Value}{n:Nat}{xs:List Value}(h:w.ownsRow base e size v n xs):∃a c,v=.slice a n c:=by
 rcases h.2 with ⟨rfl,h0⟩|⟨g,cap,cur,hv,_⟩
 .rw[h0];exact⟨none,0,rfl⟩
 .exact⟨_,_,hv⟩
def lA(i:mI):List Int:=if rL i then ([i.a,i.b].filter λx=>x != 0)++i.args else []
def rQ(i:mI)(k:Nat):List Int:=([i.a,i.b].take k).filter λx=>x != 0
theorem fj(i:mI)(k:Nat):(rQ i k).length<=2:=by
 have h1:=bY (λx:Int=>x != 0) ([i.a,i.b].take k)
 have h2:=List.length_take_le k [i.a,i.b]
 have h3:([i.a,i.b].take k).length<=2:=by rw[ck];simp;omega
 exact bP h1 h3
theorem vH(i:mI)(k:Nat)(x:Int)(h: [i.a,i.b][k]? =some x):rQ i (k+1)=if x != 0 then rQ i k++ [x] else rQ i k:=by
 unfold rQ
 rw[bo,h,bE]
 cases hx:(x != 0)<;>simp[hx]
theorem XT{w:World}{a:Option Addr}{n:Nat}{xs:List Int}(h:fR w a n xs):∀j u,(xs.map (Value.int .i64))[j]? =some u->∃ad,a=some ad/\w.cell? (ad.add j)=some u:=h.news
theorem JJ(w:World)(x y:Int):(Instr.index 27 (.agg #[.int .i64 x,.int .i64 y]) (.int .i64 0)).run Tryz.prog w=.ok (.int .i64 x) w/\(Instr.index 27 (.agg #[.int .i64 x,.int .i64 y]) (.int .i64 1)).run Tryz.prog w=.ok (.int .i64 y) w:=by
 have hz:(sizeOf 3).run Tryz.prog w=.ok 1 w:=Tryz.sizeOf3 w
 have p0:(part 3 #[.int .i64 x,.int .i64 y] 0).run Tryz.prog w=.ok (.int .i64 x) w:=lJ _ _ _ w rfl
 have p1:(part 3 #[.int .i64 x,.int .i64 y] 1).run Tryz.prog w=.ok (.int .i64 y) w:=lJ _ _ _ w rfl
 constructor
 .simp[Instr.index,asIntOf,aZ (w:=w) dH,hz,p0,Result.andThen]
 .simp[Instr.index,asIntOf,aZ (w:=w) dH,hz,p1,Result.andThen]
theorem SD(i:mI)(aa:Option Addr)(na ca:Nat)(w:World)(h:fR w aa na i.args)(h1:I64 i.a)(h2:I64 i.b)(h3:I64 i.imm)(h4:I64 i.callee)(h5:na<=1000000):
  Calls Tryz.prog 64 #[wC i aa na ca] w λe w'=>∃a c,e=.returned (.slice a (lA i).length c)/\fR w' a (lA i).length (lA i)/\Below w.heap.size w w'/\∀q o s,a=some ⟨q,o,s⟩->w.heap.size<=q:=by
 have H:=ac h
 have HL:=ac h.1
 have H1:=ac h1
 have H2:=ac h2
 have HC:=ac (λW (hb:Below w.heap.size w W)=>JG i aa na ca W (h.ext hb) h1 h2 h3 h4)
 have hix:=λw=>(JJ w i.a i.b).1
 have hiy:=λw=>(JJ w i.a i.b).2
 have HX:Hid (∀q∈i.args,I64 q):=λq hq=>by
  obtain⟨k,hk,rfl⟩:=a8.1 hq;obtain⟨_,_,_,_,hi⟩:=h.2.2 k (by rw[<-h.1];exact hk);rw[ax,au hk] at hi;exact hi
 clear h h1 h2 h3 h4
 cases hr:rL i with
 |false=>
  have HR:=ac hr;clear hr
  go_enter Tryz.func64,Tryz.ntmps64
  go_wp2_with (
   (go_at_call 101
    refine(HC.out _ (eC w _)).mono ?_;rintro e w1 ⟨rfl,hb1⟩;rw[HR.out];have HB1:=ac (eA (eC w _) hb1)
    clear hb1))
  go_ret
  have e:lA i= []:=by unfold lA;rw[HR.out];rfl
  rw[e];exact⟨none,0,rfl,⟨rfl,by simp,λk hk=>by simp at hk⟩,HB1.out,λq o s e=>by cases e⟩
 |true=>
  have HR:=ac hr;clear hr
  go_enter Tryz.func64,Tryz.ntmps64
  go_wp2_with (
   (go_at_call 101
    refine(HC.out _ (eC w _)).mono ?_;rintro e w1 ⟨rfl,hb1⟩;rw[HR.out];have hx1:=eB hb1 (ai w (kY i aa na ca));have HX1:=ac hx1;obtain⟨-,-,x2,x3⟩:=wD hx1 rfl;have HB1:=ac (eA (eC w _) hb1)
    clear hb1 hx1))
  have hsz1:w.heap.size<w1.heap.size:=(am.1 HX1.out).1;have HSZ:=ac hsz1;clear hsz1
  go_loopw [2,4,13] (λv _ t wr=>∃k,k<=2/\t=.int .i64 (k:Nat)/\Hid (wr.ownsRow w1.heap.size 3 1 v (rQ i k).length ((rQ i k).map (Value.int .i64)))/\Hid (Below w1.heap.size w1 wr)) (λ_ _ t _=>2-(intOf t).toNat)
  case atStart=>exact⟨0,by omega,rfl,cC _ _ _ _,ao _ _⟩
  case round=>
   obtain⟨k,hk,rfl,HO,HB⟩:=hrel;clear x2 x3;have hl2:=fj i k;by_cases hlt:k<2
   .obtain rfl|rfl:k=0\/k=1:=by omega
    .by_cases hx:i.a=0
     .have hb:(i.a != 0)=false:=by simpa using hx
      have HT:Hid (rQ i 1=rQ i 0):=by rw[Hid,vH i 0 (i.a) rfl,hb];rfl
      clear hx;go_wp2
      go_roundw
      case rel=>exact⟨1,by omega,by go_num,by rw[Hid,HT.out];exact HO.out,HB⟩
      case measure=>simp[intOf]
     .have hb:(i.a != 0)=true:=by simpa using hx
      have HT:Hid (rQ i 1=rQ i 0++ [i.a]):=by rw[Hid,vH i 0 (i.a) rfl,hb];rfl
      clear hx;generalize rQ i 0=ls at *;obtain⟨av,cv,rfl⟩:=xX HO.out
      go_wp2_with (
       (at_builtin
        refine fN rfl wr (.tmp 18) (.tmp 20) 22 3 rfl w1.heap.size _ 1 8 aQ oA rfl (by omega) (.slice av ls.length cv) ls.length _ [.int .i64 (i.a)] rfl HO.out wr.heap.size rfl rfl rfl (by simp[Value.oneCell']) (by simp only[maxLen];omega) (by omega) HB.out.size ?_;intro g2 cap w3 hown3 hgr3 hat3;have HO3:Hid (w3.ownsRow w1.heap.size 3 1 (.slice (some ⟨g2,0,none⟩) (ls.length+1) cap) (ls++ [i.a]).length ((ls++ [i.a]).map (Value.int .i64))):=(by rw[Hid,bN,aT];exact hown3)
        have HB3:Hid (Below w1.heap.size w1 w3):=(HB.out.grown hgr3 HB.out.size (λq e=>(HO.out.lt q e).1))
        clear hown3 hgr3 hat3))
      go_roundw
      case rel=>exact⟨1,by omega,by go_num,by rw[Hid,HT.out];exact HO3.out,HB3⟩
      case measure=>simp[intOf]
    .by_cases hx:i.b=0
     .have hb:(i.b != 0)=false:=by simpa using hx
      have HT:Hid (rQ i 2=rQ i 1):=by rw[Hid,vH i 1 (i.b) rfl,hb];rfl
      clear hx;go_wp2
      go_roundw
      case rel=>exact⟨2,by omega,by go_num,by rw[Hid,HT.out];exact HO.out,HB⟩
      case measure=>simp[intOf]
     .have hb:(i.b != 0)=true:=by simpa using hx
      have HT:Hid (rQ i 2=rQ i 1++ [i.b]):=by rw[Hid,vH i 1 (i.b) rfl,hb];rfl
      clear hx;generalize rQ i 1=ls at *;obtain⟨av,cv,rfl⟩:=xX HO.out
      go_wp2_with (
       (at_builtin
        refine fN rfl wr (.tmp 18) (.tmp 20) 22 3 rfl w1.heap.size _ 1 8 aQ oA rfl (by omega) (.slice av ls.length cv) ls.length _ [.int .i64 (i.b)] rfl HO.out wr.heap.size rfl rfl rfl (by simp[Value.oneCell']) (by simp only[maxLen];omega) (by omega) HB.out.size ?_;intro g2 cap w3 hown3 hgr3 hat3;have HO3:Hid (w3.ownsRow w1.heap.size 3 1 (.slice (some ⟨g2,0,none⟩) (ls.length+1) cap) (ls++ [i.b]).length ((ls++ [i.b]).map (Value.int .i64))):=(by rw[Hid,bN,aT];exact hown3)
        have HB3:Hid (Below w1.heap.size w1 w3):=(HB.out.grown hgr3 HB.out.size (λq e=>(HO.out.lt q e).1))
        clear hown3 hgr3 hat3))
      go_roundw
      case rel=>exact⟨2,by omega,by go_num,by rw[Hid,HT.out];exact HO3.out,HB3⟩
      case measure=>simp[intOf]
   .obtain rfl:k=2:=by omega
    have HT:Hid (lA i=rQ i 2++i.args):=by rw[Hid];unfold lA;rw[HR.out,aX rfl];rfl
    have HI2:Hid (∀q∈rQ i 2,I64 q):=λq hq=>by
     have:=(bO.1 hq).1;simp at this;rcases this with rfl|rfl
     .exact H1.out
     .exact H2.out
    have hxr:=eB HB.out HX1.out;have x6:=cK 6 hxr rfl;have HHr:=ac (H.out.ext (eA HB1.out HB.out));have hsz:=HSZ.out;clear hxr HC HX1;generalize rQ i 2=ls at *;obtain⟨av,cv,rfl⟩:=xX HO.out
    go_wp2_with (
     (at_builtin
      refine uW wr rfl (.tmp 23) (.tmp 25) 22 3 rfl w1.heap.size (.int .i64 0) 8 aQ oA rfl (.slice av ls.length cv) ls.length _ rfl HO.out aa na ca rfl (i.args.map (Value.int .i64)) (by rw[bR,HL.out]) (XT HHr.out) (by intro u hu;obtain⟨q,_,rfl⟩:=bi.1 hu;rfl) (by simp only[maxLen];omega) (by omega) HB.out.size ?_;intro v3 w3 hown3 hgr3 hat3;have HO3:Hid (w3.ownsRow w1.heap.size 3 1 v3 (lA i).length ((lA i).map (Value.int .i64))):=(by rw[Hid,HT.out,bN,aT,HL.out];exact hown3)
      have HB3:Hid (Below w.heap.size w w3):=(eA HB1.out (HB.out.grown hgr3 HB.out.size (λq e=>(HO.out.lt q e).1)))
      clear hown3 hgr3 hat3))
    go_ret
    obtain⟨a3,c3,e3⟩:=xX HO3.out;have ho:=HO3.out;rw[e3] at ho
    refine⟨a3,c3,by rw[<-e3];rfl,?_,HB3.out,λq o s e=>by
     have h1:=(ho.lt q (by rw[e];rfl)).1;have h2:=HSZ.out
     omega⟩
    have hq:∀q∈lA i,I64 q:=λq hq=>by
     rw[HT.out] at hq;rcases bh.1 hq with hq|hq
     .exact HI2.out q hq
     .exact HX.out q hq
    have hle:(lA i).length<=1000002:=by rw[HT.out,aT,HL.out];omega
    rcases ho.2 with ⟨hv,h0⟩|⟨g,cap,cur,hv,_⟩
    .injection hv with e1 e2 e4;subst e1;rw[e2];have:lA i= []:=bB e2;rw[this];exact⟨rfl,by omega,λk hk=>by omega⟩
    .injection hv with e1 e2 e4;subst e1;exact vE ho hq (by omega)
end

section
open Go.RowKit
structure ZK where
 kind:Int
 a:Int
 to0:Int
 to1:Int
abbrev oy(t:ZK):Value:=.agg #[.int .i64 t.kind,.int .i64 t.a,.int .i64 t.to0,.int .i64 t.to1]
abbrev VL(t:ZK):Obj:=.cells #[.int .i64 t.kind,.int .i64 t.a,.int .i64 t.to0,.int .i64 t.to1] 29
def mM(K:Fct->Bool)(l:List Fct)(fe e:Int):Int:=l.foldl (λfe x=>oX K x fe e) fe
theorem BP(K:Fct->Bool)(l:List Fct)(x:Fct)(fe e:Int):mM K (l++ [x]) fe e=oX K x (mM K l fe e) e:=by simp[mM,List.foldl_append]
def tQ(m:eY)(K:Fct->Bool)(s t:ZK)(fe:Int):Int:=
 if s.kind=2 then oX K (s.a,false,t.a) fe 14 else if s.kind=3 then mM K (wH m) (if s.a=0 then fe else oX K (s.a,false,t.a) fe 14) 15 else fe
theorem ju(m:eY)(a1 a2:Option Addr)(n1 c1 n2 c2:Nat)(U:lT)(g b:Nat)(K:Fct->Bool)(fe:Int)(s t:ZK)(w:World)(hm:lB w m a1 n1 c1 a2 n2 c2)(hw:WS m a1 n1 c1 a2 n2 c2 U g b K fe w)(hmg:∀W,Chg (WT g b) w W->lB W m a1 n1 c1 a2 n2 c2):
  Calls Tryz.prog 37 #[.pointer (some ⟨g,0,none⟩),oy s,oy t] w λe w'=>e=.returned (.tuple #[])/\WS m a1 n1 c1 a2 n2 c2 U g b K (tQ m K s t fe) w'/\Chg (WT g b) w w':=by
 obtain⟨k,a,to0,to1⟩:=s
 obtain⟨tk,ta,tt0,tt1⟩:=t
 have HMG:=ac hmg
 have hlt:=hw.lt
 obtain⟨fe2,hfe2⟩:∃x,x=tQ m K ⟨k,a,to0,to1⟩ ⟨tk,ta,tt0,tt1⟩ fe:=⟨_,rfl⟩
 rw[<-hfe2]
 have HFE:=ac hfe2
 clear hfe2 hm hmg
 unfold tQ at HFE
 simp only at HFE
 go_enter Tryz.func37,Tryz.ntmps37
 go_upto_region 1 with (fail)
 obtain⟨W,hW⟩:∃W,W=(w.alloc (VL ⟨k,a,to0,to1⟩)).alloc (VL ⟨tk,ta,tt0,tt1⟩):=⟨_,rfl⟩
 have hr1:W.heap[w.heap.size]? =some (VL ⟨k,a,to0,to1⟩):=by rw[hW];exact eB (eC _ _) (ai _ _)
 have hr2:W.heap[w.heap.size+1]? =some (VL ⟨tk,ta,tt0,tt1⟩):=by
  rw[hW];have:=ai (w.alloc (VL ⟨k,a,to0,to1⟩)) (VL ⟨tk,ta,tt0,tt1⟩);simpa using this
 have hB:Below w.heap.size w W:=by rw[hW];exact eA (eC _ _) (eC _ _)
 rw[show(w.alloc (Obj.cells #[.int .i64 k,.int .i64 a,.int .i64 to0,.int .i64 to1] 29)).alloc (Obj.cells #[.int .i64 tk,.int .i64 ta,.int .i64 tt0,.int .i64 tt1] 29)=W from hW.symm]
 have HW:=ac (hw.ext hB)
 have HB:=ac hB
 obtain⟨x0,x1⟩:=qR hr1 rfl
 have y1:=cK 1 hr2 rfl
 have h0l:=(am.1 hr1).1
 have h1l:=(am.1 hr2).1
 have HL1:=ac hr1
 have HL2:=ac hr2
 clear hW hr1 hr2 hB hw
 have HC0:Hid (Chg (WT g b) w W):=(Chg.refl _ _).of_ext HB.out
 by_cases h2:k=2
 .subst h2;have HE:Hid (fe2=oX K (a,false,ta) fe 14):=by rw[Hid,HFE.out];rfl
  clear HFE
  go_wp2_with (
   (go_at_call 65
    refine(yB m a1 a2 n1 c1 n2 c2 U g b K fe 14 a (false,ta) W HW.out).mono ?_;rintro e w2 ⟨rfl,hs2,hc2⟩;have HS2:=ac hs2;have HC2:=ac (HC0.out.trans hc2)
    clear hs2 hc2))
  go_end0
  exact⟨rfl,by rw[HE.out];exact HS2.out,HC2.out⟩
 .have hk2:(k==2)=false:=by simpa using h2
  by_cases h3:k=3
  .subst h3;clear hk2 h2;obtain⟨fe1,hfe1⟩:∃x,x=(if a=0 then fe else oX K (a,false,ta) fe 14):=⟨_,rfl⟩
   have HE:Hid (fe2=mM K (wH m) fe1 15):=by rw[Hid,HFE.out,hfe1];rfl
   have HFE1:=ac hfe1;clear HFE hfe1
   go_upto_if 23 with (fail)
   go_cut [] (λwx=>Hid (WS m a1 n1 c1 a2 n2 c2 U g b K fe1 wx)/\Hid (Chg (WT g b) w wx))
   case first=>
    by_cases ha:a=0
    .have HE1:Hid (fe1=fe):=by rw[Hid,HFE1.out,aX ha]
     have hb:(a != 0)=false:=by simpa using ha
     clear ha;go_wp2
     go_meet
     exact⟨by rw[Hid,HE1.out];exact HW.out,HC0⟩
    .have HE1:Hid (fe1=oX K (a,false,ta) fe 14):=by rw[Hid,HFE1.out,aC ha]
     have hb:(a != 0)=true:=by simpa using ha
     clear ha
     go_wp2_with (
      (go_at_call 65
       refine(yB m a1 a2 n1 c1 n2 c2 U g b K fe 14 a (false,ta) W HW.out).mono ?_;rintro e w2 ⟨rfl,hs2,hc2⟩;have HS2:=ac hs2;have HC2:=ac (HC0.out.trans hc2)
       clear hs2 hc2))
     go_meet
     exact⟨by rw[Hid,HE1.out];exact HS2.out,HC2⟩
   case rest=>
    obtain⟨HW1,HC1⟩:=hcut;obtain⟨w1,rfl⟩:∃w1,w1=wc:=⟨_,rfl⟩
    clear x0 x1 y1 HW HC0 HFE1 HL1 HL2 h0l h1l;obtain⟨_,k1,k2,k3,k4,_⟩:=HW1.out.cells;have HMM:=ac (HMG.out _ HC1.out)
    go_wp2_with (
     (go_at_call 68
      refine(JF m a1 a2 n1 c1 n2 c2 w1 HMM.out).mono ?_;rintro e w2 ⟨v2,rfl,ho2,hb2⟩;obtain⟨av,cv,rfl⟩:=ho2.form;have HO2:=ac ho2;have HW2:=ac (HW1.out.ext hb2);have HC2:=ac (HC1.out.of_ext hb2);have HSB:=ac hb2.size
      clear ho2 hb2 k1 k2 k3 k4))
    have HLS:Hid ((wH m).length<=17592186044416):=HO2.out.2;have hls:=HLS.out;generalize hkl:wH m=ls at *;clear hkl;have HNW:Hid (∀q o,av=some ⟨q,o,none⟩->¬WT g b q):=λq o e h=>by
     have h1:=(HO2.out.low (k:=q) (by rw[e];rfl)).1;have h2:=HW1.out.lt;rcases h with h|h<;>omega
    go_loopw [7,37] (λ_ i wr=>∃j,j<=ls.length/\i=.int .i64 (j:Nat)/\Hid (WS m a1 n1 c1 a2 n2 c2 U g b K (mM K (ls.take j) fe1 15) wr)/\Hid (Chg (WT g b) w2 wr)) (λ_ i _=>ls.length-(intOf i).toNat)
    case atStart=>exact⟨0,by omega,rfl,by rw[Hid,aq];exact HW2.out,Chg.refl _ _⟩
    case round=>
     obtain⟨j,hj,rfl,HKr,HCr⟩:=hrel;by_cases hjl:j<ls.length
     .obtain⟨x,q,o,hx,rfl,d0,d1,d2⟩:=lG (rZ (HO2.out.recs fO) HCr.out HNW.out) hjl;have HX:=ac hx;have hk1:(j:Int)<(ls.length:Int):=by omega
      clear hx;obtain⟨xv,xs,xn⟩:=x
      go_wp2_with (
       (go_at_call 65
        refine(yB m a1 a2 n1 c1 n2 c2 U g b K (mM K (ls.take j) fe1 15) 15 xv (xs,xn) _ (HKr.out.ext (eC _ _))).mono ?_;rintro e w3 ⟨rfl,hs3,hc3⟩
        have HS3:Hid (WS m a1 n1 c1 a2 n2 c2 U g b K (mM K (ls.take (j+1)) fe1 15) w3):=(by
         have e:ls.take (j+1)=ls.take j++ [(xv,xs,xn)]:=(by rw[bo,HX.out];rfl)
         rw[Hid,e,BP]
         exact hs3)
        have HC3:=ac ((HCr.out.of_ext (eC _ _)).trans hc3)
        clear hs3 hc3))
      go_roundw
      case rel=>exact⟨j+1,by omega,by go_num,HS3,HC3⟩
      case measure=>simp[intOf];omega
     .obtain rfl:j=ls.length:=by omega
      go_wp2
      go_end0
      refine⟨rfl,?_,HC2.out.trans HCr.out⟩;have:=HKr.out;rw[cg] at this;rw[HE.out];exact this
  .have hk3:(k==3)=false:=by simpa using h3
   have HE:Hid (fe2=fe):=by rw[Hid,HFE.out,aC h2,aC h3]
   clear HFE h2 h3;go_wp2
   go_end0
   exact⟨rfl,by rw[HE.out];exact HW.out,HC0.out⟩
end

section
open Go.RowKit
def nX(w:World)(ls:List (Bool×Int))(e:Ending)(w':World):Prop:=∃a c,e=.returned (.slice a ls.length c)/\(MQ w' a ls.length ls/\∀g o s,a=some ⟨g,o,s⟩->w.heap.size<=g)/\Below w.heap.size w w'
theorem tA(a:Option Addr)(n c:Nat)(xs:List Int)(w:World)(h:fR w a n xs)(hn:n<=1000000):
  Calls Tryz.prog 97 #[.slice a n c] w (nX w (xs.map λx=>(false,x))):=by
 have HL:=ac h.1
 have H:=ac h
 clear h
 go_enter Tryz.func97,Tryz.ntmps97
 go_wp2
 go_loopw [2,4,7] (λv x i wr=>∃(k:Nat),k<=n/\i=.int .i64 k/\Hid (wr.ownsRow w.heap.size 42 2 v k (((xs.take k).map λx=>(false,x)).flatMap GE))/\Hid (Below w.heap.size w wr)) (λ_ _ i _=>n-(intOf i).toNat)
 case atStart=>exact⟨0,by omega,rfl,cC _ _ _ _,ao _ _⟩
 case round=>
  obtain⟨k,hk,rfl,HO,HB⟩:=hrel;by_cases hlt:k<n
  .obtain⟨b,o,rfl,hc,_⟩:=(H.out.ext HB.out).2.2 k hlt;have HS:Hid (((xs.take (k+1)).map λx=>(false,x)).flatMap GE=((xs.take k).map λx=>(false,x)).flatMap GE++ [.bool false,.int .i64 (xs.getD k 0)]):=by
    have hk':k<xs.length:=by rw[HL.out];exact hlt
    rw[Hid,DF xs k 0 hk',bN,cB];rfl
   generalize xs.getD k 0=x at*
   go_wp2_with (first
    |(at_builtin
      refine fN rfl wr (.tmp 11) (.tmp 14) 128 42 rfl w.heap.size _ 2 16 Tryz.underlying128 DY rfl (by omega) u2 k _ [.bool false,.int .i64 x] rfl HO.out wr.heap.size rfl rfl rfl (by simp[Value.oneCell']) (by simp only[maxLen];omega) (by omega) HB.out.size ?_;intro g cap w2 hown2 hg2 hat2;have HO2:Hid (w2.ownsRow w.heap.size 42 2 (.slice (some ⟨g,0,none⟩) (k+1) cap) (k+1) (((xs.take (k+1)).map λx=>(false,x)).flatMap GE)):=by rw[Hid,HS.out];exact hown2
      have HB2:Hid (Below w.heap.size w w2):=HB.out.grown hg2 HB.out.size (λj e=>(HO.out.lt j e).1)
      clear hown2 hg2 hat2))
   go_roundw
   case rel=>exact⟨k+1,by omega,by go_num,HO2,HB2⟩
   case measure=>simp[intOf];omega
  .obtain rfl:k=n:=by omega
   go_wp2
   go_ret
   have ho:=HO.out;rw[bF (by rw[HL.out];omega)] at ho;have hlen:(xs.map λx=>(false,x)).length=k:=by rw[bR,HL.out]
   rw[<-hlen] at ho;obtain⟨a2,c2,e2,hr,hf⟩:=pG yC ho (by rw[hlen];omega);exact⟨a2,c2,aL _ e2,⟨hr,hf⟩,HB.out⟩
theorem jI(m:eY)(i:mI)(a1 a2 aa:Option Addr)(n1 c1 n2 c2 na ca:Nat)(w:World)(h1:I64 m.ret)(h2:I64 i.dst)(hk:hZ i.op=3\/hZ i.op=18\/hZ i.op=17):
  Calls Tryz.prog 59 #[nG m a1 n1 c1 a2 n2 c2,wC i aa na ca] w (nX w (fU m i)):=by
 have H1:=ac h1
 have H2:=ac h2
 clear h1 h2
 rcases hk with hv|hv|hv
 all_goals
  have HV:=ac hv;clear hv
  go_enter Tryz.func59,Tryz.ntmps59
  go_wp2_with (first
   |(go_at_call 95
     refine(qZ _ _).mono ?_;rintro e w1 ⟨rfl,hb1⟩;obtain⟨x1,x2,x3⟩:=GG w (iK m a1 n1 c1 a2 n2 c2) (kY i aa na ca) w1 hb1;obtain⟨-,y1,y2,-,-,y3,-⟩:=qI x1 x2;have HB1:=ac x3;clear x1 x2 x3 hb1
     rw[HV.out])
   |(go_at_call 96
     refine(mR _ _ _).mono ?_;rintro e w' ⟨rfl,rfl⟩
     simp only[show eG 0 32=false from rfl,show eG 3 32=false from rfl,show eG 7 32=false from rfl,show eG 9 32=false from rfl,show eG 11 32=false from rfl,show eG 14 32=false from rfl,show eG 17 32=false from rfl,show eG 18 32=false from rfl,show eG 32 32=true from rfl,show eG 0 1=false from rfl,show eG 3 1=true from rfl,show eG 7 1=true from rfl,show eG 9 1=true from rfl,show eG 11 1=true from rfl,show eG 14 1=false from rfl,show eG 17 1=true from rfl,show eG 18 1=false from rfl,show eG 0 16=false from rfl,show eG 14 16=false from rfl,show eG 18 16=true from rfl])
   |(go_at_call 97
     (first
       |refine(tA (some ⟨w1.heap.size,0,none⟩) 1 1 [m.ret] _ (sA w1 w1.heap.size rfl m.ret H1.out _) (by omega)).mono ?_
       |refine(tA (some ⟨w1.heap.size,0,none⟩) 1 1 [i.dst] _ (sA w1 w1.heap.size rfl i.dst H2.out _) (by omega)).mono ?_)
     rintro e w2 ⟨a3,c3,rfl,hl3,hb3⟩;have HL3:=ac hl3;have HB3:=ac (eA (eA HB1.out (eC w1 _)) hb3)
     clear hl3 hb3))
  go_ret
  first
   |(have hw:fU m i= [(false,m.ret)]:=(by unfold fU;rw[HV.out];rfl)
     rw[nX,hw]
     exact⟨a3,c3,rfl,⟨HL3.out.1,λg o s e=>by have h1:=HL3.out.2 g o s e;have h2:=HB1.out.size;simp at h1;omega⟩,HB3.out⟩)
   |(have hw:fU m i= [(false,i.dst)]:=(by unfold fU;rw[HV.out];rfl)
     rw[nX,hw]
     exact⟨a3,c3,rfl,⟨HL3.out.1,λg o s e=>by have h1:=HL3.out.2 g o s e;have h2:=HB1.out.size;simp at h1;omega⟩,HB3.out⟩)
   |(have hw:fU m i= [(true,i.imm)]:=(by unfold fU;rw[HV.out];rfl)
     rw[nX,hw]
     exact⟨_,_,rfl,⟨CT _ _ rfl _ _ _,λg o s e=>by have h2:=HB1.out.size;injection e with e;injection e with e;omega⟩,eA HB1.out (eC _ _)⟩)
   |(have hw:fU m i= []:=(by unfold fU;rw[HV.out];rfl)
     rw[nX,hw]
     exact⟨none,0,rfl,mO.nil _ _ _,HB1.out⟩)
theorem sG(m:eY)(i:mI)(a1 a2 aa:Option Addr)(n1 c1 n2 c2 na ca:Nat)(w:World)(h:fR w a1 n1 m.args)(hn:n1<=1000000)(hc:n1<=c1)(h1:I64 i.a)(h2:I64 i.b)(h3:I64 i.many)(hk:hZ i.op=3\/hZ i.op=18\/hZ i.op=17):
  Calls Tryz.prog 58 #[nG m a1 n1 c1 a2 n2 c2,wC i aa na ca] w (nX w (gN m i)):=by
 have H1:=ac h1
 have H2:=ac h2
 have H:=ac h
 have HLA:=ac h.1
 obtain⟨h3,h4⟩:=h3
 clear h1 h2 h
 rcases hk with hv|hv|hv
 all_goals
  have HV:=ac hv;clear hv
  go_enter Tryz.func58,Tryz.ntmps58
  go_wp2_with (first
   |(go_at_call 95
     refine(qZ _ _).mono ?_;rintro e w1 ⟨rfl,hb1⟩;obtain⟨x1,x2,x3⟩:=GG w (iK m a1 n1 c1 a2 n2 c2) (kY i aa na ca) w1 hb1;obtain⟨y0,y1,y2,y3,y4,y5,y6⟩:=qI x1 x2;have HB1:=ac x3;clear x1 x2 x3 hb1
     rw[HV.out])
   |(go_at_call 96
     refine(mR _ _ _).mono ?_;rintro e w' ⟨rfl,rfl⟩
     simp only[show eG 0 1=false from rfl,show eG 0 2=false from rfl,show eG 0 4=false from rfl,show eG 0 16=false from rfl,show eG 0 32=false from rfl,show eG 3 1=true from rfl,show eG 3 2=true from rfl,show eG 3 4=false from rfl,show eG 3 16=false from rfl,show eG 3 32=false from rfl,show eG 7 1=true from rfl,show eG 7 2=true from rfl,show eG 7 4=true from rfl,show eG 7 16=false from rfl,show eG 7 32=false from rfl,show eG 9 1=true from rfl,show eG 9 2=false from rfl,show eG 9 4=false from rfl,show eG 9 16=false from rfl,show eG 9 32=false from rfl,show eG 11 1=true from rfl,show eG 11 2=true from rfl,show eG 11 4=false from rfl,show eG 11 16=false from rfl,show eG 11 32=false from rfl,show eG 14 1=false from rfl,show eG 14 2=true from rfl,show eG 14 4=true from rfl,show eG 14 16=false from rfl,show eG 14 32=false from rfl,show eG 17 1=true from rfl,show eG 17 2=false from rfl,show eG 17 4=false from rfl,show eG 17 16=true from rfl,show eG 17 32=false from rfl,show eG 18 1=false from rfl,show eG 18 2=true from rfl,show eG 18 4=false from rfl,show eG 18 16=true from rfl,show eG 18 32=false from rfl,show eG 32 1=false from rfl,show eG 32 2=false from rfl,show eG 32 4=false from rfl,show eG 32 16=false from rfl,show eG 32 32=true from rfl])
   |(go_at_call 97
     (first
       |(with_reducible refine(tA (some ⟨w1.heap.size,0,none⟩) 2 2 [i.a,i.b] _ (NA w1 w1.heap.size rfl i.a i.b H1.out H2.out _) (by omega)).mono ?_)
       |(with_reducible refine(tA (some ⟨w1.heap.size,0,none⟩) 1 1 [i.a] _ (sA w1 w1.heap.size rfl i.a H1.out _) (by omega)).mono ?_))
     rintro e w2 ⟨a3,c3,rfl,hl3,hb3⟩;have HL3:=ac hl3;have HB3:=ac (eA (eA HB1.out (eC w1 _)) hb3)
     clear hl3 hb3))
  go_ret
  first
   |(have hw:gN m i= [(false,i.a),(false,i.b)]:=(by unfold gN;rw[HV.out];rfl)
     rw[nX,hw]
     exact⟨a3,c3,rfl,⟨HL3.out.1,λg o s e=>by have h1:=HL3.out.2 g o s e;have h2:=HB1.out.size;simp at h1;omega⟩,HB3.out⟩)
   |(have hw:gN m i= [(false,i.a)]:=(by unfold gN;rw[HV.out];rfl)
     rw[nX,hw]
     exact⟨a3,c3,rfl,⟨HL3.out.1,λg o s e=>by have h1:=HL3.out.2 g o s e;have h2:=HB1.out.size;simp at h1;omega⟩,HB3.out⟩)
   |(have hw:gN m i= [(true,i.imm)]:=(by unfold gN;rw[HV.out];rfl)
     rw[nX,hw]
     exact⟨_,_,rfl,⟨CT _ _ rfl _ _ _,λg o s e=>by have h2:=HB1.out.size;injection e with e;injection e with e;omega⟩,eA HB1.out (eC _ _)⟩)
   |(have hw:gN m i= []:=(by unfold gN;rw[HV.out];rfl)
     rw[nX,hw]
     exact⟨none,0,rfl,mO.nil _ _ _,HB1.out⟩)
end

section
open Go.RowKit
section
variable {P:Program} {l:List Oper} {S S':World->Prop} {Q:Exit->Act->World->Prop}
theorem lY(h:∀w,S' w->S w):∀{fuel:Nat} {listed:Array Bool} {a:Act} {w:World},iY P l Q S' fuel listed a w->iY P l Q S fuel listed a w
 |0,_,_,_,hz=>hz
 |_+1,_,_,_,hz=>⟨hz.1,λi hi=>wpOp_mono (λ_ _ h'=>⟨h'.1.imp id (h _),lY h h'.2⟩) (hz.2 i hi)⟩
end
end
end Go.Proofs.YtchdkjenhppleaaGreat
