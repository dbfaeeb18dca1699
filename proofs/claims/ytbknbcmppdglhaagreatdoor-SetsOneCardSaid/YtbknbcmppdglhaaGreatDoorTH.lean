/-
 ir.Reads,Needs;what an instruction reads,defines.
-/
import Derived.Test.YtbknbcmppdglhaaGreatDoorA0
import Derived.Test.YtbknbcmppdglhaaGreatDoorSA
import Derived.Test.YtbknbcmppdglhaaGreatDoorSortI
import Derived.Test.YtbknbcmppdglhaaGreatDoorOwnR
import Derived.Deep.LoopGhost
import Derived.Test.YtbknbcmppdglhaaGreatDoorER
import Derived.Laws.StructEq
import Derived.ChangeKeysEq
namespace Go.Proofs.YtbknbcmppdglhaaGreatDoor
set_option linter.unusedSimpArgs false
set_option linter.unusedVariables false
set_option linter.unusedSectionVars false
set_option maxRecDepth 100000
set_option maxHeartbeats 40000000
section
open Go.RowKit
abbrev vR(i:uP)(aa:Option Addr)(na ca:Nat):Obj:=.cells #[.int .i64 i.op,.int .i64 i.dst,.int .i64 i.a,.int .i64 i.b,.int .i64 i.imm,.int .i64 i.callee,.slice aa na ca,.int .i64 i.many] 161
theorem OI(cs:Array Value)(o:Nat)(v:Value)(w:World)(h:cs[o]? =some v):(part 3 cs o).run Tryz.prog w=.ok v w:=by
 have hu:(underlying 3).run Tryz.prog w=.ok (.int .i64) w:=bT bP w
 simp[part,isAgg,hu,h]
theorem JQ{w:World}{base:Nat}{e:TypeId}{size:Nat}{v:Value}{n:Nat}{xs:List Value}(h:w.ownsRow base e size v n xs):∃a c,v=.slice a n c:=by
 rcases h.2 with ⟨rfl,h0⟩|⟨g,cap,cur,hv,_⟩
 .rw[h0];exact⟨none,0,rfl⟩
 .exact⟨_,_,hv⟩
def gV(i:uP):List Int:=if oQ i then ([i.a,i.b].filter λx=>x != 0)++i.args else []
def vW(i:uP)(k:Nat):List Int:=([i.a,i.b].take k).filter λx=>x != 0
theorem tr(i:uP)(k:Nat):(vW i k).length<=2:=by
 have h1:=bX (λx:Int=>x != 0) ([i.a,i.b].take k)
 have h2:=List.length_take_le k [i.a,i.b]
 have h3:([i.a,i.b].take k).length<=2:=by rw[dU];simp;omega
 exact aT h1 h3
theorem AI(i:uP)(k:Nat)(x:Int)(h: [i.a,i.b][k]? =some x):vW i (k+1)=if x != 0 then vW i k++ [x] else vW i k:=by
 unfold vW
 rw[bL,h,bB]
 cases hx:(x != 0)<;>simp[hx]
theorem qe{w:World}{a:Option Addr}{n:Nat}{xs:List Int}(h:iJ w a n xs):∀j u,(xs.map (Value.int .i64))[j]? =some u->∃ad,a=some ad/\w.cell? (ad.add j)=some u:=h.news
theorem PA(w:World)(x y:Int):(Instr.index 117 (.agg #[.int .i64 x,.int .i64 y]) (.int .i64 0)).run Tryz.prog w=.ok (.int .i64 x) w/\(Instr.index 117 (.agg #[.int .i64 x,.int .i64 y]) (.int .i64 1)).run Tryz.prog w=.ok (.int .i64 y) w:=by
 have hz:(sizeOf 3).run Tryz.prog w=.ok 1 w:=Tryz.sizeOf3 w
 have p0:(part 3 #[.int .i64 x,.int .i64 y] 0).run Tryz.prog w=.ok (.int .i64 x) w:=OI _ _ _ w rfl
 have p1:(part 3 #[.int .i64 x,.int .i64 y] 1).run Tryz.prog w=.ok (.int .i64 y) w:=OI _ _ _ w rfl
 constructor
 .simp[Instr.index,asIntOf,bT (w:=w) Tryz.underlying117,hz,p0,Result.andThen]
 .simp[Instr.index,asIntOf,bT (w:=w) Tryz.underlying117,hz,p1,Result.andThen]
theorem uH(i:uP)(aa:Option Addr)(na ca:Nat)(w:World)(h:iJ w aa na i.args)(h1:I64 i.a)(h2:I64 i.b)(h3:I64 i.imm)(h4:I64 i.callee)(h5:na<=1000000):
  Calls Tryz.prog 73 #[MW i aa na ca] w (mT w (gV i)):=by
 have H:=ac h
 have HL:=ac h.1
 have H1:=ac h1
 have H2:=ac h2
 have HC:=ac (λW (hb:Below w.heap.size w W)=>FC i aa na ca W (h.ext hb) h1 h2 h3 h4)
 have hix:=λw=>(PA w i.a i.b).1
 have hiy:=λw=>(PA w i.a i.b).2
 have HX:Hid (∀q∈i.args,I64 q):=λq hq=>by
  obtain⟨k,hk,rfl⟩:=bj.1 hq;obtain⟨_,_,_,_,hi⟩:=h.2.2 k (by rw[<-h.1];exact hk);rw[ak,ah hk] at hi;exact hi
 clear h h1 h2 h3 h4
 cases hr:oQ i with
 |false=>
  have HR:=ac hr;clear hr
  go_enter Tryz.func73,Tryz.ntmps73
  go_wp2_with (
   (go_at_call 136
    refine(HC.out _ (fD w _)).mono ?_;rintro e w1 ⟨rfl,hb1⟩;rw[HR.out];have HB1:=ac (fC (fD w _) hb1)
    clear hb1))
  go_ret
  have e:gV i= []:=by unfold gV;rw[HR.out];rfl
  rw[e];exact⟨_,rfl,gD.nil _ _,HB1.out⟩
 |true=>
  have HR:=ac hr;clear hr
  go_enter Tryz.func73,Tryz.ntmps73
  go_wp2_with (
   (go_at_call 136
    refine(HC.out _ (fD w _)).mono ?_;rintro e w1 ⟨rfl,hb1⟩;rw[HR.out];have hx1:=fB hb1 (ae w (vR i aa na ca));have HX1:=ac hx1;obtain⟨-,-,x2,x3⟩:=Dg hx1 rfl;have HB1:=ac (fC (fD w _) hb1)
    clear hb1 hx1))
  have hsz1:w.heap.size<w1.heap.size:=(au.1 HX1.out).1;have HSZ:=ac hsz1;clear hsz1
  go_loopw [2,4,13] (λv _ t wr=>∃k,k<=2/\t=.int .i64 (k:Nat)/\Hid (wr.ownsRow w1.heap.size 3 1 v (vW i k).length ((vW i k).map (Value.int .i64)))/\Hid (Below w1.heap.size w1 wr)) (λ_ _ t _=>2-(intOf t).toNat)
  case atStart=>exact⟨0,by omega,rfl,ft _ _ _ _,ag _ _⟩
  case round=>
   obtain⟨k,hk,rfl,HO,HB⟩:=hrel;clear x2 x3;have hl2:=tr i k;by_cases hlt:k<2
   .obtain rfl|rfl:k=0\/k=1:=by omega
    .by_cases hx:i.a=0
     .have hb:(i.a != 0)=false:=by simpa using hx
      have HT:Hid (vW i 1=vW i 0):=by rw[Hid,AI i 0 (i.a) rfl,hb];rfl
      clear hx;go_wp2
      go_roundw
      case rel=>exact⟨1,by omega,by go_num,by rw[Hid,HT.out];exact HO.out,HB⟩
      case measure=>simp[intOf]
     .have hb:(i.a != 0)=true:=by simpa using hx
      have HT:Hid (vW i 1=vW i 0++ [i.a]):=by rw[Hid,AI i 0 (i.a) rfl,hb];rfl
      clear hx;generalize vW i 0=ls at *;obtain⟨av,cv,rfl⟩:=JQ HO.out
      go_wp2_with (
       (at_builtin
        refine jI rfl wr (.tmp 18) (.tmp 20) 22 3 rfl w1.heap.size _ 1 8 be pY rfl (by omega) (.slice av ls.length cv) ls.length _ [.int .i64 (i.a)] rfl HO.out wr.heap.size rfl rfl rfl (by simp[Value.oneCell']) (by simp only[maxLen];omega) (by omega) HB.out.size ?_;intro g2 cap w3 hown3 hgr3 hat3;have HO3:Hid (w3.ownsRow w1.heap.size 3 1 (.slice (some ⟨g2,0,none⟩) (ls.length+1) cap) (ls++ [i.a]).length ((ls++ [i.a]).map (Value.int .i64))):=(by rw[Hid,cU,bf];exact hown3)
        have HB3:Hid (Below w1.heap.size w1 w3):=(HB.out.grown hgr3 HB.out.size (λq e=>(HO.out.lt q e).1))
        clear hown3 hgr3 hat3))
      go_roundw
      case rel=>exact⟨1,by omega,by go_num,by rw[Hid,HT.out];exact HO3.out,HB3⟩
      case measure=>simp[intOf]
    .by_cases hx:i.b=0
     .have hb:(i.b != 0)=false:=by simpa using hx
      have HT:Hid (vW i 2=vW i 1):=by rw[Hid,AI i 1 (i.b) rfl,hb];rfl
      clear hx;go_wp2
      go_roundw
      case rel=>exact⟨2,by omega,by go_num,by rw[Hid,HT.out];exact HO.out,HB⟩
      case measure=>simp[intOf]
     .have hb:(i.b != 0)=true:=by simpa using hx
      have HT:Hid (vW i 2=vW i 1++ [i.b]):=by rw[Hid,AI i 1 (i.b) rfl,hb];rfl
      clear hx;generalize vW i 1=ls at *;obtain⟨av,cv,rfl⟩:=JQ HO.out
      go_wp2_with (
       (at_builtin
        refine jI rfl wr (.tmp 18) (.tmp 20) 22 3 rfl w1.heap.size _ 1 8 be pY rfl (by omega) (.slice av ls.length cv) ls.length _ [.int .i64 (i.b)] rfl HO.out wr.heap.size rfl rfl rfl (by simp[Value.oneCell']) (by simp only[maxLen];omega) (by omega) HB.out.size ?_;intro g2 cap w3 hown3 hgr3 hat3;have HO3:Hid (w3.ownsRow w1.heap.size 3 1 (.slice (some ⟨g2,0,none⟩) (ls.length+1) cap) (ls++ [i.b]).length ((ls++ [i.b]).map (Value.int .i64))):=(by rw[Hid,cU,bf];exact hown3)
        have HB3:Hid (Below w1.heap.size w1 w3):=(HB.out.grown hgr3 HB.out.size (λq e=>(HO.out.lt q e).1))
        clear hown3 hgr3 hat3))
      go_roundw
      case rel=>exact⟨2,by omega,by go_num,by rw[Hid,HT.out];exact HO3.out,HB3⟩
      case measure=>simp[intOf]
   .obtain rfl:k=2:=by omega
    have HT:Hid (gV i=vW i 2++i.args):=by rw[Hid];unfold gV;rw[HR.out,aM rfl];rfl
    have HI2:Hid (∀q∈vW i 2,I64 q):=λq hq=>by
     have:=(bI.1 hq).1;simp at this;rcases this with rfl|rfl
     .exact H1.out
     .exact H2.out
    have hxr:=fB HB.out HX1.out;have x6:=cK 6 hxr rfl;have HHr:=ac (H.out.ext (fC HB1.out HB.out));have hsz:=HSZ.out;clear hxr HC HX1;generalize vW i 2=ls at *;obtain⟨av,cv,rfl⟩:=JQ HO.out
    go_wp2_with (
     (at_builtin
      refine MC wr rfl (.tmp 23) (.tmp 25) 22 3 rfl w1.heap.size (.int .i64 0) 8 be pY rfl (.slice av ls.length cv) ls.length _ rfl HO.out aa na ca rfl (i.args.map (Value.int .i64)) (by rw[cT,HL.out]) (qe HHr.out) (by intro u hu;obtain⟨q,_,rfl⟩:=a8.1 hu;rfl) (by simp only[maxLen];omega) (by omega) HB.out.size ?_;intro v3 w3 hown3 hgr3 hat3;have HO3:Hid (w3.ownsRow w1.heap.size 3 1 v3 (gV i).length ((gV i).map (Value.int .i64))):=(by rw[Hid,HT.out,cU,bf,HL.out];exact hown3)
      have HB3:Hid (Below w.heap.size w w3):=(fC HB1.out (HB.out.grown hgr3 HB.out.size (λq e=>(HO.out.lt q e).1)))
      clear hown3 hgr3 hat3))
    go_ret
    have hq:∀q∈gV i,I64 q:=λq hq=>by
     rw[HT.out] at hq;rcases ax.1 hq with hq|hq
     .exact HI2.out q hq
     .exact HX.out q hq
    have hle:(gV i).length<=1000002:=by rw[HT.out,bf,HL.out];omega
    have hoI:gD w3 w1.heap.size v3 (gV i):=⟨HO3.out,hq,by omega⟩
    exact⟨v3,rfl,hoI.mono HB1.out.size,HB3.out⟩
def jV(t:fS):List Int:=if mU t&&t.a != 0 then [t.a] else []
theorem xM(t:fS)(w:World)(h:pU t):Calls Tryz.prog 75 #[tF t] w (mT w (jV t)):=by
 have HA:Hid (I64 t.a):=h.2.1
 have HT:=ac (λW=>pD t W h)
 clear h
 cases hb:mU t with
 |false=>
  have HE:Hid (jV t= []):=by rw[Hid,jV,hb];rfl
  go_enter Tryz.func75,Tryz.ntmps75
  go_wp2_with (
   (go_at_call 133
    refine(HT.out _).mono ?_;rintro e w1 ⟨rfl,hb1⟩;rw[hb];have HB1:=ac (fC (fD w _) hb1)
    clear hb1))
  go_ret
  rw[HE.out];exact⟨_,rfl,gD.nil _ _,HB1.out⟩
 |true=>
  by_cases h0:t.a=0
  .have b0:(t.a==0)=true:=by simpa using h0
   have HE:Hid (jV t= []):=by rw[Hid,jV,h0];simp
   clear h0
   go_enter Tryz.func75,Tryz.ntmps75
   go_wp2_with (
    (go_at_call 133
     refine(HT.out _).mono ?_;rintro e w1 ⟨rfl,hb1⟩;rw[hb];have hx1:=fB hb1 (ae w (sj t));have x1:=cK 1 hx1 rfl;have HB1:=ac (fC (fD w _) hb1)
     clear hb1 hx1))
   go_ret
   rw[HE.out];exact⟨_,rfl,gD.nil _ _,HB1.out⟩
  .have b0:(t.a==0)=false:=by simpa using h0
   have HE:Hid (jV t= [t.a]):=by rw[Hid,jV,hb];simp[h0]
   clear h0
   go_enter Tryz.func75,Tryz.ntmps75
   go_wp2_with (
    (go_at_call 133
     refine(HT.out _).mono ?_;rintro e w1 ⟨rfl,hb1⟩;rw[hb];have hx1:=fB hb1 (ae w (sj t));have x1:=cK 1 hx1 rfl;have HB1:=ac (fC (fD w _) hb1)
     clear hb1 hx1))
   go_ret
   rw[HE.out];refine⟨_,rfl,gD.mono (base:=w1.heap.size) ?_ HB1.out.size,fC HB1.out (fD _ _)⟩;exact⟨⟨rfl,.inr ⟨w1.heap.size,1,#[.int .i64 t.a],rfl,aj _,ae _ _,aj _,by decide,rfl,rfl⟩⟩,λx hx=>by rw[bz] at hx;subst hx;exact HA.out,by simp⟩
end

section
open Go.RowKit
theorem vb{w:World}{base:Nat}{g c:Nat}{xs:List Int}{x:Int}(h:gD w base (.slice (some ⟨g,0,none⟩) (xs.length+1) c) (xs++ [x])):gD w base (.slice (some ⟨g,0,none⟩) xs.length c) xs:=by
 refine⟨⟨by simp[fP],?_⟩,λz hz=>h.2.1 z (by simp[hz]),by have:=h.2.2;simp at this;omega⟩
 rcases h.1.2 with ⟨hv,_⟩|⟨g',cap,cur,hv,hb,hh,h1,h2,h3,h4⟩
 .cases hv
 .injection hv with e1 e2 e3;injection e1 with e1;injection e1 with e1 _ _;subst e1 e3;refine .inr ⟨g,c,cur,rfl,hb,hh,by simp at h1;omega,h2,h3,?_⟩;have h5:(cur.toList.take ((xs++ [x]).length*1)).take xs.length=(fP (xs++ [x])).take xs.length:=by rw[h4]
  rw[List.take_take] at h5;simpa[fP] using h5
theorem pj{w:World}{base:Nat}{g c:Nat}{xs:List Int}{x:Int}(h:gD w base (.slice (some ⟨g,0,none⟩) (xs.length+1) c) (xs++ [x])):w.cell? ⟨g,xs.length,none⟩=some (.int .i64 x):=by
 have h1:=h.ints
 obtain⟨b,o,e,hc,_⟩:=h1.2.2 xs.length (by omega)
 injection e with e
 injection e with e1 e2
 subst e1 e2
 rw[bQ] at hc
 rw[hc]
 simp[ak]
def WJ(next:Nat->List Nat)(f:Nat->Bool)(b:Nat)(w:World)(st seen:List Nat)(x:Option (Nat×Nat))(v:Value)(wr:World):Prop:=
 tV next f b st (λy=>seen.contains y) x/\seen.Nodup/\(∀y∈seen,y<200)/\wr.heap[w.heap.size+1]? =some (jY f)/\wr.heap[w.heap.size+1+1]? =some (jY λy=>seen.contains y)/\
  gD wr (w.heap.size+1+1+1) v (fN st)/\Below w.heap.size w wr
theorem Reach.lt{next:Nat->List Nat}{inn:Nat->Bool}{b y n:Nat}(h:Reach next inn b y)(hx:∀k y,y∈next k->y<200/\(inn y=true->y<n)):y<n:=by
 cases h with
 |one h1 h2=>exact(hx _ _ h1).2 h2
 |step _ h1 h2=>exact(hx _ _ h1).2 h2
theorem QO(d:lJ)(b:Nat)(f:Nat->Bool)(ra:Option Addr)(rn rc:Nat)(L:List (List Nat))(next:Nat->List Nat)(w:World)(hb:b<200)(hrn:rn<=200)(hcf:iV f)(hf:f b=true->b<rn)
  (hL:∀k,k<rn->L[k]? =some (next k)) (hx:∀k y,y∈next k->y<200/\(f y=true->y<rn)) (hw:JI w ra rn L):
  Calls Tryz.prog 148 #[jJ d,.int .i64 (b:Int),.agg (gK f),.slice ra rn rc] w (xG w (iZ next f b)):=by
 have HC:=ac hcf
 have HF:=ac hf
 have HL:=ac hL
 have HX:=ac hx
 have HW:=ac hw
 clear hcf hf hL hx hw
 go_enter Tryz.func148,Tryz.ntmps148
 go_upto_region 1 with (fail)
 obtain⟨W,hW⟩:∃W,W=((w.alloc (qM d)).alloc (jY f)).alloc (.cells Tryz.zeroCells138 138):=⟨_,rfl⟩
 rw[<-hW]
 have hs:W.heap[w.heap.size+1]? =some (jY f):=by rw[hW,aG _ _ _ (by simp)];exact iT _ _ _ (by simp)
 have hr:W.heap[w.heap.size+1+1]? =some (jY λ_=>false):=by rw[hW,iT _ _ _ (by simp),oX]
 have hB:Below w.heap.size w W:=by rw[hW];exact((fD _ _).alloc (by simp) _).alloc (by simp;omega) _
 have hWs:W.heap.size=w.heap.size+1+1+1:=by rw[hW];simp
 have HWs:=ac hWs
 have hc:=lK hs b hb
 clear hW hWs
 by_cases hfb:f b=true
 .rw[hfb] at hc;have HS:=ac hs;have HR:=ac hr;have HB:=ac hB;have HFB:=ac hfb;clear hs hr hB hfb;go_wp2
  go_loopg [9] 201 (λgg v wr=>∃(st seen:List Nat),st.length+200<=gg+seen.length/\st.length<=seen.length+1/\Hid (WJ next f b w st seen none v wr))
  case atStart=>
   refine⟨[b],[],by simp,by simp,by simpa using tV.start next f b,by simp,by simp,?_,?_,?_,?_⟩
   .exact(aG _ _ _ (by rw[HWs.out];omega)).trans HS.out
   .exact(aG _ _ _ (by rw[HWs.out];omega)).trans HR.out
   .exact JY (xs:=fN [b]) rfl _ (by rw[HWs.out];omega) (ws [b] (by simp;omega)) (by simp[fN])
   .exact HB.out.alloc (by rw[HWs.out];omega) _
  case round=>
   obtain⟨st,seen,hm,hm2,HJ⟩:=hrel;clear hc HS HR HB HWs;rcases List.eq_nil_or_concat st with rfl|⟨st',x,rfl⟩
   .obtain⟨h1,h2,h3,h4,h5,h6,h7⟩:=HJ.out;obtain⟨av,cv,rfl⟩:=h6.form;have HE:Hid ((λy=>seen.contains y)=iZ next f b):=tp HC.out HFB.out h1;rw[HE.out] at h5;have HS:=ac h5;have HB:=ac h7;clear h1 h2 h3 h4 h5 h6 h7 HJ hm
    go_wp2_with (first
     |(refine ay rfl 138 _ rfl (w.heap.size+1+1) rfl 138 _ (0,0) _ HS.out aL rfl (by rw[fO];exact gF) ?_)
     |(refine aP rfl 138 _ _ rfl (w.heap.size+1+1) (gK (iZ next f b)) rfl rfl 138 _ HS.out (by rw[fO];exact gF) rfl (mR _) ?_))
    exact aR (v:=.agg (gK (iZ next f b))) (by simp[results,Tryz.results148,asAddr,Act.put,uE (bt _ _ _ _ _ _ HS.out)]) rfl ⟨rfl,aX HB.out (by omega) _⟩
   .obtain⟨h1,h2,h3,h4,h5,h6,h7⟩:=id HJ.out;rw[List.concat_eq_append] at h1 h6 hm hm2;have hst:fN (st'++ [x])=fN st'++ [(x:Int)]:=by simp[fN]
    rw[hst] at h6;obtain⟨gb,cb,hv⟩:=rK h6.1 (by simp);have hlen':(fN st'++ [(x:Int)]).length=st'.length+1:=by simp[fN]
    have hlen2:(fN st').length=st'.length:=by simp[fN]
    rw[hlen'] at hv;subst hv;rw[<-hlen2] at h6;have hpop:=vb h6;have hlast:=pj h6;rw[hlen2] at hpop hlast;have hcap:=h6.cap;have hxf:f x=true:=by
     rcases h1.src x (by simp) with e|e
     .rw[e];exact HFB.out
     .exact(h1.sound x e).inn
    have hxr:x<rn:=by
     rcases h1.src x (by simp) with e|e
     .rw[e];exact HF.out HFB.out
     .exact(h1.sound x e).lt HX.out
    obtain⟨bb,oo,xa,xc,rfl,hcr0,hir⟩:=HW.out.2.2 x (next x) (HL.out x hxr);have hcr:=fZ h7 hcr0;have hseen:seen.length<=200:=AN 200 seen h2 h3;have hstl:=hm;simp only[bf,bk,bx,bQ] at hstl hm2
    have HJ2:Hid (WJ next f b w st' seen (some (x,0)) (.slice (some ⟨gb,0,none⟩) st'.length cb) wr):=
     ⟨h1.take x st' (λz=>by simp[or_comm]),h2,h3,h4,h5,hpop,h7⟩
    have HIR:=ac hir;have hnl:(next x).length<=17592186044416:=hir.2.1;have hcb:st'.length+1<=cb:=by have:=hcap.1;omega
    have hcb2:cb<=9223372036854775807:=hcap.2.1;have hstn:st'.length<=1000:=by omega
    clear h1 h2 h3 h4 h5 h6 h7 HJ hm hst hlen' hlen2 hpop hir hxf hcap hcr0;go_wp2;obtain⟨wo,rfl⟩:∃wo:World,wo=wr:=⟨_,rfl⟩
    go_loopg [9,12,39] (next x).length (λg2 v2 _ j wi=>∃(j':Nat) (st2 seen2:List Nat),j=.int .i64 (j':Int)/\j'<=(next x).length/\(next x).length<=g2+j'/\st2.length+seen.length=st'.length+seen2.length/\Hid (WJ next f b w st2 seen2 (some (x,j')) v2 wi))
    case atStart=>exact⟨0,st',seen,rfl,d9 _,aj _,rfl,HJ2⟩
    case round=>
     obtain⟨j',st2,seen2,rfl,hj,hg2,hcnt,HJ⟩:=hrel;clear HJ2 hlast;obtain⟨h1,h2,h3,h4,h5,h6,h7⟩:=id HJ.out;obtain⟨va,vc,rfl⟩:=h6.form;have hseen2:seen2.length<=200:=AN 200 seen2 h2 h3;by_cases hjl:j'<(next x).length
     .have hyx:(next x).getD j' 0∈next x:=by rw[ak,ah hjl];exact bJ _
      have hy:=(HX.out x _ hyx).1;obtain⟨b3,o3,rfl,hcy,_⟩:=(HIR.out.ext h7).2.2 j' hjl;have hey:(fN (next x)).getD j' 0=(((next x).getD j' 0:Nat):Int):=by simp[fN,ak,hjl]
      rw[hey] at hcy;have hcf:=lK h4 _ hy;have hcs:=lK h5 _ hy;have hfs:=rJ h5 ((next x).getD j' 0);have hlS:=fE h5;have hjl':(j':Int)<((next x).length:Int):=by omega
      clear hey hyx;by_cases hgo:f ((next x).getD j' 0)=true/\seen2.contains ((next x).getD j' 0)=false
      .obtain⟨hg1,hg2'⟩:=hgo;have hns:(next x).getD j' 0∉seen2:=by simpa using hg2'
       have hP:=h1.push hjl hg1 (st2++ [(next x).getD j' 0]) (λz=>by simp[or_comm]) (λz=>((next x).getD j' 0 :: seen2).contains z) (λz=>by simp);rw[hg1] at hcf;simp only[hg2'] at hcs;have HP:=ac hP;have HN:=ac hns;have e1:(λk=>if k=(next x).getD j' 0 then true else seen2.contains k)=(λz=>((next x).getD j' 0 :: seen2).contains z):=by
        funext k
        by_cases e:k=(next x).getD j' 0
        .simp[e]
        .simp[e,List.contains_cons]
       have HS1:=ac (CZ (b:=true) h5 hy e1);have HF1:=ac (fQ (fU wr (w.heap.size+1+1) ((next x).getD j' 0) (.bool true)) h4 (by simp))
       have HO1:=ac (h6.kept (fU wr (w.heap.size+1+1) ((next x).getD j' 0) (.bool true)) (by
        rcases hvb:(Value.slice va (fN st2).length vc).ownBlock with _|kb
        .exact .inl rfl
        .have:=(h6.1.lt kb hvb).1;refine .inr ?_;intro e;injection e with e
         omega))
       have HB1:=ac (h7.setCell (p:=⟨w.heap.size+1+1,(next x).getD j' 0,none⟩) (by simp;omega) (.bool true));have H2:=ac h2;have H3:=ac h3;have hst2:(fN st2).length=st2.length:=by simp[fN]
       have hsl:st2.length<=1000:=by omega
       have hsl2:(fN st2).length<=1000:=by omega
       clear hg1 hg2' hns hP e1 h1 h2 h3 h4 h5 h6 h7 HJ;generalize hyy:(next x).getD j' 0=y at*
       go_wp2_with (
        (at_builtin
         refine jI rfl (wr.setCell ⟨w.heap.size+1+1,y,none⟩ (.bool true)) (.tmp 54) (.tmp 56) 22 3 rfl (w.heap.size+1+1+1) _ 1 8 be pY rfl (by omega) (.slice va (fN st2).length vc) (fN st2).length _ [.int .i64 (y:Int)] rfl HO1.out.1 wr.heap.size (by simp) rfl rfl (by simp[Value.oneCell']) (by simp only[maxLen];omega) (by omega) (by simp;omega) ?_;intro g cap w2 hown2 hg2 hat2;have HO2:=ac hown2;have HG2:=ac hg2
         clear hown2 hg2 hat2))
       have hrow:∀(k:Nat),k<w.heap.size+1+1+1->¬(Value.slice va (fN st2).length vc).ownBlock=some k:=λk hk e=>by
        have:=(HO1.out.1.lt k e).1;omega
       go_roundg ((next x).length-(j'+1))
       case measure=>omega
       case rel=>
        refine⟨j'+1,st2++ [y],y :: seen2,by go_num,by omega,by omega,by simp;omega,HP.out,dC.2 ⟨HN.out,H2.out⟩,?_,?_,?_,?_,?_⟩
        .intro z hz;rcases aS.1 hz with rfl|hz
         .exact hy
         .exact H3.out z hz
        .exact fQ HG2.out HF1.out (hrow _ (by omega))
        .exact fQ HG2.out HS1.out (hrow _ (by omega))
        .have e2:fN (st2++ [y])=fN st2++ [(y:Int)]:=by simp[fN]
         rw[e2];refine⟨?_,?_,by simp;omega⟩
         .have e3:(fN st2++ [(y:Int)]).length=(fN st2).length+1:=by simp
          have e4:fP (fN st2++ [(y:Int)])=fP (fN st2)++ [.int .i64 (y:Int)]:=by simp[fP]
          rw[e3,e4];have h9:=HO2.out;rw[hst2] at h9|-;exact h9
         .intro z hz;rcases ax.1 hz with h|h
          .exact HO1.out.2.1 z h
          .simp only[bz] at h;subst h;unfold I64;omega
        .exact HB1.out.grown HG2.out (by simp;omega) (λk e=>by have:=(HO1.out.1.lt k e).1;omega)
      .have HJ3:Hid (WJ next f b w st2 seen2 (some (x,j'+1)) (.slice va (fN st2).length vc) wr):=by
        refine⟨h1.skip hjl (λhi=>?_),h2,h3,h4,h5,h6,h7⟩;cases hb2:seen2.contains ((next x).getD j' 0) with
        |true=>rfl
        |false=>exact absurd ⟨hi,hb2⟩ hgo
       have hgo':f ((next x).getD j' 0)=true->seen2.contains ((next x).getD j' 0)=true:=λhi=>by
        cases hb2:seen2.contains ((next x).getD j' 0) with
        |true=>rfl
        |false=>exact absurd ⟨hi,hb2⟩ hgo
       clear h1 h2 h3 h4 h5 h6 h7 HJ hgo;generalize hyy:(next x).getD j' 0=y at *;cases hfy:f y with
       |true=>
        have hsy:=hgo' hfy;rw[hfy] at hcf;simp only[hsy] at hcs;clear hgo' hsy hfy;go_wp2
        go_roundg ((next x).length-(j'+1))
        case measure=>omega
        case rel=>exact⟨j'+1,st2,seen2,by go_num,by omega,by omega,by omega,HJ3⟩
       |false=>
        rw[hfy] at hcf;clear hgo' hfy;go_wp2
        go_roundg ((next x).length-(j'+1))
        case measure=>omega
        case rel=>exact⟨j'+1,st2,seen2,by go_num,by omega,by omega,by omega,HJ3⟩
     .obtain rfl:j'=(next x).length:=by omega
      have HJ3:Hid (WJ next f b w st2 seen2 none (.slice va (fN st2).length vc) wr):=⟨h1.fin (aj _),h2,h3,h4,h5,h6,h7⟩
      clear h1 h2 h3 h4 h5 h6 h7 HJ;go_wp2
      go_roundg (st2.length+200-seen2.length)
      case measure=>omega
      case rel=>exact⟨st2,seen2,by omega,by omega,HJ3⟩
 .have hfb':f b=false:=by simpa using hfb
  rw[hfb'] at hc;have HE:Hid (iZ next f b=λ_=>false):=tq hfb';have HR:=ac hr;have HB:=ac hB;clear hfb hfb' hs hr hB
  go_wp2_with (first
   |(refine ay rfl 138 _ rfl (w.heap.size+1+1) rfl 138 _ (0,0) _ HR.out aL rfl (by rw[fO];exact gF) ?_)
   |(refine aP rfl 138 _ _ rfl (w.heap.size+1+1) (gK λ_=>false) rfl rfl 138 _ HR.out (by rw[fO];exact gF) rfl (mR _) ?_))
  exact aR (v:=.agg (gK λ_=>false)) (by simp[results,Tryz.results148,asAddr,Act.put,uE (bt _ _ _ _ _ _ HR.out)]) rfl ⟨by rw[HE.out],aX HB.out (by omega) _⟩
theorem UH(d:lJ)(b:Nat)(f:Nat->Bool)(ra:Option Addr)(rn rc:Nat)(L:List (List Nat))(next:Nat->List Nat)(w:World)(hb:b<200)(hrn:rn<=200)(hf:∀y,f y=true->y<rn)
  (hL:∀k,k<rn->L[k]? =some (next k)) (hx:∀k y,y∈next k->y<200) (hw:JI w ra rn L):
  Calls Tryz.prog 148 #[jJ d,.int .i64 (b:Int),.agg (gK f),.slice ra rn rc] w (xG w (iZ next f b)):=
 QO d b f ra rn rc L next w hb hrn (λy hy=>by have:=hf y hy;omega) (hf b) hL (λk y hy=>⟨hx k y hy,hf y⟩) hw
end

section
open Go.RowKit
def DA(listed:Array Bool)(i:Nat):Nat->Array Bool
 |0=>listed
 |n+1=>DA (listed.setIfInBounds i true) (i+1) n
def DC(l:List Oper):Nat->Nat->Array Bool->Bool
 |0,_,_=>true
 |n+1,i,listed=>(Region.ready .any l.toArray listed).contains i&&Region.free .any l.toArray listed i&&((l[i]?).map TU).getD false&&DC l n (i+1) (listed.setIfInBounds i true)
def RD(l:List Oper)(listed:Array Bool):Bool:=
 (List.range l.length).all λj=> !listed.getD j false||((l[j]?).map λo=>o.after.all λe=> !Region.binds .any e||listed.getD e.on false).getD true
section
variable {P:Program} {l:List Oper} {S:World->Prop} {Q:Exit->Act->World->Prop}
theorem rf{listed:Array Bool}(h:RD l listed=true):oW l listed:=by
 intro j o ho hl e he hb
 unfold RD at h
 rw[aV] at h
 have hlt:j<l.length:=by
  have:=(au.1 ho).1;simpa using this
 have:=h j (aQ.2 hlt)
 have ho':l[j]? =some o:=by simpa using ho
 simp only[hl,Bool.not_true,Bool.false_or,ho',Option.map_some,eB] at this
 have:=(Array.all_eq_true'.1 this) e he
 simpa[hb] using this
theorem gt:∀(n i:Nat) (listed:Array Bool),DC l n i listed=true->xD l n i listed=some (DA listed i n):=by
 intro n
 induction n with
 |zero=>intro i listed _;rfl
 |succ n ih=>
  intro i listed h;simp only[DC,aB] at h;obtain⟨⟨⟨h1,h2⟩,h3⟩,h4⟩:=h;simp only[xD,DA];rw[aM (by simp only[aB];exact⟨⟨h1,h2⟩,h3⟩)];exact ih _ _ h4
theorem rG{id:Nat}{a:Act}{w:World}(S:World->Prop)(hm:P.follows .mixedOrders=true)
  (h:mW P l (NoPanic Q) S l.length (Array.replicate l.length false) a w.drew):(Code.region id l.toArray true).wp P Q a w:=by
 refine wp_region_noPanic (wp_region_any hm ?_)
 have:=BS _ _ _ _ h
 simpa using this
theorem gR{fuel:Nat}{listed:Array Bool}{a:Act}{w:World}(i n:Nat)(hok:(DC l n i listed&&RD l listed&&Region.noSelect l.toArray)=true)(hS:S w)
  (h:wpQuiet P l.toArray S (λa'=>mW P l (NoPanic Q) S fuel (DA listed i n) a' w) ((l.drop i).take n) a):mW P l (NoPanic Q) S (fuel+n) listed a w:=by
 simp only[aB] at hok
 exact vE hok.2 (λ_ _ _ hp=>hp) fuel w hS _ n i listed _ a (rf hok.1.2) (gt n i listed hok.1.1) (λ_ a' ha'=>ha') h
theorem jD{fuel:Nat}{listed:Array Bool}{a:Act}{w:World}(e:Nat)(hr:(Region.ready .any l.toArray listed== [e])=true)
  (h:wpOp P l.toArray (NoPanic Q) e (λa' w'=>(yN l e=true\/S w')/\mW P l (NoPanic Q) S fuel (listed.setIfInBounds e true) a' w') a w):mW P l (NoPanic Q) S (fuel+1) listed a w:=by
 have hr:=eq_of_beq hr
 refine⟨λh0=>?_,λi hi=>?_⟩
 .rw[hr] at h0;cases h0
 .rw[hr,bz] at hi;subst hi;exact h
theorem NQ{fuel:Nat}{listed:Array Bool}{a:Act}{w:World}(e e':Nat)(hr:(Region.ready .any l.toArray listed== [e,e'])=true)
  (h:wpOp P l.toArray (NoPanic Q) e (λa' w'=>(yN l e=true\/S w')/\mW P l (NoPanic Q) S fuel (listed.setIfInBounds e true) a' w') a w)
  (h':wpOp P l.toArray (NoPanic Q) e' (λa' w'=>(yN l e'=true\/S w')/\mW P l (NoPanic Q) S fuel (listed.setIfInBounds e' true) a' w') a w):mW P l (NoPanic Q) S (fuel+1) listed a w:=by
 have hr:=eq_of_beq hr
 refine⟨λh0=>?_,λi hi=>?_⟩
 .rw[hr] at h0;cases h0
 .rw[hr] at hi;rcases aS.1 hi with rfl|hi
  .exact h
  .rw[bz] at hi;subst hi;exact h'
theorem oO{listed:Array Bool}{a:Act}{w:World}(hr:(Region.ready .any l.toArray listed== [])=true)(h:Q .normal a w):mW P l (NoPanic Q) S 0 listed a w:=⟨eq_of_beq hr,h⟩
end
end

section
open Go.RowKit
def kK:Act->List (Option Nat)->Nat->(Nat->Value)->Act
 |a,[],_,_=>a
 |a,none :: ds,k,ν=>kK a ds (k+1) ν
 |a,some d :: ds,k,ν=>kK {tmps:=a.tmps.setIfInBounds d (ν k),defers:=a.defers} ds (k+1) ν
def kP(a:Act)(ds:List (Option Nat))(ν:Nat->Value):Act:=kK a ds 0 ν
def mD{α:Type}(ν:Nat->α)(i:Nat)(v:α):Nat->α:=λj=>if j=i then v else ν j
theorem UR(a:Act)(d:Nat)(v:Value):a.put (some d) v={tmps:=a.tmps.setIfInBounds d v,defers:=a.defers}:=rfl
theorem kN(a:Act)(v:Value):a.put none v=a:=rfl
theorem sN:∀(ds:List (Option Nat)) (a:Act) (k:Nat) (ν ν':Nat->Value),(∀j,k<=j->ν j=ν' j)->kK a ds k ν=kK a ds k ν'
 | [],_,_,_,_,_=>rfl
 |none :: ds,a,k,ν,ν',h=>sN ds a (k+1) ν ν' (λj hj=>h j (by omega))
 |some d :: ds,a,k,ν,ν',h=>by
  simp only[kK];rw[h k (aj _)];exact sN ds _ (k+1) ν ν' (λj hj=>h j (by omega))
theorem zU:∀(ds:List (Option Nat)) (a:Act) (k:Nat) (ν:Nat->Value) (d:Nat) (v:Value),some d∉ds->(kK a ds k ν).put (some d) v=kK (a.put (some d) v) ds k ν
 | [],_,_,_,_,_,_=>rfl
 |none :: ds,a,k,ν,d,v,h=>zU ds a (k+1) ν d v (λhm=>h (by grind))
 |some d' :: ds,a,k,ν,d,v,h=>by
  simp only[kK];rw[zU ds _ (k+1) ν d v (λhm=>h (by grind))]
  grind[UR,Array.setIfInBounds_comm]
theorem zT:∀(ds:List (Option Nat)) (a:Act) (k:Nat) (ν:Nat->Value) (i d:Nat) (v:Value),(ds.filterMap id).Nodup->ds[i]? =some (some d)->(kK a ds k ν).put (some d) v=kK a ds k (mD ν (k+i) v)
 | [],_,_,_,i,_,_,_,h=>by grind
 |none :: ds,a,k,ν,i,d,v,hn,h=>by
  cases i with
  |zero=>grind
  |succ i=>
   have:=zT ds a (k+1) ν i d v hn (by grind)
   grind[kK]
 |some d' :: ds,a,k,ν,i,d,v,hn,h=>by
  simp only[List.filterMap_cons,id_eq,dC] at hn;have hmem:∀x,some x∈ds->x∈ds.filterMap id:=λx hx=>List.mem_filterMap.2 ⟨some x,hx,rfl⟩;cases i with
  |zero=>
   simp only[dF,aW] at h;subst h;simp only[kK];rw[zU ds _ (k+1) ν d' v (λhm=>hn.1 (hmem _ hm))];simp only[UR,Array.setIfInBounds_setIfInBounds];have e:mD ν (k+0) v k=v:=by simp[mD]
   rw[e];exact sN ds _ (k+1) ν _ (λj hj=>by simp[mD];omega)
  |succ i=>
   simp only[kK];rw[zT ds _ (k+1) ν i d v hn.2 (by grind),show k+1+i=k+(i+1) by omega];simp[mD]
theorem qk(a:Act)(ds:List (Option Nat))(ν:Nat->Value)(i:Nat)(v:Value)(hn:(ds.filterMap id).Nodup)(hi:i<ds.length):(kP a ds ν).put (ds.getD i none) v=kP a ds (mD ν i v):=by
 have hg:ds[i]? =some (ds.getD i none):=by grind
 cases hd:ds.getD i none with
 |some d=>
  rw[hd] at hg;have:=zT ds a 0 ν i d v hn hg;rw[bQ] at this;trivial
 |none=>
  show kP a ds ν=_;unfold kP;have key:∀(ds:List (Option Nat)) (a:Act) (k i:Nat),ds[i]? =some none->kK a ds k ν=kK a ds k (mD ν (k+i) v):=by
   intro ds
   induction ds with
   |nil=>simp
   |cons x ds ih=>
    intro a k i h;cases i with
    |zero=>
     simp only[dF,aW] at h;subst h;exact sN ds a (k+1) ν _ (λj hj=>by simp[mD];omega)
    |succ i=>
     cases x with
     |none=>grind[kK]
     |some d'=>
      simp only[kK];have e:mD ν (k+(i+1)) v k=ν k:=by simp[mD]
      grind
  grind
def ZE(a:Act)(ds:List (Option Nat)):Nat->Value:=λk=>match ds.getD k none with
 |some d=>a.tmps.getD d undef
 |none=>undef
theorem UL(t:Array Value)(d:Nat):t.setIfInBounds d (t.getD d undef)=t:=by
 apply de
 intro k
 by_cases e:d=k
 .by_cases h:d<t.size
  .simp_all
  grind
 grind
theorem XX(a:Act)(ds:List (Option Nat)):kP a ds (ZE a ds)=a:=by
 have key:∀(ds:List (Option Nat)) (k:Nat) (ν:Nat->Value),(∀j d,ds[j]? =some (some d)->ν (k+j)=a.tmps.getD d undef)->kK a ds k ν=a:=by
  intro ds
  induction ds with
  |nil=>intro k ν _;rfl
  |cons x ds ih=>
   intro k ν h;have h':∀j d,ds[j]? =some (some d)->ν (k+1+j)=a.tmps.getD d undef:=λj d hj=>by
    have:=h (j+1) d (by grind)
    grind
   cases x with
   |none=>exact ih (k+1) ν h'
   |some d=>
    have h0:=h 0 d (by simp);rw[Nat.add_zero] at h0;simp only[kK];rw[h0,UL]
    simp_all
 refine key ds 0 _ (λj d hj=>?_)
 simp_all[ZE]
theorem GO(L:Array Bool)(i:Nat)(h:i<L.size):(L.setIfInBounds i true).getD i false=true:=by
 simp_all
theorem xi(p p':Nat->Bool)(i:Nat)(hp:p i=true)(he:∀j,p' j=(j != i&&p j)):∀(L:List Nat),L.Nodup->i∈L->(L.filter p').length+1=(L.filter p).length:=by
 intro L
 induction L with
 |nil=>simp
 |cons x L ih=>
  intro hn hm;rw[dC] at hn;by_cases e:x=i
  .have h1:L.filter p'=L.filter p:=dI λj hj=>by
    have:j≠x:=λe=>hn.1 (e▸hj)
    grind
   grind
  grind
theorem mf(m:Nat):∀n,((List.range n).filter λj=> !decide (j<m)).length=n-m:=by
 intro n
 induction n with
 |zero=>simp
 |succ n ih=>
  grind[List.range_succ]
def EC(l:List Oper)(i j:Nat):Bool:=((l[i]?).map λo=>o.after.any λe=>Region.binds .any e&&e.on==j).getD false
def BQ(l:List Oper)(m:Nat)(ds:List (Option Nat)):Bool:=
 decide (ds.length=m/\m<=l.length/\(ds.filterMap id).Nodup)&&((List.range m).all λi=>((l[i]?).map λo=>o.dst==ds.getD i none&&o.after.all λe=> !Region.binds .any e||decide (e.on<i)).getD false)&&
  ((List.range l.length).all λj=>(decide (j<m)||(List.range j).all λi=>reach l j i)&&((l[j]?).map λo=>o.after.all λe=> !Region.binds .any e||decide (e.on<j)).getD false)
inductive kl where
 |val (c:Value)
 |new (o:Obj)
 |any (p:Value->Nat->Nat->World->Prop)
abbrev Spec:=Nat->Value->Nat->Nat->World->Prop
def nC:kl->Value->Nat->Nat->World->Prop
 | .val c,v,_,_,_=>v=c
 | .new o,v,lo,hi,w=>v=.pointer (some ⟨lo,0,none⟩)/\lo<hi/\w.heap[lo]? =some o
 | .any p,v,lo,hi,w=>p v lo hi w
def jZ(ks:List kl):Spec:=λi v lo hi w=>nC (ks.getD i (.any λ_ _ _ _=>True)) v lo hi w
def Bd:kl->Prop
 | .any p=>∀v lo hi w w',Below w.heap.size w w'->p v lo hi w->p v lo hi w'
 |_=>True
theorem jX{ks:List kl}(h:∀k∈ks,Bd k):∀i v lo hi w w',Below w.heap.size w w'->jZ ks i v lo hi w->jZ ks i v lo hi w':=by
 intro i v lo hi w w' hb hs
 unfold jZ at*
 have hk:Bd (ks.getD i (.any λ_ _ _ _=>True)):=by
  rw[ak];cases e:ks[i]? with
  |none=>exact λ_ _ _ _ _ _ h=>h
  |some k=>grind
 generalize ks.getD i (.any λ_ _ _ _=>True)=k at*
 cases k with
 |val c=>exact hs
 |new o=>exact⟨hs.1,hs.2.1,fB hb hs.2.2⟩
 |any p=>exact hk v lo hi w w' hb hs
section
variable {P:Program} {l:List Oper} {Q:Exit->Act->World->Prop}
theorem PC(m:Nat)(hok:∀j,m<=j->j<l.length->∀i,i<j->reach l j i=true)(hup:∀j o,l[j]? =some o->∀e∈o.after,Region.binds .any e=true->e.on<j):
  ∀(k j:Nat) (listed:Array Bool) (a:Act) (w:World),l.length-j=k->m<=j->j<=l.length->listed.size=l.length->(∀i,i<l.length->listed.getD i false=decide (i<j))->oW l listed->wpList P l.toArray Q (l.drop j) a w->wpAny P .any l.toArray Q k listed a w:=by
 intro k
 induction k with
 |zero=>
  intro j listed a w hk hm hj hs hL hc h;have hr:Region.ready .any l.toArray listed= []:=by
   cases hr:Region.ready .any l.toArray listed with
   |nil=>rfl
   |cons i r=>
    have hi:i∈Region.ready .any l.toArray listed:=by grind
    grind[mem_ready]
  rw[dx (by omega)] at h;trivial
 |succ k ih=>
  intro j listed a w hk hm hj hs hL hc h;have hjl:j<l.length:=by omega
  have hj0:l[j]? =some l[j]:=ah hjl;have only:∀i∈Region.ready .any l.toArray listed,i=j:=λi hi=>by
   obtain⟨h1,o,ho,_⟩:=ff.1 hi;have hlt:i<l.length:=by grind
   have h2:=hL i hlt;have e:listed.getD i true=listed.getD i false:=by simp[hs,hlt]
   rw[e,h2] at h1;simp at h1;by_cases hij:i=j
   .exact hij
   .obtain⟨n,hn⟩:=zP (hok i (by omega) hlt j (by omega));have h3:=zM hc hi hn;rw[hL j hjl] at h3;simp at h3
  have hrj:j∈Region.ready .any l.toArray listed:=by
   refine ff.2 ⟨?_,l[j],by simp[hjl],λe he hb=>?_⟩
   .have e:listed.getD j true=listed.getD j false:=by simp[hs,hjl]
    rw[e,hL j hjl];simp
   .have hon:=hup j l[j] hj0 e he hb;rw[hL e.on (by omega)];simpa using hon
  refine⟨λh0=>absurd hrj (by rw[h0];simp),λi hi=>?_⟩;obtain rfl:=only i hi;rw[cn hjl] at h;have hget:l.toArray[i]? =some l[i]:=by simp[hjl]
  unfold wpOp;simp only[hget];have hnext:∀a' w',wpList P l.toArray Q (l.drop (i+1)) a' w'->wpAny P .any l.toArray Q k (listed.setIfInBounds i true) a' w':=λa' w' h'=>by
   refine ih (i+1) _ a' w' (by omega) (by omega) (by omega) (by simpa using hs) (λq hq=>?_) (hc.set hrj) h';by_cases e:i=q
   .subst e;rw[GO _ _ (by rw[hs];exact hjl)];simp
   .rw[eD false e,hL q hq];rw[eR];omega
  rw[wpList] at h
  split
  .rename_i hw
   rw[aM hw] at h;exact h.imp (λh=>Oper.wp_mono hnext h) id
  .rename_i hw
   rw[az hw] at h;exact hnext _ _ h
theorem jn{l:List Oper}{j k:Nat}(h:EC l j k=true):oU l 0 j k=true:=by
 grind[EC,oU]
theorem FG{P:Program}{l:List Oper}{Q:Exit->Act->World->Prop}(m:Nat)(ds:List (Option Nat))(hok:BQ l m ds=true)(S:Spec)(Lk:Nat->Value->(Nat->Value)->Prop)(hcong:∀i v ν ν',(∀j,EC l i j=true->ν j=ν' j)->Lk i v ν->Lk i v ν')(a0:Act)(w0:World)
  (hmono:∀i v lo hi w w',Below w.heap.size w w'->S i v lo hi w->S i v lo hi w')
  (hops:∀i,i<m->∀(ν:Nat->Value) (lo hi:Nat->Nat) (w:World) (K:Act->World->Prop),Below w0.heap.size w0 w->(∀j,EC l i j=true->S j (ν j) (lo j) (hi j) w)->
    (∀v w',Below w.heap.size w w'->S i v w.heap.size w'.heap.size w'->Lk i v ν->K ((kP a0 ds ν).put (ds.getD i none) v) w')->wpOp P l.toArray Q i K (kP a0 ds ν) w)
  (hend:∀(ν:Nat->Value) (lo hi:Nat->Nat) (w:World),Below w0.heap.size w0 w->(∀i,i<m->S i (ν i) (lo i) (hi i) w)->(∀i,i<m->w0.heap.size<=lo i/\lo i<=hi i/\hi i<=w.heap.size)->
    (∀i j,i<m->j<m->i≠j->hi i<=lo j\/hi j<=lo i)->(∀i,i<m->Lk i (ν i) ν)->wpList P l.toArray Q (l.drop m) (kP a0 ds ν) w):
  wpAny P .any l.toArray Q l.length (Array.replicate l.length false) a0 w0:=by
 simp only[BQ,aB,aN,aV,aQ] at hok
 obtain⟨⟨⟨hds,hml,hnd⟩,h1⟩,h2⟩:=hok
 have hup:∀j o,l[j]? =some o->∀e∈o.after,Region.binds .any e=true->e.on<j:=λj o hj e he hb=>by
  grind[Array.all_eq_true']
 have htail:∀j,m<=j->j<l.length->∀i,i<j->reach l j i=true:=λj hj hlt i hi=>by
  grind
 have key:∀(fuel:Nat) (listed:Array Bool) (ν:Nat->Value) (lo hi:Nat->Nat) (w:World),((List.range l.length).filter λj=> !listed.getD j true).length=fuel->listed.size=l.length->oW l listed->
   (∀j,m<=j->listed.getD j false=false)->Below w0.heap.size w0 w->(∀i,i<m->listed.getD i false=true->S i (ν i) (lo i) (hi i) w/\w0.heap.size<=lo i/\lo i<=hi i/\hi i<=w.heap.size)->
   (∀i j,i<m->j<m->i≠j->listed.getD i false=true->listed.getD j false=true->hi i<=lo j\/hi j<=lo i)->(∀i,i<m->listed.getD i false=true->Lk i (ν i) ν)->wpAny P .any l.toArray Q fuel listed (kP a0 ds ν) w:=by
  intro fuel
  induction fuel with
  |zero=>
   intro listed ν lo hi w hf hs hc htl hB hS hD hL0;by_cases hall:∀i,i<m->listed.getD i false=true
   .have hL:∀i,i<l.length->listed.getD i false=decide (i<m):=λi _=>by
     grind
    have hcnt:l.length-m=0:=by
     rw[<-hf,<-mf m l.length]
     congr 1
     refine dI λj hj=>?_;have hj:=aQ.1 hj;have e:listed.getD j true=listed.getD j false:=by simp[hs,hj]
     rw[e,hL j hj]
    exact PC m htail hup 0 m listed _ w hcnt (aj _) hml hs hL hc (hend ν lo hi w hB (λi h=>(hS i h (hall i h)).1) (λi h=>(hS i h (hall i h)).2) (λi j h h' hne=>hD i j h h' hne (hall i h) (hall j h')) (λi h=>hL0 i h (hall i h)))
   .exfalso;have⟨i,hi⟩:=Classical.not_forall.1 hall;have⟨him,hin⟩:=Classical.not_imp.1 hi;have hlt:i<l.length:=by omega
    have hmem:i∈(List.range l.length).filter λj=> !listed.getD j true:=by
     rw[bI,aQ];refine⟨hlt,?_⟩;have e:listed.getD i true=listed.getD i false:=by simp[hs,hlt]
     rw[e];simpa using hin
    rw[da hf] at hmem;cases hmem
  |succ fuel ih=>
   intro listed ν lo hi w hf hs hc htl hB hS hD hL0;by_cases hall:∀i,i<m->listed.getD i false=true
   .have hL:∀i,i<l.length->listed.getD i false=decide (i<m):=λi _=>by
     by_cases h:i<m
     .rw[hall i h];simp[h]
     .rw[htl i (by omega)];simp[h]
    have hcnt:l.length-m=fuel+1:=by
     rw[<-hf,<-mf m l.length]
     congr 1
     refine dI λj hj=>?_;have hj:=aQ.1 hj;have e:listed.getD j true=listed.getD j false:=by simp[hs,hj]
     rw[e,hL j hj]
    exact PC m htail hup (fuel+1) m listed _ w hcnt (aj _) hml hs hL hc (hend ν lo hi w hB (λi h=>(hS i h (hall i h)).1) (λi h=>(hS i h (hall i h)).2) (λi j h h' hne=>hD i j h h' hne (hall i h) (hall j h')) (λi h=>hL0 i h (hall i h)))
   · -- the least that is to come
     have hex:∀k,(∃i,i<m/\i<=k/\listed.getD i false=false)->∃i,i<m/\listed.getD i false=false/\∀j,j<i->listed.getD j false=true:=by
      intro k
      induction k with
      |zero=>
       rintro⟨i,h1,h2,h3⟩;exact⟨i,h1,h3,λj hj=>by omega⟩
      |succ k ihk=>
       rintro⟨i,h1,h2,h3⟩;by_cases h:∃i,i<m/\i<=k/\listed.getD i false=false
       .exact ihk h
       .refine⟨i,h1,h3,λj hj=>?_⟩;cases e:listed.getD j false with
        |true=>rfl
        |false=>exact absurd ⟨j,by omega,by omega,e⟩ h
     have⟨i1,hi1⟩:=Classical.not_forall.1 hall;have⟨him1,hin1⟩:=Classical.not_imp.1 hi1;obtain⟨i0,h0m,h0f,h0all⟩:=hex i1 ⟨i1,him1,aj _,by simpa using hin1⟩;have h0l:i0<l.length:=by omega
     have hr0:i0∈Region.ready .any l.toArray listed:=by
      refine ff.2 ⟨?_,l[i0],by simp[h0l],λe he hb=>h0all e.on (hup i0 l[i0] (ah h0l) e he hb)⟩;have e:listed.getD i0 true=listed.getD i0 false:=by simp[hs,h0l]
      rw[e,h0f]
     refine⟨λh=>absurd hr0 (by rw[h];simp),λi hir=>?_⟩;obtain⟨hi1',o,ho,hdep⟩:=ff.1 hir;have hil:i<l.length:=by have:=(au.1 ho).1;simpa using this
     have hif:listed.getD i false=false:=by
      have e:listed.getD i true=listed.getD i false:=by simp[hs,hil]
      rw[<-e];exact hi1'
     have him:i<m:=by
      apply bE;intro hge;obtain⟨n,hn⟩:=zP (htail i (by omega) hil i0 (by omega));have h9:=zM hc hir hn;rw[h0f] at h9;cases h9
     refine hops i him ν lo hi w _ hB (λj hj=>?_) (λv w' hb hsp hlk0=>?_)
     .have ho':l[i]? =some o:=by simpa using ho
      simp only[EC,ho',Option.map_some,eB] at hj;obtain⟨e,he,hbe⟩:=dM.1 hj;simp only[aB,db] at hbe;have hlj:listed.getD j false=true:=hbe.2▸hdep e he hbe.1;have hji:j<i:=hbe.2▸hup i o ho' e he hbe.1;exact(hS j (by omega) hlj).1
     .rw[qk a0 ds ν i v hnd (by omega)];have hsz:=hb.size;refine ih (listed.setIfInBounds i true) (mD ν i v) (mD lo i w.heap.size) (mD hi i w'.heap.size) w' ?_ (by simpa using hs) (hc.set hir) (λj hj=>?_) (hB.trans (hb.mono hB.size)) (λj hj hlj=>?_) (λj k hj hk hne hlj hlk=>?_) (λj hj hlj=>?_)
      .have:=xi (λj=> !listed.getD j true) (λj=> !(listed.setIfInBounds i true).getD j true) i (by simp[hi1']) (λj=>by
        by_cases e:i=j
        .subst e;have:(listed.setIfInBounds i true).getD i true=true:=by
          have h1:=GO listed i (by rw[hs];exact hil);rw[Array.getD_eq_getD_getElem?] at h1|-;cases h2:(listed.setIfInBounds i true)[i]? with
          |none=>rfl
          |some b=>rw[h2] at h1;exact h1
         simp[this]
        .have e':(j != i)=true:=by simpa using λh=>e h.symm
         rw[eD true e,e',dg]) (List.range l.length) List.nodup_range (aQ.2 hil)
       omega
      .rw[eD false (by omega)];exact htl j hj
      .by_cases e:i=j
       .subst e;simp only[mD,aM rfl];exact⟨hsp,hB.size,hsz,aj _⟩
       .have e':¬j=i:=λh=>e h.symm;rw[eD false e] at hlj;simp only[mD,az e'];obtain⟨s1,s2,s3,s4⟩:=hS j hj hlj;exact⟨hmono j _ _ _ w w' hb s1,s2,s3,by omega⟩
      .by_cases ej:i=j
       .subst ej;have e':¬k=i:=λh=>hne h.symm;rw[eD false hne] at hlk;obtain⟨_,s2,s3,s4⟩:=hS k hk hlk;simp only[mD,aM rfl,az e'];exact .inr s4
       .have ej':¬j=i:=λh=>ej h.symm;rw[eD false ej] at hlj;obtain⟨_,s2,s3,s4⟩:=hS j hj hlj;by_cases ek:i=k
        .subst ek;simp only[mD,aM rfl,az ej'];exact .inl s4
        .have ek':¬k=i:=λh=>ek h.symm;rw[eD false ek] at hlk;simp only[mD,az ej',az ek'];exact hD j k hj hk hne hlj hlk
      .by_cases e:i=j
       .subst e;have e1:mD ν i v i=v:=by simp[mD]
        rw[e1];refine hcong i v ν _ (λk hk=>?_) hlk0;have hki:k<i:=by
         have ho':l[i]? =some o:=by simpa using ho
         simp only[EC,ho',Option.map_some,eB] at hk;obtain⟨e,he,hbe⟩:=dM.1 hk;simp only[aB,db] at hbe;exact hbe.2▸hup i o ho' e he hbe.1
        simp only[mD];rw[az (by omega)]
       .have e':¬j=i:=λh=>e h.symm;rw[eD false e] at hlj;have e1:mD ν i v j=ν j:=by simp[mD,e']
        rw[e1];refine hcong j (ν j) ν _ (λk hk=>?_) (hL0 j hj hlj);have hlk:listed.getD k false=true:=DR hc 0 j k hlj (jn hk);have hne:k≠i:=λh=>by subst h;rw[hif] at hlk;cases hlk
        simp only[mD];rw[az hne]
 have h3:=key l.length (Array.replicate l.length false) (ZE a0 ds) (λ_=>0) (λ_=>0) w0 (by
  have:(List.range l.length).filter (λj=> !(Array.replicate l.length false).getD j true)=List.range l.length:=by
   rw[eS];intro j hj;have:=aQ.1 hj;simp[this]
  rw[this];simp) (by simp) (GU _) (λj hj=>by
  by_cases h:j<l.length<;>simp[h]) (ag _ _) (λi hi h=>by
  by_cases h':i<l.length
  .simp[h'] at h
  .omega) (λi j hi hj _ h=>by
  by_cases h':i<l.length
  .simp[h'] at h
  .omega) (λi hi h=>by
  by_cases h':i<l.length
  .simp[h'] at h
  .omega)
 rwa [XX] at h3
theorem VV{P:Program}{l:List Oper}{Q:Exit->Act->World->Prop}(m:Nat)(ds:List (Option Nat))(hok:BQ l m ds=true)(S:Spec)(a0:Act)(w0:World)
  (hmono:∀i v lo hi w w',Below w.heap.size w w'->S i v lo hi w->S i v lo hi w')
  (hops:∀i,i<m->∀(ν:Nat->Value) (lo hi:Nat->Nat) (w:World) (K:Act->World->Prop),Below w0.heap.size w0 w->(∀j,EC l i j=true->S j (ν j) (lo j) (hi j) w)->
    (∀v w',Below w.heap.size w w'->S i v w.heap.size w'.heap.size w'->K ((kP a0 ds ν).put (ds.getD i none) v) w')->wpOp P l.toArray Q i K (kP a0 ds ν) w)
  (hend:∀(ν:Nat->Value) (lo hi:Nat->Nat) (w:World),Below w0.heap.size w0 w->(∀i,i<m->S i (ν i) (lo i) (hi i) w)->(∀i,i<m->w0.heap.size<=lo i/\lo i<=hi i/\hi i<=w.heap.size)->
    (∀i j,i<m->j<m->i≠j->hi i<=lo j\/hi j<=lo i)->wpList P l.toArray Q (l.drop m) (kP a0 ds ν) w):
  wpAny P .any l.toArray Q l.length (Array.replicate l.length false) a0 w0:=
 FG m ds hok S (λ_ _ _=>True) (λ_ _ _ _ _ _=>trivial) a0 w0 hmono (λi hi ν lo hi' w K hB hD hK=>hops i hi ν lo hi' w K hB hD λv w' h1 h2=>hK v w' h1 h2 trivial) (λν lo hi w hB hS hI hD _=>hend ν lo hi w hB hS hI hD)
theorem lF{id:Nat}{a:Act}{w:World}(m:Nat)(ds:List (Option Nat))(hm:P.follows .mixedOrders=true)(hok:BQ l m ds=true)(S:Spec)
  (hmono:∀i v lo hi w w',Below w.heap.size w w'->S i v lo hi w->S i v lo hi w')
  (hops:∀i,i<m->∀(ν:Nat->Value) (lo hi:Nat->Nat) (w':World) (K:Act->World->Prop),Below w.heap.size w w'->(∀j,EC l i j=true->S j (ν j) (lo j) (hi j) w')->
    (∀v w'',Below w'.heap.size w' w''->S i v w'.heap.size w''.heap.size w''->K ((kP a ds ν).put (ds.getD i none) v) w'')->wpOp P l.toArray Q i K (kP a ds ν) w')
  (hend:∀(ν:Nat->Value) (lo hi:Nat->Nat) (w':World),Below w.heap.size w w'->(∀i,i<m->S i (ν i) (lo i) (hi i) w')->(∀i,i<m->w.heap.size<=lo i/\lo i<=hi i/\hi i<=w'.heap.size)->
    (∀i j,i<m->j<m->i≠j->hi i<=lo j\/hi j<=lo i)->wpList P l.toArray Q (l.drop m) (kP a ds ν) w'):
  (Code.region id l.toArray true).wp P Q a w:=by
 refine wp_region_any hm ?_
 have:=VV (P:=P) (l:=l) (Q:=Q) m ds hok S a w.drew hmono (λi hi ν lo hi' w' K hB=>hops i hi ν lo hi' w' K (lH hB)) (λν lo hi w' hB=>hend ν lo hi w' (lH hB))
 trivial
theorem xL{id:Nat}{a:Act}{w:World}{lp:Nat}(m:Nat)(ds:List (Option Nat))(hm:P.follows .mixedOrders=true)(hn:l.all rL=true)(hQ:¬LetsOut Q)(hok:BQ l m ds=true)(S:Spec)
  (hmono:∀i v lo hi w w',Below w.heap.size w w'->S i v lo hi w->S i v lo hi w')
  (hops:∀i,i<m->∀(ν:Nat->Value) (lo hi:Nat->Nat) (w':World) (K:Act->World->Prop),Below w.heap.size w w'->(∀j,EC l i j=true->S j (ν j) (lo j) (hi j) w')->
    (∀v w'',Below w'.heap.size w' w''->S i v w'.heap.size w''.heap.size w''->K ((kP a ds ν).put (ds.getD i none) v) w'')->wpOp P l.toArray Q i K (kP a ds ν) w')
  (hend:∀(ν:Nat->Value) (lo hi:Nat->Nat) (w':World),Below w.heap.size w w'->(∀i,i<m->S i (ν i) (lo i) (hi i) w')->(∀i,i<m->w.heap.size<=lo i/\lo i<=hi i/\hi i<=w'.heap.size)->
    (∀i j,i<m->j<m->i≠j->hi i<=lo j\/hi j<=lo i)->wpList P l.toArray Q (l.drop m) (kP a ds ν) w'):
  (Code.region id l.toArray true).wpIn (Fence.wide.inRound lp) 0 P Q a w:=by
 refine wpIn_region_draw λt=>?_
 refine xI lp (λi o ho=>?_) hQ _ _ _ ?_
 .grind
 .simp only[Region.schedule,hm,Bool.true_or,if_true];refine wpAny_sound _ t _ a _ ?_;have:=VV (P:=P) (l:=l) (Q:=Q) m ds hok S a w.drew hmono (λi hi ν lo hi' w' K hB=>hops i hi ν lo hi' w' K (lH hB)) (λν lo hi w' hB=>hend ν lo hi w' (lH hB));trivial
theorem fF{e:Nat}{o:Oper}{K:Act->World->Prop}{a:Act}{w:World}(ho:l[e]? =some o)(hg:o.guard=none)(h:o.wp P a w K Q):wpOp P l.toArray Q e K a w:=fR ho hg h
end
theorem zA(a:Act)(ds:List (Option Nat))(v:Nat->Value):kP a ds v=kK a ds 0 v:=rfl
theorem zB(a:Act)(k:Nat)(v:Nat->Value):kK a [] k v=a:=rfl
theorem zC(a:Act)(ds:List (Option Nat))(k:Nat)(v:Nat->Value):kK a (none :: ds) k v=kK a ds (k+1) v:=rfl
theorem zD(a:Act)(d:Nat)(ds:List (Option Nat))(k:Nat)(v:Nat->Value):kK a (some d :: ds) k v=kK {tmps:=a.tmps.setIfInBounds d (v k),defers:=a.defers} ds (k+1) v:=rfl
theorem zE{α:Type}(x d:α)(l:List α):(x :: l).getD 0 d=x:=rfl
theorem zF{α:Type}(x d:α)(l:List α)(n:Nat):(x :: l).getD (n+1) d=l.getD n d:=rfl
theorem zG{α:Type}(l:List α)(i:Nat)(x:α):l.toArray.setIfInBounds i x=(l.set i x).toArray:=ar l i x
theorem zH{α:Type}(a:α)(l:List α)(n:Nat)(b:α):(a :: l).set (n+1) b=a :: l.set n b:=rfl
theorem zJ(a:Act)(d:Nat)(v:Value):a.put (some d) v={tmps:=a.tmps.setIfInBounds d v,defers:=a.defers}:=rfl
theorem zK(a:Act)(v:Value):a.put none v=a:=rfl
theorem zI{α:Type}(a:α)(l:List α)(b:α):(a :: l).set 0 b=b :: l:=rfl
end

section
open Go.RowKit
theorem gG:(Tryz.prog.info? 129).map (·.size)=some 4:=by kernel_rfl
theorem mQ.nx_lt{w:World}{d:lJ}{ts:List fS}(h:tH ts=true):(∀k y,y∈nx ts k->y<200)/\(∀k y,y∈pv ts k->y<200):=by
 have hl:=((lO ts).1 h).1
 refine⟨λk y hy=>?_,λk y hy=>?_⟩
 .have:=AF h hy;omega
 .have hk:=(vS ts k y).1 hy;by_cases hy2:y<ts.length
  .omega
  .rw[AE ts y (by omega)] at hk;cases hk
theorem mQ.nx_to{w:World}{d:lJ}{ts:List fS}(h:tH ts=true)(hok:mQ w d ts)(f:Nat->Bool):(∀k y,y∈nx ts k->y<200/\(f y=true->y<d.bn))/\(∀k y,y∈pv ts k->y<200/\(f y=true->y<d.bn)):=by
 have hl:=((lO ts).1 h).1
 rw[<-hok.1]
 refine⟨λk y hy=>?_,λk y hy=>?_⟩
 .have:=AF h hy;exact⟨by omega,λ_=>by omega⟩
 .have hk:=(vS ts k y).1 hy;by_cases hy2:y<ts.length
  .exact⟨by omega,λ_=>hy2⟩
  .rw[AE ts y (by omega)] at hk;cases hk
theorem KG(d:lJ)(ts:List fS)(b:Nat)(f:Nat->Bool)(w:World)(hb:b<200)(hok:mQ w d ts)(hg:tH ts=true)(hcf:iV f)(hf:f b=true->b<d.bn):
  Calls Tryz.prog 149 #[jJ d,.int .i64 (b:Int),.agg (gK f)] w (xG w (iH ts b f)):=by
 have HOK:=ac hok
 have HF:=ac hf
 have HCF:=ac hcf
 have HX:=ac (mQ.nx_to hg hok f)
 clear hok hg hcf hf
 go_enter Tryz.func149,Tryz.ntmps149
 go_upto_region 1 with (fail)
 obtain⟨W,hW⟩:∃W,W=((w.alloc (qM d)).alloc (jY f)).alloc (.cells Tryz.zeroCells138 138):=⟨_,rfl⟩
 rw[<-hW]
 have hk:W.heap[w.heap.size]? =some (qM d):=by rw[hW,aG _ _ _ (by simp;omega),aG _ _ _ (by simp)];exact ae _ _
 have hs:W.heap[w.heap.size+1]? =some (jY f):=by rw[hW,aG _ _ _ (by simp)];exact iT _ _ _ (by simp)
 have hr:W.heap[w.heap.size+1+1]? =some (jY λ_=>false):=by rw[hW,iT _ _ _ (by simp),oX]
 have hB:Below w.heap.size w W:=by rw[hW];exact((fD _ _).alloc (by simp) _).alloc (by simp;omega) _
 have hWs:W.heap.size=w.heap.size+1+1+1:=by rw[hW];simp
 have HWs:=ac hWs
 have HK:=ac hk
 have HS:=ac hs
 have HR:=ac hr
 have HB:=ac hB
 have HC2:Hid (W.cell? ⟨w.heap.size,2,none⟩=some (.slice d.ta d.bn d.tc)):=by rw[Hid,aZ _ _ _ _ _ _ hk];rfl
 have HC3:Hid (W.cell? ⟨w.heap.size,3,none⟩=some (.slice d.fa d.bn d.fc)):=by rw[Hid,aZ _ _ _ _ _ _ hk];rfl
 clear hW hWs hk hs hr hB
 go_cut [7,8] (λs7 s8 wr=>∃p7 p8:Nat,s7=.pointer (some ⟨p7,0,none⟩)/\s8=.pointer (some ⟨p8,0,none⟩)/\w.heap.size+1+1+1<=p7/\w.heap.size+1+1+1<=p8/\p7≠p8/\Hid (wr.heap[p7]? =some (jY (iZ (nx ts) f b)))/\Hid (wr.heap[p8]? =some (jY (iZ (pv ts) f b)))/\Hid (wr.heap[w.heap.size+1+1]? =some (jY λ_=>false))/\Hid (Below w.heap.size w wr))
 case first=>
  refine lF 14 [some 10,some 11,some 12,some 13,some 14,some 15,some 16,some 17,some 18,some 19,some 20,some 21,some 7,some 8] (by kernel_rfl) (by kernel_rfl) (jZ [.val (jJ d),.val (.int .i64 (b:Int)),.val (.agg (gK f)),.val (.pointer (some ⟨w.heap.size,2,none⟩)),.val (.slice d.ta d.bn d.tc),.val (.agg (gK (iZ (nx ts) f b))),.val (jJ d),.val (.int .i64 (b:Int)),.val (.agg (gK f)),.val (.pointer (some ⟨w.heap.size,3,none⟩)),.val (.slice d.fa d.bn d.fc),.val (.agg (gK (iZ (pv ts) f b))),.new (jY λ_=>false),.new (jY λ_=>false)]) (jX ?_) ?_ ?_
  .intro k hk;simp only[aS,bO,cX] at hk;rcases hk with rfl|rfl|rfl|rfl|rfl|rfl|rfl|rfl|rfl|rfl|rfl|rfl|rfl|rfl<;>try exact trivial
  .intro i hi ν lo hi' w1 K hB hD hK;have hcase:i=0\/i=1\/i=2\/i=3\/i=4\/i=5\/i=6\/i=7\/i=8\/i=9\/i=10\/i=11\/i=12\/i=13:=by omega
   clear hi;rcases hcase with rfl|rfl|rfl|rfl|rfl|rfl|rfl|rfl|rfl|rfl|rfl|rfl|rfl|rfl
   .clear hD;refine fF rfl rfl ?_;simp only[zA,zB,zC,zD,zE,zF,zJ,zK,zG,zH,zI] at hK|-;refine cy 129 _ rfl w.heap.size rfl 129 _ (0,0) _ (fB hB HK.out) aY rfl gG ?_;exact hK _ _ (ag _ _) rfl
   .clear hD;refine fF rfl rfl ?_;simp only[zA,zB,zC,zD,zE,zF,zJ,zK,zG,zH,zI] at hK|-;go_simp;exact hK _ _ (ag _ _) rfl
   .clear hD;refine fF rfl rfl ?_;simp only[zA,zB,zC,zD,zE,zF,zJ,zK,zG,zH,zI] at hK|-;refine cy 138 _ rfl (w.heap.size+1) rfl 138 _ (0,0) _ (fB hB HS.out) aL rfl (by rw[fO];exact gF) ?_;exact hK _ _ (ag _ _) rfl
   .clear hD;refine fF rfl rfl ?_;simp only[zA,zB,zC,zD,zE,zF,zJ,zK,zG,zH,zI] at hK|-;go_simp;exact hK _ _ (ag _ _) rfl
   .have e3:ν 3=(.pointer (some ⟨w.heap.size,2,none⟩)):=hD 3 (by kernel_rfl);clear hD;refine fF rfl rfl ?_;simp only[zA,zB,zC,zD,zE,zF,zJ,zK,zG,zH,zI,e3] at hK|-;have c0:=fZ hB HC2.out;go_simp;exact hK _ _ (ag _ _) rfl
   .have e0:ν 0=(jJ d):=hD 0 (by kernel_rfl);have e1:ν 1=(.int .i64 (b:Int)):=hD 1 (by kernel_rfl);have e2:ν 2=(.agg (gK f)):=hD 2 (by kernel_rfl);have e4:ν 4=(.slice d.ta d.bn d.tc):=hD 4 (by kernel_rfl);clear hD;refine fF rfl rfl ?_;simp only[zA,zB,zC,zD,zE,zF,zJ,zK,zG,zH,zI,e0,e1,e2,e4] at hK|-;go_simp;refine(QO d b f d.ta d.bn d.tc (tZ ts) (nx ts) w1 hb HOK.out.2.1 HCF.out HF.out (λk hk=>by simp[tZ,HOK.out.1,hk]) HX.out.1 ((HOK.out.2.2.1).ext (fC HB.out hB))).mono ?_;rintro e w2 ⟨rfl,hb2⟩;exact hK _ _ hb2 rfl
   .clear hD;refine fF rfl rfl ?_;simp only[zA,zB,zC,zD,zE,zF,zJ,zK,zG,zH,zI] at hK|-;refine cy 129 _ rfl w.heap.size rfl 129 _ (0,0) _ (fB hB HK.out) aY rfl gG ?_;exact hK _ _ (ag _ _) rfl
   .clear hD;refine fF rfl rfl ?_;simp only[zA,zB,zC,zD,zE,zF,zJ,zK,zG,zH,zI] at hK|-;go_simp;exact hK _ _ (ag _ _) rfl
   .clear hD;refine fF rfl rfl ?_;simp only[zA,zB,zC,zD,zE,zF,zJ,zK,zG,zH,zI] at hK|-;refine cy 138 _ rfl (w.heap.size+1) rfl 138 _ (0,0) _ (fB hB HS.out) aL rfl (by rw[fO];exact gF) ?_;exact hK _ _ (ag _ _) rfl
   .clear hD;refine fF rfl rfl ?_;simp only[zA,zB,zC,zD,zE,zF,zJ,zK,zG,zH,zI] at hK|-;go_simp;exact hK _ _ (ag _ _) rfl
   .have e9:ν 9=(.pointer (some ⟨w.heap.size,3,none⟩)):=hD 9 (by kernel_rfl);clear hD;refine fF rfl rfl ?_;simp only[zA,zB,zC,zD,zE,zF,zJ,zK,zG,zH,zI,e9] at hK|-;have c0:=fZ hB HC3.out;go_simp;exact hK _ _ (ag _ _) rfl
   .have e5:ν 5=(.agg (gK (iZ (nx ts) f b))):=hD 5 (by kernel_rfl);have e6:ν 6=(jJ d):=hD 6 (by kernel_rfl);have e7:ν 7=(.int .i64 (b:Int)):=hD 7 (by kernel_rfl);have e8:ν 8=(.agg (gK f)):=hD 8 (by kernel_rfl);have e10:ν 10=(.slice d.fa d.bn d.fc):=hD 10 (by kernel_rfl);clear hD;refine fF rfl rfl ?_;simp only[zA,zB,zC,zD,zE,zF,zJ,zK,zG,zH,zI,e5,e6,e7,e8,e10] at hK|-;go_simp;refine(QO d b f d.fa d.bn d.fc (sV ts) (pv ts) w1 hb HOK.out.2.1 HCF.out HF.out (λk hk=>by simp[sV,HOK.out.1,hk]) HX.out.2 ((HOK.out.2.2.2).ext (fC HB.out hB))).mono ?_;rintro e w2 ⟨rfl,hb2⟩;exact hK _ _ hb2 rfl
   .clear hD;refine fF rfl rfl ?_;simp only[zA,zB,zC,zD,zE,zF,zJ,zK,zG,zH,zI] at hK|-;go_simp;refine hK _ _ (fD _ _) ⟨rfl,by simp,?_⟩;rw[ae,oX]
   .clear hD;refine fF rfl rfl ?_;simp only[zA,zB,zC,zD,zE,zF,zJ,zK,zG,zH,zI] at hK|-;go_simp;refine hK _ _ (fD _ _) ⟨rfl,by simp,?_⟩;rw[ae,oX]
  .intro ν lo hi w1 hB hS hI hD;have e0:ν 0=(jJ d):=hS 0 (by omega);have e1:ν 1=(.int .i64 (b:Int)):=hS 1 (by omega);have e2:ν 2=(.agg (gK f)):=hS 2 (by omega);have e3:ν 3=(.pointer (some ⟨w.heap.size,2,none⟩)):=hS 3 (by omega);have e4:ν 4=(.slice d.ta d.bn d.tc):=hS 4 (by omega);have e5:ν 5=(.agg (gK (iZ (nx ts) f b))):=hS 5 (by omega);have e6:ν 6=(jJ d):=hS 6 (by omega);have e7:ν 7=(.int .i64 (b:Int)):=hS 7 (by omega);have e8:ν 8=(.agg (gK f)):=hS 8 (by omega);have e9:ν 9=(.pointer (some ⟨w.heap.size,3,none⟩)):=hS 9 (by omega);have e10:ν 10=(.slice d.fa d.bn d.fc):=hS 10 (by omega);have e11:ν 11=(.agg (gK (iZ (pv ts) f b))):=hS 11 (by omega);obtain⟨e12,l12,h12⟩:=hS 12 (by omega);obtain⟨e13,l13,h13⟩:=hS 13 (by omega);clear hS;simp only[am,aw,zA,zB,zC,zD,zE,zF,zJ,zK,zG,zH,zI,e0,e1,e2,e3,e4,e5,e6,e7,e8,e9,e10,e11,e12,e13];have i12:=hI 12 (by omega);have i13:=hI 13 (by omega);have hne:lo 12≠lo 13:=by
    have:=hD 12 13 (by omega) (by omega) (by omega);omega
   rw[HWs.out] at i12 i13;have hr1:=fB hB HR.out;have HBw:Hid (Below w.heap.size w w1):=fC HB.out hB;generalize lo 12=p7 at *;generalize lo 13=p8 at *;have h13':(w1.setRow p7 (gK (iZ (nx ts) f b))).heap[p8]? =some (jY λ_=>false):=(cC _ _ _ _ (by omega)).trans h13;have H12:=ac h12;have H13:=ac h13';have HR1:=ac hr1;have HI12:=i12.1;have HI13:=i13.1;clear hI hD hB e0 e1 e2 e3 e4 e5 e6 e7 e8 e9 e10 e11 e12 e13 h12 h13 h13' hr1 i12 i13
   go_wp2_with (first
    |(refine aP rfl 138 _ _ rfl p7 (gK (iZ (nx ts) f b)) rfl rfl 138 _ H12.out (by rw[fO];exact gF) rfl (mR _) ?_)
    |(refine aP rfl 138 _ _ rfl p8 (gK (iZ (pv ts) f b)) rfl rfl 138 _ H13.out (by rw[fO];exact gF) rfl (mR _) ?_))
   go_meet
   exact⟨p7,p8,rfl,rfl,HI12,HI13,hne,(cC _ _ _ _ hne).trans (bt _ _ _ _ _ _ H12.out),bt _ _ _ _ _ _ H13.out,(cC _ _ _ _ (by omega)).trans ((cC _ _ _ _ (by omega)).trans HR1.out),aX (aX HBw.out (by omega) _) (by omega) _⟩
 case rest=>
  obtain⟨p7,p8,rfl,rfl,hp7,hp8,hne,H7,H8,HR,HB⟩:=hcut;clear HK HS HC2 HC3 HWs;go_wp2
  go_loopw [9,22] (λ_ i wx=>∃(k:Nat),k<=200/\i=.int .i64 k/\Hid (wx.heap[w.heap.size+1+1]? =some (jY λj=>decide (j<k)&&iH ts b f j))/\Hid (wx.heap[p7]? =some (jY (iZ (nx ts) f b)))/\Hid (wx.heap[p8]? =some (jY (iZ (pv ts) f b)))/\Hid (Below w.heap.size w wx)) (λ_ i _=>200-(intOf i).toNat)
  case atStart=>exact⟨0,by omega,rfl,by have e:(λj=>decide (j<0)&&iH ts b f j)=(λ_=>false):=(by funext j;simp);rw[Hid,e];exact HR.out,H7,H8,HB⟩
  case round=>
   obtain⟨k,hk,rfl,HR2,G7,G8,HB2⟩:=hrel;clear HR H7 H8 HB;by_cases hlt:k<200
   .have c7:=lK G7.out k hlt;have c8:=lK G8.out k hlt;have cr:=lK HR2.out k hlt;have fr:=rJ HR2.out k;have hl:=fE HR2.out;have e1:(λj=>if j=k then (iZ (nx ts) f b k&&iZ (pv ts) f b k) else (decide (j<k)&&iH ts b f j))=(λj=>decide (j<k+1)&&iH ts b f j):=by
     funext j
     by_cases e:j=k
     .subst e;simp[iH]
     .rw[az e]
      congr 1
      rw[eR];omega
    have HS2:=ac (CZ HR2.out hlt e1);have HG7:=ac (fQ (fU _ (w.heap.size+1+1) k (.bool (iZ (nx ts) f b k&&iZ (pv ts) f b k))) G7.out (by simp;omega));have HG8:=ac (fQ (fU _ (w.heap.size+1+1) k (.bool (iZ (nx ts) f b k&&iZ (pv ts) f b k))) G8.out (by simp;omega));have hlt':(k:Int)<200:=by omega
    clear e1 G7 G8 HR2;generalize (decide (k<k)&&iH ts b f k)=x0 at *;cases hx1:iZ (nx ts) f b k<;>simp only[hx1,dg,dZ] at HS2 HG7 HG8 c7
    all_goals
     generalize iZ (pv ts) f b k=x2 at *;clear hx1;go_wp2
     go_roundw
     case rel=>exact⟨k+1,by omega,by go_num,HS2,HG7,HG8,HB2.out.setCell (by simp;omega) _⟩
     case measure=>simp[intOf];omega
   .obtain rfl:k=200:=by omega
    have HE:Hid ((λj=>decide (j<200)&&iH ts b f j)=iH ts b f):=by
     have hc:iV f:=HCF.out
     funext j
     cases e:iH ts b f j with
     |false=>simp
     |true=>have:=xN hc b j e;simp[this]
    rw[HE.out] at HR2
    go_wp2_with (first
     |(refine ay rfl 138 _ rfl (w.heap.size+1+1) rfl 138 _ (0,0) _ HR2.out aL rfl (by rw[fO];exact gF) ?_)
     |(refine aP rfl 138 _ _ rfl (w.heap.size+1+1) (gK (iH ts b f)) rfl rfl 138 _ HR2.out (by rw[fO];exact gF) rfl (mR _) ?_))
    exact aR (v:=.agg (gK (iH ts b f))) (by simp[results,Tryz.results149,asAddr,Act.put,uE (bt _ _ _ _ _ _ HR2.out)]) rfl ⟨rfl,aX HB2.out (by omega) _⟩
end

section
open Go.RowKit
theorem EU(cs:Array Value)(o:Nat)(v:Value)(w:World)(h:cs[o]? =some v):(part 4 cs o).run Tryz.prog w=.ok v w:=by
 have hu:(underlying 4).run Tryz.prog w=.ok .bool w:=bT eC w
 simp[part,isAgg,hu,h]
theorem xW(w:World)(f g:Nat->Bool)(xs ys:Array Value):∀(is:List Nat),(∀i∈is,xs[i]? =some (.bool (f i))/\ys[i]? =some (.bool (g i)))->(Op.eqItems 9999 4 1 xs ys is).run Tryz.prog w=.ok (is.all λi=>f i==g i) w
 | [],_=>by rfl
 |i :: is,h=>by
  obtain⟨h1,h2⟩:=h i (by simp);have ih:=xW w f g xs ys is (λj hj=>h j (by grind));simp only[Op.eqItems,b7,fm];rw[EU _ i _ w h1];simp only[b8];rw[EU _ i _ w h2];simp only[b8];rw[run_equalIn_bool' w 9998 4 (f i) (g i) eC];simp only[b8];cases hq:(f i==g i) with
  |false=>simp[hq]
  |true=>grind
theorem FJ(w:World)(f g:Nat->Bool):(Op.equalIn 10000 138 (.agg (gK f)) (.agg (gK g))).run Tryz.prog w=.ok (eqS f g) w:=by
 have hi:∃i,Tryz.prog.info? 4=some i:=eh.1 (by kernel_rfl)
 obtain⟨i,hi⟩:=hi
 have h1:Tryz.prog.cellsOf 4=1:=by kernel_rfl
 rw[run_equalIn_array w 9999 _ _ aL hi,h1]
 exact xW w f g _ _ _ (λi hi=>⟨tL f i (aQ.1 hi),tL g i (aQ.1 hi)⟩)
structure nA where
 ia:Option Addr
 n:Nat
 c:Nat
 t:fS
def mx(b:nA):List Value:= [.slice b.ia b.n b.c,.int .i64 b.t.kind,.int .i64 b.t.a,.int .i64 b.t.t0,.int .i64 b.t.t1]
theorem yj(b:nA):(mx b).length=5:=rfl
def lZ(w:World)(a:Option Addr)(n:Nat)(bs:List nA):Prop:=tI 5 mx w a n bs/\∀b∈bs,pU b.t
theorem lZ.ext{w w':World}{a:Option Addr}{n:Nat}{bs:List nA}(h:lZ w a n bs)(hb:Below w.heap.size w w'):lZ w' a n bs:=⟨h.1.ext yj hb,h.2⟩
def fY(bs:List nA):List fS:=bs.map (·.t)
theorem lA(bs:List nA):(fY bs).length=bs.length:=by simp[fY]
theorem QP(bs:List nA)(k:Nat)(b:nA)(h:bs[k]? =some b):(fY bs).getD k nB=b.t:=by
 grind[fY]
abbrev IE(b:nA):Value:=.agg #[.slice b.ia b.n b.c,.int .i64 b.t.kind,.int .i64 b.t.a,.int .i64 b.t.t0,.int .i64 b.t.t1]
abbrev oA(b:nA):Obj:=.cells #[.slice b.ia b.n b.c,.int .i64 b.t.kind,.int .i64 b.t.a,.int .i64 b.t.t0,.int .i64 b.t.t1] 121
theorem lZ.cells{w:World}{a:Option Addr}{n:Nat}{bs:List nA}(h:lZ w a n bs){k:Nat}(hk:k<n):∃x b o,bs[k]? =some x/\pU x.t/\a=some ⟨b,o,none⟩/\
  w.cell? ⟨b,o+k*5,none⟩=some (.slice x.ia x.n x.c)/\w.cell? ⟨b,o+k*5+1,none⟩=some (.int .i64 x.t.kind)/\w.cell? ⟨b,o+k*5+2,none⟩=some (.int .i64 x.t.a)/\w.cell? ⟨b,o+k*5+3,none⟩=some (.int .i64 x.t.t0)/\w.cell? ⟨b,o+k*5+4,none⟩=some (.int .i64 x.t.t1):=by
 have hk':k<bs.length:=by rw[h.1.1];omega
 obtain⟨b,o,e,hc⟩:=h.1.2.2 k bs[k] (ah hk')
 exact⟨bs[k],b,o,ah hk',h.2 _ (bJ hk'),e,hc 0 (by omega),hc 1 (by omega),hc 2 (by omega),hc 3 (by omega),hc 4 (by omega)⟩
def Sep(v v':Value):Prop:=∀g,v.ownBlock=some g->v'.ownBlock≠some g
theorem Sep.symm{v v':Value}(h:Sep v v'):Sep v' v:=λg h1 h2=>h g h2 h1
structure Fam(w:World)(B n k:Nat)(hF hT:Nat->Value)(xF xT:Nat->List Int):Prop where
 F:∀y,y<n->gD w B (hF y) (xF y)
 T:∀j,j<k->gD w B (hT j) (xT j)
 FF:∀y y',y<n->y'<n->y≠y'->Sep (hF y) (hF y')
 FT:∀y j,y<n->j<k->Sep (hF y) (hT j)
section
variable {w w':World} {B n k:Nat} {hF hT:Nat->Value} {xF xT:Nat->List Int}
theorem Fam.kept{row:Option Nat}(h:Fam w B n k hF hT xF xT)(hg:w.grownBy w' row)(hr:∀r,row=some r->r<B\/w.heap.size<=r):Fam w' B n k hF hT xF xT:=by
 have key:∀v xs,gD w B v xs->gD w' B v xs:=λv xs ho=>by
  refine ho.kept hg ?_;cases e:v.ownBlock with
  |none=>simp
  |some g=>
   have:=ho.1.lt g e
   grind
 exact⟨λy hy=>key _ _ (h.F y hy),λj hj=>key _ _ (h.T j hj),h.FF,h.FT⟩
theorem Fam.ext(h:Fam w B n k hF hT xF xT)(hb:Below w.heap.size w w'):Fam w' B n k hF hT xF xT:=
 h.kept (row:=none) ⟨hb.os,hb.tape,hb.output,hb.size,λk hk _=>hb.block k hk⟩ (λr e=>by cases e)
theorem Fam.add(h:Fam w B n k hF hT xF xT)(hb:Below w.heap.size w w')(hB:B<=w.heap.size)(v:Value)(xs:List Int)(ho:gD w' w.heap.size v xs):Fam w' B n (k+1) hF (mD hT k v) xF (mD xT k xs):=by
 have h':=h.ext hb
 have hlt:∀y,y<n->Sep (hF y) v:=λy hy g e1 e2=>by
  have h1:=(h.F y hy).1.lt g e1;have h2:=ho.1.lt g e2;omega
 refine⟨h'.F,λj hj=>?_,h.FF,λy j hy hj=>?_⟩
 .by_cases e:j=k
  .simp only[mD,aM e];exact ho.mono hB
  .simp only[mD,az e];exact h'.T j (by omega)
 .by_cases e:j=k
  .simp_all[mD]
  .simp only[mD,az e];exact h.FT y j hy (by omega)
theorem Fam.turn(h:Fam w B n k hF hT xF xT)(y:Nat)(hy:y<n)(hg:w.grownBy w' (hF y).ownBlock)(v:Value)(xs:List Int)(ho:gD w' B v xs)(hv:v.ownBlock=(hF y).ownBlock\/∃g,v.ownBlock=some g/\w.heap.size<=g):Fam w' B n k (mD hF y v) hT (mD xF y xs) xT:=by
 have keep:∀v' xs',gD w B v' xs'->Sep (hF y) v'->gD w' B v' xs':=λv' xs' ho' hs=>by
  refine ho'.kept hg ?_;cases e:v'.ownBlock with
  |none=>simp
  |some g=>exact .inr λe2=>hs g e2.symm e
 have sep:∀v' xs',gD w B v' xs'->Sep (hF y) v'->Sep v v':=λv' xs' ho' hs g e1 e2=>by
  rcases hv with e|⟨g',e,hge⟩
  .exact hs g (by grind) e2
  .rw[e] at e1;injection e1 with e1;have:=(ho'.1.lt g e2).2;omega
 refine⟨λz hz=>?_,λj hj=>keep _ _ (h.T j hj) (h.FT y j hy hj),λz z' hz hz' hne=>?_,λz j hz hj=>?_⟩
 .by_cases e:z=y
  .simp_all[mD]
  .simp only[mD,az e];exact keep _ _ (h.F z hz) (h.FF y z hy hz (λe2=>e e2.symm))
 .by_cases e:z=y
  .have e':¬z'=y:=λe2=>hne (e.trans e2.symm);simp only[mD,aM e,az e'];exact sep _ _ (h.F z' hz') (h.FF y z' hy hz' (λe2=>e' e2.symm))
  .by_cases e':z'=y
   .simp only[mD,aM e',az e];exact(sep _ _ (h.F z hz) (h.FF y z hy hz (λe2=>e e2.symm))).symm
   .simp only[mD,az e',az e];exact h.FF z z' hz hz' hne
 .by_cases e:z=y
  .simp only[mD,aM e];exact sep _ _ (h.T j hj) (h.FT y j hy hj)
  .simp only[mD,az e];exact h.FT z j hz hj
end
def TN(n:Nat)(h:Nat->Value):Array Value:=((List.range n).map h).toArray
abbrev tB:Value:=.slice none 0 0
abbrev PX(n:Nat)(h:Nat->Value):Obj:=.cells (TN n h) 22 (0,0)
theorem QY(n:Nat)(h:Nat->Value)(j:Nat)(hj:j<n):(TN n h)[j]? =some (h j):=by grind[TN]
theorem FE(n:Nat)(h:Nat->Value):(TN n h).size=n:=by simp[TN]
theorem xe(n:Nat)(h:Nat->Value)(j:Nat)(v:Value):(TN n h).setIfInBounds j v=TN n (mD h j v):=by
 apply de
 intro k
 by_cases hk:k<n
 .grind[QY,FE,mD]
 simp_all[FE]
theorem wH{W:World}{g n:Nat}{h:Nat->Value}(hg:W.heap[g]? =some (PX n h))(j:Nat)(hj:j<n):W.cell? ⟨g,j,none⟩=some (h j):=by rw[aZ _ _ _ _ _ _ hg,QY _ _ _ hj]
theorem VT{W:World}{g n:Nat}{h:Nat->Value}(hg:W.heap[g]? =some (PX n h))(j:Nat):W.frozen? ⟨g,j,none⟩=false:=cY _ _ _ _ _ hg
theorem mb{W:World}{g n:Nat}{h:Nat->Value}(hg:W.heap[g]? =some (PX n h))(j:Nat)(v:Value):(W.setCell ⟨g,j,none⟩ v).heap[g]? =some (PX n (mD h j v)):=by rw[aC _ _ _ _ _ _ hg,xe]
def qI(ts:List fS)(k i y:Nat):List Nat:=((List.range k).flatMap λq=>((nx ts q).filter (λx=>x==y)).map λ_=>q)++(((nx ts k).take i).filter (λx=>x==y)).map λ_=>k
theorem om(ts:List fS)(y:Nat):qI ts 0 0 y= []:=by rfl
theorem ou(ts:List fS)(k i y:Nat)(h:(nx ts k).length<=i):qI ts k i y=qI ts (k+1) 0 y:=by
 grind[qI,List.take_of_length_le,List.range_succ]
theorem uv(ts:List fS)(y:Nat):qI ts ts.length 0 y=pv ts y:=by simp[qI,pv]
theorem oq(ts:List fS)(k i:Nat)(x:Nat)(h:(nx ts k)[i]? =some x)(y:Nat):qI ts k (i+1) y=if y=x then qI ts k i y++ [k] else qI ts k i y:=by
 grind[List.take_add_one,qI]
theorem uu(ts:List fS)(k i y:Nat):(qI ts k i y).length<=2*k+2:=by
 have hn:∀q,(nx ts q).length<=2:=λq=>by simp[nx,xC]
 have h1:∀k,((List.range k).flatMap λq=>((nx ts q).filter (λx=>x==y)).map λ_=>q).length<=2*k:=by
  intro k
  induction k with
  |zero=>simp
  |succ k ih=>
   grind[List.range_succ]
 have h2:=bX (λx=>x==y) ((nx ts k).take i)
 have h3:((nx ts k).take i).length<=2:=by rw[dU];have:=hn k;omega
 have h4:=h1 k
 simp only[qI,bf,cT]
 omega
end
end Go.Proofs.YtbknbcmppdglhaaGreatDoor
