/-
 Edge:going through a function's edges.
-/
import Derived.Test.YtchdkjenhppleaaGreatA0
import Derived.Test.YtchdkjenhppleaaGreatPick
import Derived.Test.YtchdkjenhppleaaGreatMix
import Derived.Test.YtchdkjenhppleaaGreatTE
import Derived.Test.YtchdkjenhppleaaGreatTI
import Derived.Test.YtchdkjenhppleaaGreatInsR
import Derived.Deep.LoopGhost
namespace Go.Proofs.YtchdkjenhppleaaGreat
set_option linter.unusedSimpArgs false
set_option linter.unusedVariables false
set_option linter.unusedSectionVars false
set_option maxRecDepth 100000
set_option maxHeartbeats 40000000
section
open Go.RowKit Go.Shelf
attribute [local go_sem] Oper.semAt_some iB fS gP fH
def CJ(x:gQ):Array Value:=#[.agg #[.int .i64 x.fr,.int .i64 x.arm,.int .i64 x.to]]
theorem AS{w w':World}{b o:Nat}(h:w'.heap[b]? =w.heap[b]?):w'.cell? ⟨b,o,none⟩=w.cell? ⟨b,o,none⟩:=by
 unfold World.cell?
 simp only[h]
theorem fR.heap{w w':World}{a:Option Addr}{n:Nat}{xs:List Int}(h:fR w a n xs)(hb:∀b o,a=some ⟨b,o,none⟩->w'.heap[b]? =w.heap[b]?):fR w' a n xs:=
 ⟨h.1,h.2.1,λk hk=>by
  obtain⟨b,o,e,hc,hi⟩:=h.2.2 k hk
  grind[AS]⟩
theorem FM(pa:Option Addr)(pn pc:Nat)(ba:Option Addr)(bn bc:Nat)(w:World):Calls Tryz.prog 86 #[kF pa pn pc ba bn bc] w λe w'=>e=.returned (.func (.func 127) #[] #[.pointer (some ⟨w.heap.size,0,none⟩)])/\w'=w.alloc (gH pa pn pc ba bn bc):=by
 go_wp2
 go_ret
 simp
theorem yZ(pa:Option Addr)(pn pc:Nat)(ba:Option Addr)(bn bc:Nat)(bs:List jU)(G:Nat):sQ Tryz.prog 127 #[.pointer (some ⟨G,0,none⟩)] CJ (sP (eZ bs)) (λW=>W.heap[G]? =some (gH pa pn pc ba bn bc)/\iP W ba bn bs):=by
 intro l K Kx T W hK hKx hInv hT0 hTg hY h0
 refine callsIn_of_wp Tryz.func127 rfl trivial ?_ rfl
 simp only[Tryz.ntmps127,bL,aN,aV,Nat.reduceAdd,Nat.reduceSub,bC,bD,bM,bG,bH,bJ]
 have HY:=ac hY
 have HI:=ac hInv
 have HK0:=ac hK
 have HT0:=ac hT0
 have HTG:=ac hTg
 have H0:Hid (K (gV (eZ bs) 0) W):=h0
 have hg0:W.cell? ⟨G,1,none⟩=some (.slice ba bn bc):=cR (hInv _ _ h0).1 rfl
 have hbn:=(hInv _ _ h0).2.1.2.1
 have HLN:=ac (hInv _ _ h0).2.1.1
 clear hY hInv hK hKx h0 hT0 hTg
 gi_wp2
 gi_loopw [3,4,5,6,10] (λ_ _ _ _ i wr=>∃k:Nat,i=.int .i64 k/\k<=bn/\Hid (K (gV (eZ bs) k) wr)) (λ_ _ _ _ i _=>bn-(intOf i).toNat)
 case atStart=>exact⟨0,rfl,by omega,H0.out⟩
 case round=>
  obtain⟨k,rfl,hk,HK⟩:=hrel;clear hg0;by_cases hlt:k<bn
  .obtain⟨x,b,o,hbx,hxo,rfl,c0,c1,c2,c3,c4⟩:=(HI.out _ _ HK.out).2.cells hlt;have htd:=UM bs k x hbx;have HES:Hid (gV (eZ bs) k=qW k 0 (toD x.t)++gV (eZ bs) (k+1)):=by
    rw[Hid,FY _ _ (by rw[kQ,HLN.out];exact hlt),sX,htd]
   have HXO:=ac hxo;have hlt':(k:Int)<(bn:Int):=by omega
   clear hbx htd hxo
   gi_wp2_with (
    (gi_at_call 109
     refine(br.2 (zW x.t _ HXO.out)).mono ?_;rintro e w2 ⟨v,rfl,ho,hb⟩;obtain⟨va,vc,rfl⟩:=ho.form;have hbw:=eA (eD wr (kP x)) hb;have HV:=ac ho.ints;have HK2:=ac (HK0.out _ _ _ HK.out hbw)
     have HNT:Hid (∀q o,va=some ⟨q,o,none⟩->¬T w2 q):=(λq o e ht=>by
      have h1:=HT0.out _ _ _ HK.out (HTG.out _ _ _ _ HK.out hbw ht);have h2:=(ho.1.lt q (by rw[e];rfl)).1;simp at h2
      omega)
     clear ho hb hbw))
   obtain⟨wo,rfl⟩:∃wo:World,wo=wr:=⟨_,rfl⟩
   gi_loopw [5,6,19] (λ_ _ i wi=>∃j:Nat,i=.int .i64 j/\j<=(toD x.t).length/\Hid (K (qW k j ((toD x.t).drop j)++gV (eZ bs) (k+1)) wi)/\Hid (fR wi va (toD x.t).length (toD x.t))/\Hid (∀q o,va=some ⟨q,o,none⟩->¬T wi q)) (λ_ _ i _=>(toD x.t).length-(intOf i).toNat)
   case atStart=>exact⟨0,rfl,by omega,by rw[Hid,ap,<-HES.out];exact HK2.out,HV,HNT⟩
   case round=>
    obtain⟨j,rfl,hj,HKj,HVj,HNTj⟩:=hrel;clear HK2 HV HNT;by_cases hjl:j<(toD x.t).length
    .obtain⟨b3,o3,rfl,hcy,_⟩:=HVj.out.2.2 j hjl;have HL:Hid (qW k j ((toD x.t).drop j)++gV (eZ bs) (k+1)=⟨k,j,(toD x.t).getD j 0⟩ :: (qW k (j+1) ((toD x.t).drop (j+1))++gV (eZ bs) (k+1))):=by
      rw[Hid,cw hjl];simp[qW,ax,hjl]
     have hjl':(j:Int)<((toD x.t).length:Int):=by omega
     obtain⟨fn,tmps,assign,body,hy,hR⟩:=HY.out _ ⟨k,j,(toD x.t).getD j 0⟩ wr (by rw[HL.out];rfl) HKj.out;unfold CJ at hy;have hT:nxL (qW k j ((toD x.t).drop j)++gV (eZ bs) (k+1)) ⟨k,j,(toD x.t).getD j 0⟩=qW k (j+1) ((toD x.t).drop (j+1))++gV (eZ bs) (k+1):=by rw[HL.out];rfl
     rw[hT] at hR;have HR2:=ac hR;clear hT hR;have hj2:=sS x.t;generalize (toD x.t).getD j 0=y at*
     gi_wp2
     refine HR2.out.mono ?_;rintro e W' (⟨rfl,hJ',hT'⟩|⟨rfl,hX'⟩)
     .have HKn:=ac hJ'
      have HVn:=ac (HVj.out.heap λb o e=>hT'.2.1 b (by
       obtain⟨b4,o4,e4,hc4,_⟩:=HVj.out.2.2 j hjl;rw[e4] at e;injection e with e;injection e with e _ _;subst e
       exact aF _ _ hc4) (HNTj.out b o e))
      have HNn:Hid (∀q o,some (⟨b3,o3,none⟩:Addr)=some ⟨q,o,none⟩->¬T W' q):=λq o e ht=>by
       rcases hT'.2.2 q ht with h|h
       .exact HNTj.out q o e h
       .have:=aF _ _ hcy;injection e with e;injection e with e _ _;subst e;simp at this;omega
      clear hJ' hT' hy HR2 hcy
      gi_wp2
      go_roundw
      case rel=>exact⟨j+1,by go_num,by omega,HKn,HVn,HNn⟩
      case measure=>simp[intOf];omega
     .have HX:=ac hX';clear hX' hy HR2
      gi_wp2
      exact aD (v:=.tuple #[]) (by simp[results,Tryz.results127,go_sem]) rfl ⟨⟨_,rfl⟩,Or.inr HX.out⟩
    .obtain rfl:j=(toD x.t).length:=by omega
     have HKe:Hid (K (gV (eZ bs) (k+1)) wr):=by
      have:=HKj.out;rw[List.drop_length] at this;exact this
     clear HKj HVj HNTj
     gi_wp2
     go_roundw
     case rel=>exact⟨k+1,by go_num,by omega,HKe⟩
     case measure=>simp[intOf];omega
  .obtain rfl:k=bn:=by omega
   have HE:Hid (gV (eZ bs) k= []):=GT _ _ (by rw[kQ,HLN.out];omega)
   gi_wp2
   go_end0
   exact⟨⟨_,rfl⟩,Or.inl ⟨_,HE.out,HK.out⟩⟩
end

section
open Go.RowKit
def oY:List MapEntry->Int->Option Value
 | [],_=>none
 |e :: l,k=>match e.key with
  | .int .i64 j=>if k=j then some e.val else oY l k
  |_=>oY l k
def xP(l:List MapEntry):Prop:=∀e∈l,∃k:Int,e.key=.int .i64 k
def iT(w:World)(b:Nat)(f:Int->Option Value):Prop:=
 ∃es clock,w.heap[b]? =some (.map es clock)/\xP es.toList/\∀k,oY es.toList k=f k
def upd(f:Int->Option Value)(k:Int)(v:Value):Int->Option Value:=λj=>if j=k then some v else f j
theorem uR(q:IntKind)(k:Int):∀(l:List MapEntry) (i:Nat),xP l->
  (Instr.findNow (.int q) (.int .i64 k) l i=some none/\oY l k=none)\/
  ∃j e,l[j]? =some e/\Instr.findNow (.int q) (.int .i64 k) l i=some (some (i+j,e.val))/\e.key=.int .i64 k/\oY l k=some e.val/\
   ∀v,xP (l.modify j λe=>{e with key:=.int .i64 k,val:=v})/\∀k',oY (l.modify j λe=>{e with key:=.int .i64 k,val:=v}) k'=upd (oY l) k v k':=by
 intro l
 induction l with
 |nil=>intro i _;exact Or.inl ⟨rfl,rfl⟩
 |cons e l ih=>
  intro i hk;obtain⟨j,hj⟩:=hk e (by simp);have hk':xP l:=λx hx=>hk x (by grind);by_cases h:k=j
  .subst h;refine Or.inr ⟨0,e,rfl,?_,hj,?_,λv=>⟨?_,λk'=>?_⟩⟩
   .simp[Instr.findNow,Instr.sameNow,hj]
   .simp[oY,hj]
   .intro x hx;simp at hx;rcases hx with rfl|hx
    .exact⟨k,rfl⟩
    .exact hk' x hx
   .simp only[List.modify_zero_cons,oY,upd,hj]
    split<;>rfl
  .have hb:(k==j)=false:=by simpa using h
   rcases ih (i+1) hk' with ⟨h1,h2⟩|⟨m,e',h0,h1,h2,h3,h4⟩
   .exact Or.inl ⟨by simp[Instr.findNow,Instr.sameNow,hj,hb,h1],by simp[oY,hj,h,h2]⟩
   .refine Or.inr ⟨m+1,e',by simpa using h0,?_,h2,?_,λv=>⟨?_,λk'=>?_⟩⟩
    .simp[Instr.findNow,Instr.sameNow,hj,hb,h1];omega
    .simp[oY,hj,h,h3]
    .intro x hx;simp at hx;rcases hx with rfl|hx
     .exact⟨j,hj⟩
     .exact(h4 v).1 x hx
    .have:=(h4 v).2 k';simp only[List.modify_succ_cons,oY,upd,hj] at this|-;rw[this];by_cases e1:k'=j
     .subst e1;simp[Ne.symm h]
     .simp[e1]
theorem SL(l:List MapEntry)(k:Int)(v:Value)(b:Nat)(k':Int)(hn:oY l k=none)(hk:xP l):
  oY (l++ [{key:=.int .i64 k,val:=v,born:=b}]) k'=upd (oY l) k v k':=by
 induction l with
 |nil=>rfl
 |cons e l ih=>
  obtain⟨j,hj⟩:=hk e (by simp);simp only[oY,hj] at hn
  split at hn
  .grind
  .have:=ih hn (λx hx=>hk x (by grind));simp only[bJ,oY,hj,upd] at this|-
   grind
section
variable {P:Program} {t kt et:TypeId} {w:World} {b:Nat} {f:Int->Option Value}
theorem iT.lt(h:iT w b f):b<w.heap.size:=by obtain⟨es,c,hb,_⟩:=h;grind
theorem iT.made(w:World):iT (w.alloc (.map #[] 0)) w.heap.size (λ_=>none):=
 ⟨#[],0,du w _,by intro e he;grind,λk=>rfl⟩
theorem iT.of_block{w':World}(h:iT w b f)(hb:w'.heap[b]? =w.heap[b]?):iT w' b f:=by
 obtain⟨es,c,h1,h2⟩:=h;exact⟨es,c,hb.trans h1,h2⟩
theorem iT.ext{w':World}(h:iT w b f)(hb:Below w.heap.size w w'):iT w' b f:=h.of_block (hb.block b h.lt)
theorem iT.grown{w':World}{row:Option Nat}(h:iT w b f)(hg:w.grownBy w' row)(hne:some b≠row):iT w' b f:=h.of_block (hg.block b h.lt hne)
theorem iT.setCell(h:iT w b f)(p:Addr)(v:Value):iT (w.setCell p v) b f:=by
 obtain⟨es,c,h1,h2⟩:=h
 refine⟨es,c,?_,h2⟩
 by_cases e:b=p.block
 .subst e;show(w.heap.modify p.block _)[p.block]? =_
  grind
 grind[Below.heap_setCell]
theorem eI.imap(B b:Nat)(f:Int->Option Value):eI B (λW=>iT W b f):=λW W' row h hg hr=>by
 obtain⟨es,c,h1,h2⟩:=h
 exact⟨es,c,tG h1 rfl hg hr,h2⟩
theorem jD(hk:P.underlying kt=some (.int .i64))(em:Bool)(k:Int)(w:World):(Instr.checkKey em 10000 kt (.int .i64 k)).run P w=.ok () w:=by
 have:∀n,(Instr.checkKey em (n+1) kt (.int .i64 k)).run P w=.ok () w:=λn=>by simp[Instr.checkKey,aZ hk]
 grind
theorem LK(k:Int):Instr.sameBits 10000 (.int .i64 k) (.int .i64 k)=true:=by
 have:∀n,Instr.sameBits n (.int .i64 k) (.int .i64 k)=true:=λn=>by cases n<;>simp[Instr.sameBits]
 grind
theorem jQ(hk:P.underlying kt=some (.int .i64))(k:Int)(l:List MapEntry)(r:Option (Nat×Value))(w:World)(h:Instr.findNow (.int .i64) (.int .i64 k) l 0=some r):
  (Instr.findKey kt (.int .i64 k) l).run P w=.ok r w:=by
 simp[Instr.findKey,aZ hk,h]
theorem iT.look(h:iT w b f)(ht:P.underlying t=some (.map kt et))(hk:P.underlying kt=some (.int .i64)){z:Value}(hz:(zeroValue et).run P w=.ok z w)(k:Int):
  (Instr.lookup t (.map (some b)) (.int .i64 k) false).run P w=.ok ((f k).getD z) w:=by
 obtain⟨es,c,hb,hi,hf⟩:=h
 have hgo:(getObj b).run P w=.ok (.map es c) w:=by simp[getObj,Sem.run,hb]
 rcases uR .i64 k es.toList 0 hi with ⟨h1,h2⟩|⟨j,e,_,h1,_,h2,_⟩
 .rw[hf] at h2;simp[Instr.lookup,aZ ht,bu,hgo,jD hk,jQ hk k _ _ w h1,hz,h2,Result.andThen]
 .rw[hf] at h2;simp[Instr.lookup,aZ ht,bu,hgo,jD hk,jQ hk k _ _ w h1,h2,Result.andThen]
theorem iT.look_ok(h:iT w b f)(ht:P.underlying t=some (.map kt et))(hk:P.underlying kt=some (.int .i64)){z:Value}(hz:(zeroValue et).run P w=.ok z w)(k:Int):
  (Instr.lookup t (.map (some b)) (.int .i64 k) true).run P w=.ok (.tuple #[(f k).getD z,.bool (f k).isSome]) w:=by
 obtain⟨es,c,hb,hi,hf⟩:=h
 have hgo:(getObj b).run P w=.ok (.map es c) w:=by simp[getObj,Sem.run,hb]
 rcases uR .i64 k es.toList 0 hi with ⟨h1,h2⟩|⟨j,e,_,h1,_,h2,_⟩
 .rw[hf] at h2;simp[Instr.lookup,aZ ht,bu,hgo,jD hk,jQ hk k _ _ w h1,hz,h2,Result.andThen]
 .rw[hf] at h2;simp[Instr.lookup,aZ ht,bu,hgo,jD hk,jQ hk k _ _ w h1,h2,Result.andThen]
theorem iT.put(h:iT w b f)(ht:P.underlying t=some (.map kt et))(hk:P.underlying kt=some (.int .i64))(k:Int)(v:Value):
  ∃o,(Instr.mapUpdate t (.map (some b)) (.int .i64 k) v).run P w=.ok () (w.putObj b o)/\iT (w.putObj b o) b (upd f k v):=by
 have hlt:=h.lt
 obtain⟨es,c,hb,hi,hf⟩:=h
 have hgo:(getObj b).run P w=.ok (.map es c) w:=by simp[getObj,Sem.run,hb]
 have hso:∀o,(setObj b o).run P w=.ok () (w.putObj b o):=λo=>by simp[setObj,Sem.run,hb,World.putObj]
 rcases uR .i64 k es.toList 0 hi with ⟨h1,h2⟩|⟨j,e,hj,h1,hek,h2,h3⟩
 .refine⟨.map (es.push {key:=.int .i64 k,val:=v,born:=c}) (c+1),?_,?_⟩
  .simp[Instr.mapUpdate,aZ ht,bu,hgo,jD hk,jQ hk k _ _ w h1,hso,Result.andThen]
  .refine⟨_,_,b8 hlt,?_,λk'=>?_⟩
   .intro x hx;simp at hx;rcases hx with hx|rfl
    .exact hi x (by grind)
    simp
   grind[SL,upd]
 .refine⟨.map (es.modify (0+j) λe=>{e with key:=.int .i64 k,val:=v}) c,?_,?_⟩
  .simp[Instr.mapUpdate,aZ ht,bu,hgo,jD hk,jQ hk k _ _ w h1,hso,Result.andThen,Instr.keyThatStays]
   grind[LK]
  .refine⟨_,_,b8 hlt,?_,λk'=>?_⟩
   .simp_all
   simp_all[upd]
end
end

section
open Go.RowKit
def zR(l:List eW):Nat:=(l.map λt=>t.blocks.length).sum
theorem fx(l:List eW):∀m,((l.take m).map λt=>t.blocks.length).sum<=zR l:=by
 induction l with
 |nil=>simp
 |cons t l ih=>
  intro m;cases m with
  |zero=>simp
  |succ m=>grind[zR]
theorem VH(l:List eW)(k:Nat):(lS l k).length<=zR l:=by
 induction l generalizing k with
 |nil=>grind
 |cons t l ih=>
  cases k with
  |zero=>simp[zR,lS]
  |succ k=>have:=ih k;simp only[zR,cn,List.sum_cons,lS,bl] at this|-;omega
theorem gt(l:List eW)(k m:Nat)(hm:m<=l.length):(rR l k m).length<=2*zR l:=by
 have h1:∀m,m<=l.length->(((List.range m).filter λn=>n != k&&nH l k n).flatMap (lS l)).length<=((l.take m).map λt=>t.blocks.length).sum:=by
  intro m
  induction m with
  |zero=>simp
  |succ m ih=>
   intro hm;rw[cU,bE,cB,aT,bo,au (by omega),bN,List.sum_append];have e:(lS l m).length=(l[m]'(by omega)).blocks.length:=by simp[lS,ax,show m<l.length by omega]
   by_cases hc:(m != k&&nH l k m)=true
   .simp only[bK,hc,if_true,List.filter_nil,dw,List.flatMap_nil,dR,Option.toList_some,cn,cW,List.sum_cons,List.sum_nil];omega
   .have hc':(m != k&&nH l k m)=false:=by simpa using hc
    simp only[bK,hc',List.filter_nil,Option.toList_some,cn,cW,List.sum_cons,List.sum_nil];simp only[dS,if_false,List.flatMap_nil,aV];omega
 have h2:=h1 m hm
 have h3:=fx l m
 have h4:=VH l k
 rw[rR,aT]
 omega
theorem WR(l:List eW)(k:Nat):rR l k 0=lS l k:=by simp[rR]
def upB(l:List eW)(k m:Nat):Bool:=decide (0<=nB l m)&&nH l k (nB l m).toNat
theorem MY{l:List eW}(hp:fX l=true)(k:Nat)(hk:k<l.length):upB l k k=false:=by
 rw[bU]
 intro h
 simp only[upB,az,aR] at h
 have h1:=(gM l).1 hp k hk
 have:=jw hp k _ (by omega) h.2
 omega
theorem WV{l:List eW}(hp:fX l=true)(k m:Nat)(hk:k<l.length)(hm:m<l.length):rR l k (m+1)=if upB l k m then rR l k m++lS l m else rR l k m:=by
 have e:(m != k&&nH l k m)=upB l k m:=by
  by_cases h:m=k
  .grind[MY]
  .have h1:(m != k)=true:=by grind
   have h2:(m==k)=false:=by grind
   rw[h1,cJ,yH hp k m hm,h2,Bool.false_or];rfl
 grind[rR,List.range_succ]
def jG(l:List eW)(k m:Nat):Int->Option Value:=λx=>if x=k\/(0<=x/\x<m/\nH l k x.toNat=true) then some (.int .i64 1) else none
theorem QQ(l:List eW)(k:Nat):upd (λ_=>none) (k:Int) (.int .i64 1)=jG l k 0:=by
 funext x
 by_cases e:x=k
 .grind[upd,jG]
 .have:¬(0<=x/\x<((0:Nat):Int)/\nH l k x.toNat=true):=λh=>by omega
  simp_all[upd,jG]
theorem QR{l:List eW}(hp:fX l=true)(k m:Nat)(hk:k<l.length)(hm:m<l.length):jG l k (m+1)=if upB l k m then upd (jG l k m) (m:Int) (.int .i64 1) else jG l k m:=by
 funext x
 have hd:m≠k->nH l k m=upB l k m:=λh=>by
  have h2:(m==k)=false:=by grind
  rw[yH hp k m hm,h2,Bool.false_or];rfl
 by_cases e:x=m
 .by_cases hmk:m=k
  .grind[MY,jG]
  .cases hu:upB l k m with
   |true=>
    have:jG l k (m+1) (m:Int)=some (.int .i64 1):=by
     unfold jG
     grind
    grind[upd]
   |false=>
    simp_all[jG]
 .have h1:jG l k (m+1) x=jG l k m x:=by
   unfold jG
   grind
  grind[upd]
theorem TZ{l:List eW}(hp:fX l=true)(k m:Nat)(hm:m<l.length):(decide (0<=nB l m)&&(jG l k m (nB l m)).isSome)=upB l k m:=by
 have h1:=(gM l).1 hp m hm
 unfold upB
 by_cases h0:0<=nB l m
 .unfold jG;by_cases hd:nH l k (nB l m).toNat=true
  .grind
  .rw[aC]
   .grind
   grind[Int.toNat_natCast,xA]
 grind
theorem QM(d:Array Int)(hs:∀i,i+1<d.size->d[i]!<=d[i+1]!):∀m,m<=d.size->(Lib.compactUpTo d m).Pairwise (· < ·)/\(∀y,y∈Lib.compactUpTo d m↔∃j,j<m/\d[j]! =y)/\(0<m->∀y∈Lib.compactUpTo d m,y<=d[m-1]!):=by
 intro m
 induction m with
 |zero=>intro _;refine⟨by simp[Lib.compactUpTo],λy=>⟨λh=>by trivial,λ⟨j,h,_⟩=>by omega⟩,λh=>by omega⟩
 |succ m ih=>
  intro hm;obtain⟨h1,h2,h3⟩:=ih (by omega);rw[Lib.compactUpTo_succ];have hle:0<m->∀y∈Lib.compactUpTo d m,y<=d[m]!:=λh0 y hy=>by
   grind
  by_cases hk:Lib.keeps d m=true
  .rw[aX hk];have hlt:∀y∈Lib.compactUpTo d m,y<d[m]!:=λy hy=>by
    have h0:0<m:=by
     rcases Nat.eq_zero_or_pos m with e|e
     .subst e;simp[Lib.compactUpTo] at hy
     .exact e
    simp only[Lib.keeps,aR] at hk;have hk:=hk.resolve_left (by omega);have:=h3 h0 y hy;have h4:=hs (m-1) (by omega);rw[show m-1+1=m by omega] at h4;omega
   refine⟨?_,λy=>?_,λ_ y hy=>?_⟩
   .rw[List.pairwise_append];exact⟨h1,by simp,λy hy z hz=>by simp at hz;subst hz;exact hlt y hy⟩
   .rw[bh,h2];constructor
    .rintro(⟨j,hj,e⟩|h)
     .exact⟨j,by omega,e⟩
     .simp at h;exact⟨m,by omega,h.symm⟩
    .rintro⟨j,hj,e⟩;by_cases hjm:j=m
     .subst hjm;exact .inr (by simp[e])
     .exact .inl ⟨j,by omega,e⟩
   .rcases bh.1 hy with hy|hy
    .have:=hlt y hy;simp;omega
    .simp at hy;subst hy;simp
  .rw[aC hk,dR];have hk':m≠0/\d[m]! =d[m-1]!:=by
    simp only[Lib.keeps,aR,not_or] at hk;exact⟨hk.1,Classical.not_not.1 hk.2⟩
   refine⟨h1,λy=>?_,λ_ y hy=>by have:=hle (by omega) y hy;simpa using this⟩;rw[h2];constructor
   .rintro⟨j,hj,e⟩;exact⟨j,by omega,e⟩
   .rintro⟨j,hj,e⟩;by_cases hjm:j=m
    .subst hjm;exact⟨j-1,by omega,by rw[<-hk'.2,e]⟩
    .exact⟨j,by omega,e⟩
theorem ME(xs:List Int):Lib.compact (xs.mergeSort λx y=>decide (x<=y))=DG xs:=by
 have hp:=List.mergeSort_perm xs λx y=>decide (x<=y)
 have hso:=List.pairwise_mergeSort (le:=λx y:Int=>decide (x<=y)) (λa b c h1 h2=>by grind) (λa b=>by grind) xs
 generalize xs.mergeSort (λx y=>decide (x<=y))=ys at*
 have hs:∀i,i+1<ys.toArray.size->ys.toArray[i]!<=ys.toArray[i+1]!:=λi hi=>by
  grind[List.pairwise_iff_getElem]
 have h:=QM ys.toArray hs ys.length (by simp)
 refine WD _ _ h.1 (LI xs) λy=>?_
 rw[IZ,<-hp.mem_iff]
 show y∈Lib.compactUpTo ys.toArray ys.length↔_
 rw[h.2.1]
 constructor
 .rintro⟨j,hj,rfl⟩;simp[hj]
 .intro hy;obtain⟨j,hj,e⟩:=a8.1 hy;exact⟨j,hj,by simp[hj,e]⟩
end

section
open Go.RowKit
theorem ey(w:World):(zeroValue 3).run Tryz.prog w=.ok (.int .i64 0) w:=by kernel_rfl
def nr(w:World)(ls:List lI)(k m M:Nat)(v:Value)(wr:World):Prop:=
 iT wr M (jG (eM ls) k m)/\fQ wr (M+1) v (rR (eM ls) k m)/\Below w.heap.size w wr/\w.heap.size<=M/\M<wr.heap.size
theorem mx(a:Option Addr)(n c:Nat)(ls:List lI)(k:Int)(w:World)(h:jW w a n ls)(hk:I64 k)(hT:zR (eM ls)<=1000000):
  Calls Tryz.prog 168 #[.slice a n c,.int .i64 k] w (mG w (xH (eM ls) k)):=by
 have hn:=h.1.2.1
 have HL:=ac h.1.1
 have H:=ac h
 obtain⟨hk1,hk2⟩:=hk
 clear h
 by_cases hr:0<=k/\k<n
 rotate_left
 .have HE:Hid (xH (eM ls) k= []):=by
   rw[Hid,xH,aC];rw[iV,HL.out];exact λh=>hr ⟨h.1,h.2.1⟩
  by_cases h0:k<0
  all_goals
   go_enter Tryz.func168,Tryz.ntmps168
   go_wp2
   go_ret
   rw[HE.out];exact⟨_,rfl,fQ.nil _ _,ao _ _⟩
 obtain⟨hr1,hr2⟩:=hr
 have hr3:¬k<0:=by omega
 obtain⟨kn,rfl⟩:∃kn:Nat,k=(kn:Int):=⟨k.toNat,by omega⟩
 by_cases hp:fX (eM ls)=true
 rotate_left
 .have HE:Hid (xH (eM ls) (kn:Int)= []):=by
   rw[Hid,xH,aC];exact λh=>hp h.2.2
  have hp':fX (eM ls)=false:=by simpa using hp
  have HP:=ac hp';clear hp hp'
  go_enter Tryz.func168,Tryz.ntmps168
  go_wp2_with (go_at_call 163;refine(rD a n c ls w H.out).mono ?_;rintro e w1 ⟨rfl,hb⟩;rw[HP.out];have HB:=ac hb;clear hb)
  go_ret
  rw[HE.out];exact⟨_,rfl,fQ.nil _ _,HB.out⟩
 have HP:=ac hp
 have hkl:kn<ls.length:=by rw[HL.out];omega
 have HEA:Hid (xH (eM ls) (kn:Int)=DG (rR (eM ls) kn (eM ls).length)):=by
  rw[Hid,xH,aX ⟨by omega,by rw[iV];omega,hp⟩,d8]
 clear hp
 have hmm:= @run_makeMap Tryz.prog
 go_enter Tryz.func168,Tryz.ntmps168
 go_upto_region 3 with (first
  |(go_at_call 163
    refine(rD a n c ls w H.out).mono ?_;rintro e w1 ⟨rfl,hb⟩;rw[HP.out];have HB:=ac hb
    clear hb))
 obtain⟨o0,hput0,hmap0⟩:=iT.put (P:=Tryz.prog) (iT.made w1) Tryz.underlying188 aP (kn:Int) (.int .i64 1)
 rw[QQ (eM ls)] at hmap0
 have HM0:=ac hmap0
 clear hmap0
 go_upto_region 4 with (fail)
 obtain⟨W,hW⟩:∃W,W=(w1.alloc (.map #[] 0)).putObj w1.heap.size o0:=⟨_,rfl⟩
 rw[<-hW]
 rw[<-hW] at HM0
 have hWB:Below w1.heap.size w1 W:=by rw[hW];exact((ao _ w1).alloc (aw _) _).grown (cG _ w1.heap.size o0) (by simp) (λk e=>by cases e;exact aw _)
 have hWs:W.heap.size=w1.heap.size+1:=by rw[hW];simp
 have HWB:=ac hWB
 have HWs:=ac hWs
 obtain⟨t,b,o,hlk,hok,rfl,c0,c1,c2⟩:=((H.out.ext HB.out).ext hWB).cells (k:=kn) (by omega)
 have HTK:Hid (lS (eM ls) kn=t.d.blocks):=by rw[Hid,lS,qX ls kn t hlk]
 have HOK:=ac hok.1
 clear hput0 hmm hW hWB hWs hlk hok
 go_upto_region 5 with (first
  |(go_at_call 88
    refine(rP t.ba t.bn t.bc t.d.blocks W HOK.out).mono ?_;rintro e w2 ⟨v,rfl,ho,hb⟩;have HO:=ac ho;have HB2:=ac hb
    clear ho hb))
 have HJ0:Hid (nr w ls kn 0 w1.heap.size v w2):=by
  refine⟨HM0.out.ext HB2.out,?_,eA (eA HB.out HWB.out) HB2.out,HB.out.size,?_⟩
  .have h1:=HO.out.mono (base':=w1.heap.size+1) (by rw[HWs.out];omega);rw[WR,HTK.out];exact h1
  .have:=HB2.out.size;rw[HWs.out] at this;omega
 generalize w1.heap.size=M at*
 clear c0 c1 c2 HOK HTK HO HB2 HM0 HWB HWs HB
 go_wp2
 go_loopg [6,33] n (λgg s6 s33 wr=>∃(m:Nat),s33=.int .i64 (m:Int)/\m<=n/\n<=gg+m/\Hid (nr w ls kn m M s6 wr))
 case atStart=>exact⟨0,rfl,Nat.zero_le _,aw _,HJ0⟩
 case round=>
  obtain⟨m,rfl,hm,hgg,HJ⟩:=hrel;clear HJ0;by_cases hlt:m<n
  .have hml:m<(eM ls).length:=by rw[iV,HL.out];exact hlt
   have hkl2:kn<(eM ls).length:=by rw[iV];exact hkl
   obtain⟨t,b2,o2,hlk,hok,e2,c0',c1',c2'⟩:=H.out.cells hlt;have c0:=eN HJ.out.2.2.1 c0';have c1:=eN HJ.out.2.2.1 c1';have c2:=eN HJ.out.2.2.1 c2';clear c0' c1' c2';injection e2 with e2;injection e2 with e2 e3;subst e2 e3;have htd:=qX ls m t hlk;have HTP:Hid (nB (eM ls) m=t.d.parent):=by rw[Hid,nB,htd]
   have HTB:Hid (lS (eM ls) m=t.d.blocks):=by rw[Hid,lS,htd]
   have HRS:=ac (WV HP.out kn m hkl2 hml);have HBS:=ac (QR HP.out kn m hkl2 hml);have HBP:=ac (TZ HP.out kn m hml);have HRL:=ac (gt (eM ls) kn m (by omega));have HOK:=ac hok.1;have hp1:=hok.2.2.2.1;have hp2:=hok.2.2.2.2;have hbl:t.d.blocks.length=t.bn:=hok.1.1;have hble:=VH (eM ls) m;rw[HTB.out,hbl] at hble;have HBL:=ac hbl;clear hlk htd hok hbl;go_upto_region 8 with (fail)
   obtain⟨W1,hW1⟩:∃W1,W1=wr.alloc (AX t):=⟨_,rfl⟩
   rw[<-hW1];have hB1:Below wr.heap.size wr W1:=by rw[hW1];exact eD _ _
   have hx1:W1.heap[wr.heap.size]? =some (AX t):=by rw[hW1,ai]
   obtain⟨-,d1,d2⟩:=tY hx1 rfl;have HIM:=ac (HJ.out.1.ext hB1);have HO:=ac (HJ.out.2.1.ext hB1);have HBW:=ac (eA HJ.out.2.2.1 hB1);have hMs:M<W1.heap.size:=by have:=HJ.out.2.2.2.2;have:=hB1.size;omega
   have hwM:=HJ.out.2.2.2.1;have hqM:M<wr.heap.size:=HJ.out.2.2.2.2;have hlk:=iT.look (w:=W1) (P:=Tryz.prog) HIM.out Tryz.underlying188 aP (ey _) t.d.parent;have HX1:=ac hx1;have HB1:=ac hB1;clear hW1 hx1 hB1 c0 c1 c2 HJ;generalize hq:wr.heap.size=q at *;clear hq;have HUP:Hid ((decide (0<=t.d.parent)&&(jG (eM ls) kn m t.d.parent).isSome)=upB (eM ls) kn m):=by rw[Hid,<-HTP.out];exact HBP.out
   have HLK:Hid (∀x,jG (eM ls) kn m x=none\/jG (eM ls) kn m x=some (.int .i64 1)):=λx=>by
    unfold jG;by_cases hc:x=kn\/(0<=x/\x<m/\nH (eM ls) kn x.toNat=true)
    .exact .inr (aX hc)
    .exact .inl (aC hc)
   cases hu:upB (eM ls) kn m with
   |false=>
    have HN:Hid (nr w ls kn (m+1) M u6 W1):=by
     refine⟨?_,?_,HBW.out,hwM,hMs⟩
     .rw[HBS.out,hu];exact HIM.out
     .rw[HRS.out,hu];exact HO.out
    have hu2:=HUP.out;rw[hu] at hu2;by_cases h0:0<=t.d.parent
    .have hno:jG (eM ls) kn m t.d.parent=none:=by
      rcases HLK.out t.d.parent with e|e
      .exact e
      .rw[e,dm h0] at hu2;cases hu2
     rw[hno] at hlk;simp only[Option.getD_none] at hlk;clear hu2 hu hno;go_wp2
     go_roundg (n-(m+1))
     case measure=>omega
     case rel=>exact⟨m+1,by go_num,by omega,by omega,HN⟩
    .clear hu2 hu hlk;go_wp2
     go_roundg (n-(m+1))
     case measure=>omega
     case rel=>exact⟨m+1,by go_num,by omega,by omega,HN⟩
   |true=>
    have hu2:=HUP.out;rw[hu] at hu2;have h0:0<=t.d.parent:=by
     by_cases h0:0<=t.d.parent
     .exact h0
     .rw[dd h0] at hu2;cases hu2
    have hyes:jG (eM ls) kn m t.d.parent=some (.int .i64 1):=by
     rcases HLK.out t.d.parent with e|e
     .rw[e,dm h0] at hu2;cases hu2
     .exact e
    rw[hyes] at hlk;simp only[dA] at hlk;obtain⟨o1,hput1,hmap1⟩:=iT.put (P:=Tryz.prog) HIM.out Tryz.underlying188 aP (m:Int) (.int .i64 1);have hgp:=cG W1 M o1;have HIM2:Hid (iT (W1.putObj M o1) M (jG (eM ls) kn (m+1))):=by rw[Hid,HBS.out,hu];exact hmap1
    have HR2:Hid (rR (eM ls) kn (m+1)=rR (eM ls) kn m++t.d.blocks):=by rw[Hid,HRS.out,hu,<-HTB.out];rfl
    have hlow:∀r,u6.ownBlock=some r->M+1<=r:=λr e=>(HO.out.1.lt r e).1
    have HO2:=ac (HO.out.kept hgp (by
     cases e:u6.ownBlock with
     |none=>exact .inl rfl
     |some r=>exact .inr λe2=>by injection e2 with e2;have:=hlow r e;omega))
    have HBW2:=ac (HBW.out.grown hgp (by omega) (λr e=>by cases e;exact hwM));have hx2:(W1.putObj M o1).heap[q]? =some (AX t):=(bk (by omega)).trans HX1.out;have d3:=cK 2 hx2 rfl;have HI2:Hid (fR (W1.putObj M o1) t.ba t.bn t.d.blocks):=HOK.out.ext HBW2.out;have hsz2:(W1.putObj M o1).heap.size=W1.heap.size:=by simp
    obtain⟨av,cv,hv⟩:=HO.out.form;have hrl:=HRL.out;have hh:=HO.out.2.1;clear hu2 hu hyes hmap1 hgp hx2;have HHH:=ac hh;clear hh
    go_wp2_with (
     (at_builtin
      refine qN (W1.putObj M o1) rfl (.tmp 50) (.tmp 52) 22 3 rfl (M+1) _ 1 8 aQ tP rfl (by omega) u6 (rR (eM ls) kn m).length _ rfl HO2.out.1 t.ba t.bn t.bc rfl (eU t.d.blocks) (by rw[BT,HBL.out,dK]) HI2.out.news (BS _) (by simp only[maxLen];omega) (by omega) (by simp;omega) ?_;intro v3 w3 ho3 hg3 hv3;have HO3:=ac ho3;have HG3:=ac hg3
      clear ho3 hg3 hv3))
    go_roundg (n-(m+1))
    case measure=>omega
    case rel=>
     refine⟨m+1,by go_num,by omega,by omega,HIM2.out.grown HG3.out (λe=>by have:=hlow M e.symm;omega),?_,HBW2.out.grown HG3.out (by rw[hsz2];omega) (λr e=>by have:=hlow r e;omega),hwM,by have:=HG3.out.size;rw[hsz2] at this;omega⟩;rw[HR2.out];refine⟨?_,?_,by rw[aT,HBL.out];omega⟩
     .have e3:(rR (eM ls) kn m++t.d.blocks).length=(rR (eM ls) kn m).length+t.bn:=by rw[aT,HBL.out]
      have e4:eU (rR (eM ls) kn m++t.d.blocks)=eU (rR (eM ls) kn m)++eU t.d.blocks:=by simp[eU]
      rw[e3,e4];exact HO3.out
     .intro z hz;rcases bh.1 hz with hz|hz
      .exact HHH.out z hz
      .exact HOK.out.mem z hz
  .obtain rfl:m=n:=by omega
   have HJ1:=HJ.out.2.1;have HJ2:=ac HJ.out.2.2;have HO:=ac HJ1;clear HJ1 HJ
   go_wp2_with (first
    |(go_at_call 176
      refine(MF _ _ _ w4 HO4.out).mono ?_;rintro e w5 ⟨v5,rfl,ho,hg⟩;have HO5:=ac ho;have HG5:=ac hg
      clear ho hg)
    |(go_at_call 175
      refine(WE _ _ _ wr HO.out).mono ?_;rintro e w4 ⟨rfl,ho,hg⟩;have HO4:=ac ho;have HG4:=ac hg
      clear ho hg))
   go_ret
   have e1:(eM ls).length=m:=by rw[iV,HL.out]
   rw[HEA.out,e1,<-ME];have hlow:∀r,u6.ownBlock=some r->M+1<=r:=λr e=>(HO.out.1.lt r e).1;have hs4:=HG4.out.size;refine⟨_,rfl,HO5.out.mono (by have:=HJ2.out.2.1;omega),(HJ2.out.1.grown HG4.out HJ2.out.1.size (λr e=>by have:=hlow r e;have:=HJ2.out.2.1;omega)).grown HG5.out (by have:=HJ2.out.1.size;omega) (λr e=>by have:=hlow r e;have:=HJ2.out.2.1;omega)⟩
end
end Go.Proofs.YtchdkjenhppleaaGreat
