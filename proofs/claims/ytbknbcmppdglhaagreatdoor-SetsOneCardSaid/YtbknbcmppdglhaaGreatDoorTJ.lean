/-
 Maps whose keys are ints,as functions. No program in sight.
-/
import Derived.Test.YtbknbcmppdglhaaGreatDoorA0
import Derived.Test.YtbknbcmppdglhaaGreatDoorOwnR
import Derived.Test.YtbknbcmppdglhaaGreatDoorTK
import Derived.Deep.LoopGhost
import Derived.Shelf.Small.Wraps
import Derived.Shelf.Sort.Plain
import Derived.Shelf.Bits.Mul64
import Derived.Shelf.Slices.Reverse
import Derived.Ground.Names2Prog
import Derived.Shelf.Slices.Clone
import Derived.Shelf.Slices.CompactI
import Derived.Shelf.Slices.In.SortNone
import Derived.Shelf.SlicesE.Reverse
import Derived.Test.YtbknbcmppdglhaaGreatDoorProg
import Derived.Test.YtbknbcmppdglhaaGreatDoorTH
import Derived.Deep.OwnRows
import Derived.Laws.CopyOwn
import Derived.Deep.DeepCutAuto
import Derived.Test.YtbknbcmppdglhaaGreatDoorER
namespace Go.Proofs.YtbknbcmppdglhaaGreatDoor
set_option linter.unusedSimpArgs false
set_option linter.unusedVariables false
set_option linter.unusedSectionVars false
set_option maxRecDepth 100000
set_option maxHeartbeats 40000000
section
open Go.RowKit
def sR:List MapEntry->Int->Option Value
 | [],_=>none
 |e :: l,k=>match e.key with
  | .int .i64 j=>if k=j then some e.val else sR l k
  |_=>sR l k
def CT(l:List MapEntry):Prop:=∀e∈l,∃k:Int,e.key=.int .i64 k
def oC(w:World)(b:Nat)(f:Int->Option Value):Prop:=
 ∃es clock,w.heap[b]? =some (.map es clock)/\CT es.toList/\∀k,sR es.toList k=f k
def upd(f:Int->Option Value)(k:Int)(v:Value):Int->Option Value:=λj=>if j=k then some v else f j
theorem GQ(q:IntKind)(k:Int):∀(l:List MapEntry) (i:Nat),CT l->
  (Instr.findNow (.int q) (.int .i64 k) l i=some none/\sR l k=none)\/
  ∃j e,l[j]? =some e/\Instr.findNow (.int q) (.int .i64 k) l i=some (some (i+j,e.val))/\e.key=.int .i64 k/\sR l k=some e.val/\
   ∀v,CT (l.modify j λe=>{e with key:=.int .i64 k,val:=v})/\∀k',sR (l.modify j λe=>{e with key:=.int .i64 k,val:=v}) k'=upd (sR l) k v k':=by
 intro l
 induction l with
 |nil=>intro i _;exact Or.inl ⟨rfl,rfl⟩
 |cons e l ih=>
  intro i hk;obtain⟨j,hj⟩:=hk e (by simp);have hk':CT l:=λx hx=>hk x (by grind);by_cases h:k=j
  .subst h;refine Or.inr ⟨0,e,rfl,?_,hj,?_,λv=>⟨?_,λk'=>?_⟩⟩
   .simp[Instr.findNow,Instr.sameNow,hj]
   .simp[sR,hj]
   .intro x hx;simp at hx;rcases hx with rfl|hx
    .exact⟨k,rfl⟩
    .exact hk' x hx
   .simp only[List.modify_zero_cons,sR,upd,hj]
    split<;>rfl
  .have hb:(k==j)=false:=by simpa using h
   rcases ih (i+1) hk' with ⟨h1,h2⟩|⟨m,e',h0,h1,h2,h3,h4⟩
   .exact Or.inl ⟨by simp[Instr.findNow,Instr.sameNow,hj,hb,h1],by simp[sR,hj,h,h2]⟩
   .refine Or.inr ⟨m+1,e',by simpa using h0,?_,h2,?_,λv=>⟨?_,λk'=>?_⟩⟩
    .simp[Instr.findNow,Instr.sameNow,hj,hb,h1];omega
    .simp[sR,hj,h,h3]
    .intro x hx;simp at hx;rcases hx with rfl|hx
     .exact⟨j,hj⟩
     .exact(h4 v).1 x hx
    .have:=(h4 v).2 k';simp only[List.modify_succ_cons,sR,upd,hj] at this|-;rw[this];by_cases e1:k'=j
     .subst e1;simp[Ne.symm h]
     .simp[e1]
theorem gx(l:List MapEntry)(k:Int)(v:Value)(b:Nat)(k':Int)(hn:sR l k=none)(hk:CT l):
  sR (l++ [{key:=.int .i64 k,val:=v,born:=b}]) k'=upd (sR l) k v k':=by
 induction l with
 |nil=>rfl
 |cons e l ih=>
  obtain⟨j,hj⟩:=hk e (by simp);simp only[sR,hj] at hn
  split at hn
  .grind
  .have:=ih hn (λx hx=>hk x (by grind));simp only[bU,sR,hj,upd] at this|-
   grind
section
variable {P:Program} {t kt et:TypeId} {w:World} {b:Nat} {f:Int->Option Value}
theorem oC.lt(h:oC w b f):b<w.heap.size:=by obtain⟨es,c,hb,_⟩:=h;grind
theorem oC.made(w:World):oC (w.alloc (.map #[] 0)) w.heap.size (λ_=>none):=
 ⟨#[],0,dO w _,by intro e he;grind,λk=>rfl⟩
theorem oC.of_block{w':World}(h:oC w b f)(hb:w'.heap[b]? =w.heap[b]?):oC w' b f:=by
 obtain⟨es,c,h1,h2⟩:=h;exact⟨es,c,hb.trans h1,h2⟩
theorem oC.ext{w':World}(h:oC w b f)(hb:Below w.heap.size w w'):oC w' b f:=h.of_block (hb.block b h.lt)
theorem oC.grown{w':World}{row:Option Nat}(h:oC w b f)(hg:w.grownBy w' row)(hne:some b≠row):oC w' b f:=h.of_block (hg.block b h.lt hne)
theorem oC.setCell(h:oC w b f)(p:Addr)(v:Value):oC (w.setCell p v) b f:=by
 obtain⟨es,c,h1,h2⟩:=h
 refine⟨es,c,?_,h2⟩
 by_cases e:b=p.block
 .subst e;show(w.heap.modify p.block _)[p.block]? =_
  grind
 grind[Below.heap_setCell]
theorem pP(hk:P.underlying kt=some (.int .i64))(em:Bool)(k:Int)(w:World):(Instr.checkKey em 10000 kt (.int .i64 k)).run P w=.ok () w:=by
 have:∀n,(Instr.checkKey em (n+1) kt (.int .i64 k)).run P w=.ok () w:=λn=>by simp[Instr.checkKey,bT hk]
 grind
theorem RY(k:Int):Instr.sameBits 10000 (.int .i64 k) (.int .i64 k)=true:=by
 have:∀n,Instr.sameBits n (.int .i64 k) (.int .i64 k)=true:=λn=>by cases n<;>simp[Instr.sameBits]
 grind
theorem qE(hk:P.underlying kt=some (.int .i64))(k:Int)(l:List MapEntry)(r:Option (Nat×Value))(w:World)(h:Instr.findNow (.int .i64) (.int .i64 k) l 0=some r):
  (Instr.findKey kt (.int .i64 k) l).run P w=.ok r w:=by
 simp[Instr.findKey,bT hk,h]
theorem oC.look(h:oC w b f)(ht:P.underlying t=some (.map kt et))(hk:P.underlying kt=some (.int .i64)){z:Value}(hz:(zeroValue et).run P w=.ok z w)(k:Int):
  (Instr.lookup t (.map (some b)) (.int .i64 k) false).run P w=.ok ((f k).getD z) w:=by
 obtain⟨es,c,hb,hi,hf⟩:=h
 have hgo:(getObj b).run P w=.ok (.map es c) w:=by simp[getObj,Sem.run,hb]
 rcases GQ .i64 k es.toList 0 hi with ⟨h1,h2⟩|⟨j,e,_,h1,_,h2,_⟩
 .rw[hf] at h2;simp[Instr.lookup,bT ht,b7,hgo,pP hk,qE hk k _ _ w h1,hz,h2,Result.andThen]
 .rw[hf] at h2;simp[Instr.lookup,bT ht,b7,hgo,pP hk,qE hk k _ _ w h1,h2,Result.andThen]
theorem oC.put(h:oC w b f)(ht:P.underlying t=some (.map kt et))(hk:P.underlying kt=some (.int .i64))(k:Int)(v:Value):
  ∃o,(Instr.mapUpdate t (.map (some b)) (.int .i64 k) v).run P w=.ok () (w.putObj b o)/\oC (w.putObj b o) b (upd f k v):=by
 have hlt:=h.lt
 obtain⟨es,c,hb,hi,hf⟩:=h
 have hgo:(getObj b).run P w=.ok (.map es c) w:=by simp[getObj,Sem.run,hb]
 have hso:∀o,(setObj b o).run P w=.ok () (w.putObj b o):=λo=>by simp[setObj,Sem.run,hb,World.putObj]
 rcases GQ .i64 k es.toList 0 hi with ⟨h1,h2⟩|⟨j,e,hj,h1,hek,h2,h3⟩
 .refine⟨.map (es.push {key:=.int .i64 k,val:=v,born:=c}) (c+1),?_,?_⟩
  .simp[Instr.mapUpdate,bT ht,b7,hgo,pP hk,qE hk k _ _ w h1,hso,Result.andThen]
  .refine⟨_,_,dc hlt,?_,λk'=>?_⟩
   .intro x hx;simp at hx;rcases hx with hx|rfl
    .exact hi x (by grind)
    simp
   grind[gx,upd]
 .refine⟨.map (es.modify (0+j) λe=>{e with key:=.int .i64 k,val:=v}) c,?_,?_⟩
  .simp[Instr.mapUpdate,bT ht,b7,hgo,pP hk,qE hk k _ _ w h1,hso,Result.andThen,Instr.keyThatStays]
   grind[RY]
  .refine⟨_,_,dc hlt,?_,λk'=>?_⟩
   .simp_all
   simp_all[upd]
end
end

section
open Go.RowKit
def qY(l:List fT):Nat:=(l.map λt=>t.blocks.length).sum
theorem t8(l:List fT):∀m,((l.take m).map λt=>t.blocks.length).sum<=qY l:=by
 induction l with
 |nil=>simp
 |cons t l ih=>
  intro m;cases m with
  |zero=>simp
  |succ m=>grind[qY]
theorem mo(l:List fT)(k:Nat):(nQ l k).length<=qY l:=by
 induction l generalizing k with
 |nil=>grind
 |cons t l ih=>
  cases k with
  |zero=>simp[qY,nQ]
  |succ k=>have:=ih k;simp only[qY,cE,List.sum_cons,nQ,bq] at this|-;omega
theorem ut(l:List fT)(k m:Nat)(hm:m<=l.length):(vX l k m).length<=2*qY l:=by
 have h1:∀m,m<=l.length->(((List.range m).filter λn=>n != k&&pQ l k n).flatMap (nQ l)).length<=((l.take m).map λt=>t.blocks.length).sum:=by
  intro m
  induction m with
  |zero=>simp
  |succ m ih=>
   intro hm;rw[cm,bB,cw,bf,bL,ah (by omega),cU,List.sum_append];have e:(nQ l m).length=(l[m]'(by omega)).blocks.length:=by simp[nQ,ak,show m<l.length by omega]
   by_cases hc:(m != k&&pQ l k m)=true
   .simp only[b6,hc,if_true,List.filter_nil,dq,List.flatMap_nil,ct,dY,cE,dB,List.sum_cons,List.sum_nil];omega
   .have hc':(m != k&&pQ l k m)=false:=by simpa using hc
    simp only[b6,hc',List.filter_nil,dY,cE,dB,List.sum_cons,List.sum_nil];simp only[Bool.false_eq_true,if_false,List.flatMap_nil,bx];omega
 have h2:=h1 m hm
 have h3:=t8 l m
 have h4:=mo l k
 rw[vX,bf]
 omega
theorem oe(l:List fT)(k:Nat):vX l k 0=nQ l k:=by simp[vX]
def upB(l:List fT)(k m:Nat):Bool:=decide (0<=oN l m)&&pQ l k (oN l m).toNat
theorem UJ{l:List fT}(hp:jE l=true)(k:Nat)(hk:k<l.length):upB l k k=false:=by
 rw[dk]
 intro h
 simp only[upB,aB,aN] at h
 have h1:=(jQ l).1 hp k hk
 have:=KK hp k _ (by omega) h.2
 omega
theorem oh{l:List fT}(hp:jE l=true)(k m:Nat)(hk:k<l.length)(hm:m<l.length):vX l k (m+1)=if upB l k m then vX l k m++nQ l m else vX l k m:=by
 have e:(m != k&&pQ l k m)=upB l k m:=by
  by_cases h:m=k
  .grind[UJ]
  .have h1:(m != k)=true:=by grind
   have h2:(m==k)=false:=by grind
   rw[h1,dg,wI hp k m hm,h2,Bool.false_or];rfl
 grind[vX,List.range_succ]
def mP(l:List fT)(k m:Nat):Int->Option Value:=λx=>if x=k\/(0<=x/\x<m/\pQ l k x.toNat=true) then some (.int .i64 1) else none
theorem YL(l:List fT)(k:Nat):upd (λ_=>none) (k:Int) (.int .i64 1)=mP l k 0:=by
 funext x
 by_cases e:x=k
 .grind[upd,mP]
 .have:¬(0<=x/\x<((0:Nat):Int)/\pQ l k x.toNat=true):=λh=>by omega
  simp_all[upd,mP]
theorem YM{l:List fT}(hp:jE l=true)(k m:Nat)(hk:k<l.length)(hm:m<l.length):mP l k (m+1)=if upB l k m then upd (mP l k m) (m:Int) (.int .i64 1) else mP l k m:=by
 funext x
 have hd:m≠k->pQ l k m=upB l k m:=λh=>by
  have h2:(m==k)=false:=by grind
  rw[wI hp k m hm,h2,Bool.false_or];rfl
 by_cases e:x=m
 .by_cases hmk:m=k
  .grind[UJ,mP]
  .cases hu:upB l k m with
   |true=>
    have:mP l k (m+1) (m:Int)=some (.int .i64 1):=by
     unfold mP
     grind
    grind[upd]
   |false=>
    simp_all[mP]
 .have h1:mP l k (m+1) x=mP l k m x:=by
   unfold mP
   grind
  grind[upd]
theorem jy{l:List fT}(hp:jE l=true)(k m:Nat)(hm:m<l.length):(decide (0<=oN l m)&&(mP l k m (oN l m)).isSome)=upB l k m:=by
 have h1:=(jQ l).1 hp m hm
 unfold upB
 by_cases h0:0<=oN l m
 .unfold mP;by_cases hd:pQ l k (oN l m).toNat=true
  .grind
  .rw[az]
   .grind
   grind[Int.toNat_natCast,xP]
 grind
theorem YG(d:Array Int)(hs:∀i,i+1<d.size->d[i]!<=d[i+1]!):∀m,m<=d.size->(Lib.compactUpTo d m).Pairwise (· < ·)/\(∀y,y∈Lib.compactUpTo d m↔∃j,j<m/\d[j]! =y)/\(0<m->∀y∈Lib.compactUpTo d m,y<=d[m-1]!):=by
 intro m
 induction m with
 |zero=>intro _;refine⟨by simp[Lib.compactUpTo],λy=>⟨λh=>by trivial,λ⟨j,h,_⟩=>by omega⟩,λh=>by omega⟩
 |succ m ih=>
  intro hm;obtain⟨h1,h2,h3⟩:=ih (by omega);rw[Lib.compactUpTo_succ];have hle:0<m->∀y∈Lib.compactUpTo d m,y<=d[m]!:=λh0 y hy=>by
   grind
  by_cases hk:Lib.keeps d m=true
  .rw[aM hk];have hlt:∀y∈Lib.compactUpTo d m,y<d[m]!:=λy hy=>by
    have h0:0<m:=by
     rcases Nat.eq_zero_or_pos m with e|e
     .subst e;simp[Lib.compactUpTo] at hy
     .exact e
    simp only[Lib.keeps,aN] at hk;have hk:=hk.resolve_left (by omega);have:=h3 h0 y hy;have h4:=hs (m-1) (by omega);rw[show m-1+1=m by omega] at h4;omega
   refine⟨?_,λy=>?_,λ_ y hy=>?_⟩
   .rw[dP];exact⟨h1,by simp,λy hy z hz=>by simp at hz;subst hz;exact hlt y hy⟩
   .rw[ax,h2];constructor
    .rintro(⟨j,hj,e⟩|h)
     .exact⟨j,by omega,e⟩
     .simp at h;exact⟨m,by omega,h.symm⟩
    .rintro⟨j,hj,e⟩;by_cases hjm:j=m
     .subst hjm;exact .inr (by simp[e])
     .exact .inl ⟨j,by omega,e⟩
   .rcases ax.1 hy with hy|hy
    .have:=hlt y hy;simp;omega
    .simp at hy;subst hy;simp
  .rw[az hk,ct];have hk':m≠0/\d[m]! =d[m-1]!:=by
    simp only[Lib.keeps,aN,not_or] at hk;exact⟨hk.1,Classical.not_not.1 hk.2⟩
   refine⟨h1,λy=>?_,λ_ y hy=>by have:=hle (by omega) y hy;simpa using this⟩;rw[h2];constructor
   .rintro⟨j,hj,e⟩;exact⟨j,by omega,e⟩
   .rintro⟨j,hj,e⟩;by_cases hjm:j=m
    .subst hjm;exact⟨j-1,by omega,by rw[<-hk'.2,e]⟩
    .exact⟨j,by omega,e⟩
theorem SY(xs:List Int):Lib.compact (xs.mergeSort λx y=>decide (x<=y))=JC xs:=by
 have hp:=eV xs λx y=>decide (x<=y)
 have hso:=List.pairwise_mergeSort (le:=λx y:Int=>decide (x<=y)) (λa b c h1 h2=>by grind) (λa b=>by grind) xs
 generalize xs.mergeSort (λx y=>decide (x<=y))=ys at*
 have hs:∀i,i+1<ys.toArray.size->ys.toArray[i]!<=ys.toArray[i+1]!:=λi hi=>by
  grind[List.pairwise_iff_getElem]
 have h:=YG ys.toArray hs ys.length (by simp)
 refine nk _ _ h.1 (RS xs) λy=>?_
 rw[OT,<-hp.mem_iff]
 show y∈Lib.compactUpTo ys.toArray ys.length↔_
 rw[h.2.1]
 constructor
 .rintro⟨j,hj,rfl⟩;simp[hj]
 .intro hy;obtain⟨j,hj,e⟩:=bj.1 hy;exact⟨j,hj,by simp[hj,e]⟩
end

section
open Go.RowKit
theorem tl(w:World):(zeroValue 3).run Tryz.prog w=.ok (.int .i64 0) w:=by kernel_rfl
def Bu(w:World)(ls:List iN)(k m M:Nat)(v:Value)(wr:World):Prop:=
 oC wr M (mP (fI ls) k m)/\gD wr (M+1) v (vX (fI ls) k m)/\Below w.heap.size w wr/\w.heap.size<=M/\M<wr.heap.size
theorem A5(a:Option Addr)(n c:Nat)(ls:List iN)(k:Int)(w:World)(h:iY w a n ls)(hk:I64 k)(hT:qY (fI ls)<=1000000):
  Calls Tryz.prog 71 #[.slice a n c,.int .i64 k] w (mT w (CH (fI ls) k)):=by
 have hn:=h.1.2.1
 have HL:=ac h.1.1
 have H:=ac h
 obtain⟨hk1,hk2⟩:=hk
 clear h
 by_cases hr:0<=k/\k<n
 rotate_left
 .have HE:Hid (CH (fI ls) k= []):=by
   rw[Hid,CH,az];rw[mC,HL.out];exact λh=>hr ⟨h.1,h.2.1⟩
  by_cases h0:k<0
  all_goals
   go_enter Tryz.func71,Tryz.ntmps71
   go_wp2
   go_ret
   rw[HE.out];exact⟨_,rfl,gD.nil _ _,ag _ _⟩
 obtain⟨hr1,hr2⟩:=hr
 have hr3:¬k<0:=by omega
 obtain⟨kn,rfl⟩:∃kn:Nat,k=(kn:Int):=⟨k.toNat,by omega⟩
 by_cases hp:jE (fI ls)=true
 rotate_left
 .have HE:Hid (CH (fI ls) (kn:Int)= []):=by
   rw[Hid,CH,az];exact λh=>hp h.2.2
  have hp':jE (fI ls)=false:=by simpa using hp
  have HP:=ac hp';clear hp hp'
  go_enter Tryz.func71,Tryz.ntmps71
  go_wp2_with (go_at_call 66;refine(vF a n c ls w H.out).mono ?_;rintro e w1 ⟨rfl,hb⟩;rw[HP.out];have HB:=ac hb;clear hb)
  go_ret
  rw[HE.out];exact⟨_,rfl,gD.nil _ _,HB.out⟩
 have HP:=ac hp
 have hkl:kn<ls.length:=by rw[HL.out];omega
 have HEA:Hid (CH (fI ls) (kn:Int)=JC (vX (fI ls) kn (fI ls).length)):=by
  rw[Hid,CH,aM ⟨by omega,by rw[mC];omega,hp⟩,dr]
 clear hp
 have hmm:= @run_makeMap Tryz.prog
 go_enter Tryz.func71,Tryz.ntmps71
 go_upto_region 3 with (first
  |(go_at_call 66
    refine(vF a n c ls w H.out).mono ?_;rintro e w1 ⟨rfl,hb⟩;rw[HP.out];have HB:=ac hb
    clear hb))
 obtain⟨o0,hput0,hmap0⟩:=oC.put (P:=Tryz.prog) (oC.made w1) Tryz.underlying76 bP (kn:Int) (.int .i64 1)
 rw[YL (fI ls)] at hmap0
 have HM0:=ac hmap0
 clear hmap0
 go_upto_region 4 with (fail)
 obtain⟨W,hW⟩:∃W,W=(w1.alloc (.map #[] 0)).putObj w1.heap.size o0:=⟨_,rfl⟩
 rw[<-hW]
 rw[<-hW] at HM0
 have hWB:Below w1.heap.size w1 W:=by rw[hW];exact((ag _ w1).alloc (aj _) _).grown (dJ _ w1.heap.size o0) (by simp) (λk e=>by cases e;exact aj _)
 have hWs:W.heap.size=w1.heap.size+1:=by rw[hW];simp
 have HWB:=ac hWB
 have HWs:=ac hWs
 obtain⟨t,b,o,hlk,hok,rfl,c0,c1,c2⟩:=((H.out.ext HB.out).ext hWB).cells (k:=kn) (by omega)
 have HTK:Hid (nQ (fI ls) kn=t.d.blocks):=by rw[Hid,nQ,tK ls kn t hlk]
 have HOK:=ac hok.1
 clear hput0 hmm hW hWB hWs hlk hok
 go_upto_region 5 with (first
  |(go_at_call 164
    refine(vV t.ba t.bn t.bc t.d.blocks W HOK.out).mono ?_;rintro e w2 ⟨v,rfl,ho,hb⟩;have HO:=ac ho;have HB2:=ac hb
    clear ho hb))
 have HJ0:Hid (Bu w ls kn 0 w1.heap.size v w2):=by
  refine⟨HM0.out.ext HB2.out,?_,fC (fC HB.out HWB.out) HB2.out,HB.out.size,?_⟩
  .have h1:=HO.out.mono (base':=w1.heap.size+1) (by rw[HWs.out];omega);rw[oe,HTK.out];exact h1
  .have:=HB2.out.size;rw[HWs.out] at this;omega
 generalize w1.heap.size=M at*
 clear c0 c1 c2 HOK HTK HO HB2 HM0 HWB HWs HB
 go_wp2
 go_loopg [6,33] n (λgg s6 s33 wr=>∃(m:Nat),s33=.int .i64 (m:Int)/\m<=n/\n<=gg+m/\Hid (Bu w ls kn m M s6 wr))
 case atStart=>exact⟨0,rfl,d9 _,aj _,HJ0⟩
 case round=>
  obtain⟨m,rfl,hm,hgg,HJ⟩:=hrel;clear HJ0;by_cases hlt:m<n
  .have hml:m<(fI ls).length:=by rw[mC,HL.out];exact hlt
   have hkl2:kn<(fI ls).length:=by rw[mC];exact hkl
   obtain⟨t,b2,o2,hlk,hok,e2,c0',c1',c2'⟩:=H.out.cells hlt;have c0:=fZ HJ.out.2.2.1 c0';have c1:=fZ HJ.out.2.2.1 c1';have c2:=fZ HJ.out.2.2.1 c2';clear c0' c1' c2';injection e2 with e2;injection e2 with e2 e3;subst e2 e3;have htd:=tK ls m t hlk;have HTP:Hid (oN (fI ls) m=t.d.parent):=by rw[Hid,oN,htd]
   have HTB:Hid (nQ (fI ls) m=t.d.blocks):=by rw[Hid,nQ,htd]
   have HRS:=ac (oh HP.out kn m hkl2 hml);have HBS:=ac (YM HP.out kn m hkl2 hml);have HBP:=ac (jy HP.out kn m hml);have HRL:=ac (ut (fI ls) kn m (by omega));have HOK:=ac hok.1;have hp1:=hok.2.2.2.1;have hp2:=hok.2.2.2.2;have hbl:t.d.blocks.length=t.bn:=hok.1.1;have hble:=mo (fI ls) m;rw[HTB.out,hbl] at hble;have HBL:=ac hbl;clear hlk htd hok hbl;go_upto_region 8 with (fail)
   obtain⟨W1,hW1⟩:∃W1,W1=wr.alloc (FP t):=⟨_,rfl⟩
   rw[<-hW1];have hB1:Below wr.heap.size wr W1:=by rw[hW1];exact fD _ _
   have hx1:W1.heap[wr.heap.size]? =some (FP t):=by rw[hW1,ae]
   obtain⟨-,d1,d2⟩:=TO hx1 rfl;have HIM:=ac (HJ.out.1.ext hB1);have HO:=ac (HJ.out.2.1.ext hB1);have HBW:=ac (fC HJ.out.2.2.1 hB1);have hMs:M<W1.heap.size:=by have:=HJ.out.2.2.2.2;have:=hB1.size;omega
   have hwM:=HJ.out.2.2.2.1;have hqM:M<wr.heap.size:=HJ.out.2.2.2.2;have hlk:=oC.look (w:=W1) (P:=Tryz.prog) HIM.out Tryz.underlying76 bP (tl _) t.d.parent;have HX1:=ac hx1;have HB1:=ac hB1;clear hW1 hx1 hB1 c0 c1 c2 HJ;generalize hq:wr.heap.size=q at *;clear hq;have HUP:Hid ((decide (0<=t.d.parent)&&(mP (fI ls) kn m t.d.parent).isSome)=upB (fI ls) kn m):=by rw[Hid,<-HTP.out];exact HBP.out
   have HLK:Hid (∀x,mP (fI ls) kn m x=none\/mP (fI ls) kn m x=some (.int .i64 1)):=λx=>by
    unfold mP;by_cases hc:x=kn\/(0<=x/\x<m/\pQ (fI ls) kn x.toNat=true)
    .exact .inr (aM hc)
    .exact .inl (az hc)
   cases hu:upB (fI ls) kn m with
   |false=>
    have HN:Hid (Bu w ls kn (m+1) M u6 W1):=by
     refine⟨?_,?_,HBW.out,hwM,hMs⟩
     .rw[HBS.out,hu];exact HIM.out
     .rw[HRS.out,hu];exact HO.out
    have hu2:=HUP.out;rw[hu] at hu2;by_cases h0:0<=t.d.parent
    .have hno:mP (fI ls) kn m t.d.parent=none:=by
      rcases HLK.out t.d.parent with e|e
      .exact e
      .rw[e,bS h0] at hu2;cases hu2
     rw[hno] at hlk;simp only[Option.getD_none] at hlk;clear hu2 hu hno;go_wp2
     go_roundg (n-(m+1))
     case measure=>omega
     case rel=>exact⟨m+1,by go_num,by omega,by omega,HN⟩
    .clear hu2 hu hlk;go_wp2
     go_roundg (n-(m+1))
     case measure=>omega
     case rel=>exact⟨m+1,by go_num,by omega,by omega,HN⟩
   |true=>
    have hu2:=HUP.out;rw[hu] at hu2;have h0:0<=t.d.parent:=by
     by_cases h0:0<=t.d.parent
     .exact h0
     .rw[dE h0] at hu2;cases hu2
    have hyes:mP (fI ls) kn m t.d.parent=some (.int .i64 1):=by
     rcases HLK.out t.d.parent with e|e
     .rw[e,bS h0] at hu2;cases hu2
     .exact e
    rw[hyes] at hlk;simp only[eB] at hlk;obtain⟨o1,hput1,hmap1⟩:=oC.put (P:=Tryz.prog) HIM.out Tryz.underlying76 bP (m:Int) (.int .i64 1);have hgp:=dJ W1 M o1;have HIM2:Hid (oC (W1.putObj M o1) M (mP (fI ls) kn (m+1))):=by rw[Hid,HBS.out,hu];exact hmap1
    have HR2:Hid (vX (fI ls) kn (m+1)=vX (fI ls) kn m++t.d.blocks):=by rw[Hid,HRS.out,hu,<-HTB.out];rfl
    have hlow:∀r,u6.ownBlock=some r->M+1<=r:=λr e=>(HO.out.1.lt r e).1
    have HO2:=ac (HO.out.kept hgp (by
     cases e:u6.ownBlock with
     |none=>exact .inl rfl
     |some r=>exact .inr λe2=>by injection e2 with e2;have:=hlow r e;omega))
    have HBW2:=ac (HBW.out.grown hgp (by omega) (λr e=>by cases e;exact hwM));have hx2:(W1.putObj M o1).heap[q]? =some (FP t):=(bo (by omega)).trans HX1.out;have d3:=cK 2 hx2 rfl;have HI2:Hid (iJ (W1.putObj M o1) t.ba t.bn t.d.blocks):=HOK.out.ext HBW2.out;have hsz2:(W1.putObj M o1).heap.size=W1.heap.size:=by simp
    obtain⟨av,cv,hv⟩:=HO.out.form;have hrl:=HRL.out;have hh:=HO.out.2.1;clear hu2 hu hyes hmap1 hgp hx2;have HHH:=ac hh;clear hh
    go_wp2_with (
     (at_builtin
      refine rO (W1.putObj M o1) rfl (.tmp 50) (.tmp 52) 22 3 rfl (M+1) _ 1 8 be pY rfl (by omega) u6 (vX (fI ls) kn m).length _ rfl HO2.out.1 t.ba t.bn t.bc rfl (fP t.d.blocks) (by rw[GL,HBL.out,fm]) HI2.out.news (zR _) (by simp only[maxLen];omega) (by omega) (by simp;omega) ?_;intro v3 w3 ho3 hg3 hv3;have HO3:=ac ho3;have HG3:=ac hg3
      clear ho3 hg3 hv3))
    go_roundg (n-(m+1))
    case measure=>omega
    case rel=>
     refine⟨m+1,by go_num,by omega,by omega,HIM2.out.grown HG3.out (λe=>by have:=hlow M e.symm;omega),?_,HBW2.out.grown HG3.out (by rw[hsz2];omega) (λr e=>by have:=hlow r e;omega),hwM,by have:=HG3.out.size;rw[hsz2] at this;omega⟩;rw[HR2.out];refine⟨?_,?_,by rw[bf,HBL.out];omega⟩
     .have e3:(vX (fI ls) kn m++t.d.blocks).length=(vX (fI ls) kn m).length+t.bn:=by rw[bf,HBL.out]
      have e4:fP (vX (fI ls) kn m++t.d.blocks)=fP (vX (fI ls) kn m)++fP t.d.blocks:=by simp[fP]
      rw[e3,e4];exact HO3.out
     .intro z hz;rcases ax.1 hz with hz|hz
      .exact HHH.out z hz
      .exact HOK.out.mem z hz
  .obtain rfl:m=n:=by omega
   have HJ1:=HJ.out.2.1;have HJ2:=ac HJ.out.2.2;have HO:=ac HJ1;clear HJ1 HJ
   go_wp2_with (first
    |(go_at_call 166
      refine(SZ _ _ _ w4 HO4.out).mono ?_;rintro e w5 ⟨v5,rfl,ho,hg⟩;have HO5:=ac ho;have HG5:=ac hg
      clear ho hg)
    |(go_at_call 165
      refine(OA _ _ _ wr HO.out).mono ?_;rintro e w4 ⟨rfl,ho,hg⟩;have HO4:=ac ho;have HG4:=ac hg
      clear ho hg))
   go_ret
   have e1:(fI ls).length=m:=by rw[mC,HL.out]
   rw[HEA.out,e1,<-SY];have hlow:∀r,u6.ownBlock=some r->M+1<=r:=λr e=>(HO.out.1.lt r e).1;have hs4:=HG4.out.size;refine⟨_,rfl,HO5.out.mono (by have:=HJ2.out.2.1;omega),(HJ2.out.1.grown HG4.out HJ2.out.1.size (λr e=>by have:=hlow r e;have:=HJ2.out.2.1;omega)).grown HG5.out (by have:=HJ2.out.1.size;omega) (λr e=>by have:=hlow r e;have:=HJ2.out.2.1;omega)⟩
end

section
open Go.Shelf
def XN:Go.Shelf.Ren:=⟨λ|212=>227|263=>253|264=>254|n=>n,λ|46=>311|51=>267|146=>342|53=>122|148=>344|n=>n,λ|n=>n⟩
theorem Ac:Go.Proofs.Lays.n212 Tryz.prog XN:={
 mixed:=by kernel_rfl
 f212:=Tryz.func227.trans (bh some (by kernel_rfl))
 f263:=Tryz.func253.trans (bh some (by kernel_rfl))
 f264:=Tryz.func254.trans (bh some (by kernel_rfl))
 t46:=Tryz.underlying311
 a46:=Tryz.isAgg311
 z46:=Tryz.sizeOf311
 v46:=Tryz.zeroValue311
 t51:=Tryz.underlying267
 a51:=Tryz.isAgg267
 z51:=Tryz.sizeOf267
 v51:=Tryz.zeroValue267
 t53:=fh
 a53:=Tryz.isAgg122
 z53:=Tryz.sizeOf122
 v53:=Tryz.zeroValue122
 t146:=Tryz.underlying342
 a146:=Tryz.isAgg342
 z146:=Tryz.sizeOf342
 v146:=Tryz.zeroValue342
 t148:=Tryz.underlying344
 a148:=Tryz.isAgg344
 z148:=Tryz.sizeOf344
 v148:=Tryz.zeroValue344}
open Go.RowKit Go.Lib in
theorem bits_Mul(x y:Nat)(hx:x<18446744073709551616)(hy:y<18446744073709551616)(w:World):
  Calls Tryz.prog 227 #[.int .u64 x,.int .u64 y] w λe w'=>e=.returned (.tuple #[.int .u64 ((x*y/18446744073709551616:Nat):Int),.int .u64 ((x*y%18446744073709551616:Nat):Int)])/\w'=w:=Any.bits_Mul Ac x y hx hy w
end

section
open Go.RowKit
theorem ve{P:Program}{o:Oper}{a:Act}{w:World}{K:Act->World->Prop}{Q:Exit->Act->World->Prop}(hgd:o.guard=none)(d s:Operand)(dT sT:TypeId)
  (ho:o.op=.call {callee:=.builtin .copy,args:=#[d,s],argTypes:=#[dT,sT]}) (elem:TypeId) (hu:P.underlying dT=some (.slice elem)) (hsz:(P.info? elem).map (·.size)=some 1)
  (dp sp:Option Addr) (dLen dCap sLen sCap:Nat) (hd:a.eval d=.slice dp dLen dCap) (hs:a.eval s=.slice sp sLen sCap)
  (g off:Nat) (cur:List Value) (t:TypeId) (hg:w.heap[g]? =some (.cells cur.toArray t (0,0))) (cs:List Value) (hn:cs.length=Nat.min sLen dLen)
  (hpos:0<cs.length->dp=some ⟨g,off,none⟩/\∃ad,sp=some ad/\∀j v,cs[j]? =some v->w.cell? (ad.add j)=some v)
  (hfit:off+cs.length<=cur.length) (h1:∀v∈cs,v.oneCell'=true) (B:Nat) (w0:World) (hb:Below B w0 w) (hBg:B<=g)
  (h:∀w',Hid (w'.heap[g]? =some (.cells (splice cur off cs).toArray t (0,0)))->Below B w0 w'->K (a.put o.dst (goInt cs.length)) w'):Oper.wp P o a w K Q:=by
 have:=step_copy_splice (P:=P) (ops:=#[]) (Q:=Q) (E:=True) hgd d s dT sT ho elem hu hsz dp sp dLen dCap sLen sCap hd hs g off cur t hg cs hn hpos hfit h1 B w0 hb hBg h
 rwa [aM (by simp[Region.wanted,hgd])] at this
def yI(x:Int)(n j:Nat):List Value:=List.replicate j (.int .i64 x)++List.replicate (n-j) (.int .i64 0)
theorem UQ(x:Int)(n j:Nat)(h:j<=n):(yI x n j).length=n:=by simp[yI];omega
theorem GD(x:Int)(n j m:Nat)(h:j+m<=n):splice (yI x n j) j (List.replicate m (.int .i64 x))=yI x n (j+m):=by
 unfold splice yI
 rw[List.take_append_of_le_length (by simp),bC (by simp),List.drop_append,eH,eH,dx (by simp),bD,List.drop_replicate,<-cd]<;>try rw[List.replicate_append_replicate,show n-j-(j+m-j)=n-(j+m) by omega]
theorem zp(x:Int)(n j i:Nat)(hi:i<j):(yI x n j)[i]? =some (.int .i64 x):=by
 unfold yI
 rw[cG (by simpa using hi)]
 simp[hi]
theorem gl(n g:Nat)(x:Int)(hx:I64 x)(h1:1<=n)(h2:n<=1000000)(w:World)(hc:w.cell? ⟨g,0,none⟩=some (.int .i64 x)):
  Calls Tryz.prog 160 #[.slice (some ⟨g,0,none⟩) 1 1,.int .i64 (n:Int)] w (mT w (List.replicate n x)):=by
 have HC:=ac hc
 clear hc
 have e1:1*n/18446744073709551616=0:=Nat.div_eq_of_lt (by omega)
 have e2:1*n%18446744073709551616=n:=by rw[Nat.one_mul];exact Nat.mod_eq_of_lt (by omega)
 have E1:=ac e1
 have E2:=ac e2
 clear e1 e2
 have hmk:=run_make_row' (P:=Tryz.prog) 22 3 (.int .i64 0) 8 be pY rfl .i64 .i64 n (by omega) (by omega) w
 go_enter Tryz.func160,Tryz.ntmps160
 go_upto_region 7 with (first
  |(go_at_call 227
    refine(bits_Mul 1 n (by omega) (by omega) w).mono ?_;rintro e w' ⟨rfl,he⟩;obtain rfl:=he.symm
    rw[E1.out,E2.out]))
 obtain⟨W,hW⟩:∃W,W=w.alloc (.cells (madeCells #[.int .i64 0] n) 3):=⟨_,rfl⟩
 rw[<-hW]
 have hg0:W.heap[w.heap.size]? =some (.cells (yI x n 0).toArray 3 (0,0)):=by
  rw[hW,ae]
  congr 2
  apply de;intro k;by_cases hk:k<n
  .simp[madeCells,yI,hk,Nat.mod_one]
  .rw[bZ (by simp[madeCells];omega),bZ (by simp[yI];omega)]
 have hB:Below w.heap.size w W:=by rw[hW];exact(ag _ w).alloc (aj _) _
 have HG0:=ac hg0
 have HB:=ac hB
 have hsz:(Tryz.prog.info? 3).map (·.size)=some 1:=by kernel_rfl
 have HSZ:=ac hsz
 have HCW:=ac (fZ hB HC.out)
 clear hW hg0 hB hmk hsz
 go_wp2_with (
  (refine wpList_copy_splice (o:=⟨some 33,_,_,_,_,_⟩) rfl (.tmp 31) (.tmp 32) 22 22 rfl 3 be HSZ.out (some ⟨w.heap.size,0,none⟩) (some ⟨g,0,none⟩) n n 1 1 rfl rfl w.heap.size 0 (yI x n 0) 3 HG0.out (List.replicate 1 (.int .i64 x)) (by simp[Nat.min_def];omega) (λ_=>⟨rfl,_,rfl,λj v hj=>by
    have hj0:j=0:=by have:=(aE.1 hj).1;simpa using this
    subst hj0;have hv:v=.int .i64 x:=by simpa using hj.symm
    subst hv;rw[rN]
    exact HCW.out⟩) (by rw[UQ _ _ _ (by omega)];simp;omega) (by intro v hv;have:=(List.mem_replicate.1 hv).2;subst this;rfl) w.heap.size w HB.out (aj _) ?_
   intro w2 hg2 hb2;have HG2:=hg2;have HB2:=ac hb2
   clear hg2 hb2))
 rw[GD _ _ _ _ (by omega),bQ] at HG2
 clear HG0 HB HCW
 go_loopg [8] n (λgg s8 wr=>∃(j:Nat),s8=.int .i64 (j:Int)/\1<=j/\j<=n/\n<=gg+j/\Hid (wr.heap[w.heap.size]? =some (.cells (yI x n j).toArray 3 (0,0)))/\Hid (Below w.heap.size w wr))
 case atStart=>exact⟨1,rfl,aj _,h1,by omega,HG2,HB2⟩
 case round=>
  obtain⟨j,rfl,hj1,hj2,hgg,HG,HB⟩:=hrel;clear HG2 HB2;by_cases hlt:j<n
  .have hm1:1<=Nat.min j (n-j):=by simp[Nat.min_def];split<;>omega
   have hm2:j+Nat.min j (n-j)<=n:=by simp[Nat.min_def];split<;>omega
   have hm3:Nat.min j (n-j)<=j:=Nat.min_le_left _ _;have hlt':(j:Int)<(n:Int):=by omega
   have hj0:(0:Int)<=(j:Int):=by omega
   go_upto_region 9 with (fail)
   refine rG (λw'=>∃q:mL (λq=>Below w.heap.size w q),w'=q.val) (by kernel_rfl) ?_;obtain⟨v0,F0,G0,hv0⟩:∃v0,Below w.heap.size w v0/\v0.heap[w.heap.size]? =some (.cells (yI x n j).toArray 3 (0,0))/\wr.drew=v0:=⟨_,zX HB.out 1,HG.out,rfl⟩
   rw[hv0];clear hv0
   haveI:Nonempty (mL (λq=>Below w.heap.size w q)):=wZ (ag _ _)
   refine gR 0 7 (by kernel_rfl) ⟨⟨_,F0⟩,rfl⟩ ?_;simp only[ap,aD,am,aw]
   repeat (go_big_quiet_step (fail))
   refine aq ?_;refine jD 7 (by kernel_rfl) ?_;refine fR rfl rfl ?_
   refine ve rfl (.tmp 41) (.tmp 44) 22 22 rfl 3 be HSZ.out (some ⟨w.heap.size,j,none⟩) (some ⟨w.heap.size,0,none⟩) (n-j) (n-j) j n rfl rfl w.heap.size j (yI x n j) 3 G0 (List.replicate (Nat.min j (n-j)) (.int .i64 x)) (by simp) (λ_=>⟨rfl,_,rfl,λi v hi=>by
    have hi0:i<Nat.min j (n-j):=by have:=(aE.1 hi).1;simpa using this
    have hv:v=.int .i64 x:=by rw[List.getElem?_replicate,aM hi0] at hi;injection hi with hi;exact hi.symm
    subst hv;rw[rN,aZ _ _ _ _ _ _ G0,bQ];have:=zp x n j i (by omega)
    simpa using this⟩) (by rw[UQ _ _ _ hj2];simpa using hm2) (by intro v hv;have:=(List.mem_replicate.1 hv).2;subst this;rfl) w.heap.size w F0 (aj _) ?_
   intro w3 hg3 hb3;rw[eH];rw[GD _ _ _ _ hm2] at hg3;generalize Nat.min j (n-j)=m at *;simp only[goInt];refine⟨Or.inr ⟨⟨_,hb3⟩,rfl⟩,?_⟩
   try simp only[Act.put,ar,aH,aF]
   refine gR 8 2 (by kernel_rfl) ⟨⟨_,hb3⟩,rfl⟩ ?_;simp only[ap,aD,am,aw]
   repeat (go_big_quiet_step (fail))
   refine aq ?_;refine oO (by kernel_rfl) ?_;clear hlt';go_wp2
   go_roundg (n-(j+m))
   case measure=>omega
   case rel=>exact⟨j+m,by go_num,by omega,hm2,by omega,hg3,hb3⟩
  .obtain rfl:j=n:=by omega
   go_wp2
   go_ret
   refine⟨_,rfl,⟨⟨by simp[fP],.inr ⟨w.heap.size,j,(yI x j j).toArray,by simp,aj _,HG.out,by simp,by unfold maxLen;omega,by simp[yI],by simp[yI,fP]⟩⟩,?_,by simp;omega⟩,HB.out⟩;intro z hz;rw[(List.mem_replicate.1 hz).2];exact hx
end

section
open Go.RowKit
def jO(l:List fT)(k i b:Nat):List Nat:=((List.range k).flatMap λq=>((nQ l q).filter λx=>x==(b:Int)).map λ_=>q)++(((nQ l k).take i).filter λx=>x==(b:Int)).map λ_=>k
theorem DU(l:List fT)(b:Nat):jO l 0 0 b= []:=by rfl
theorem xU(l:List fT)(k b:Nat):jO l k (nQ l k).length b=jO l (k+1) 0 b:=by
 simp[jO,cm]
theorem sY(l:List fT)(b:Nat):jO l l.length 0 b=tG l b:=by simp[jO,tG]
theorem pN(l:List fT)(k i:Nat)(x:Int)(h:(nQ l k)[i]? =some x)(b:Nat):jO l k (i+1) b=if (b:Int)=x then jO l k i b++ [k] else jO l k i b:=by
 have e:(nQ l k).take (i+1)=(nQ l k).take i++ [x]:=by grind[List.take_add_one]
 grind[jO]
theorem iz(l:List fT)(k i b:Nat)(hk:k<l.length):∃r,tG l b=jO l k i b++r:=by
 have h1:∃r,jO l k (nQ l k).length b=jO l k i b++r:=by
  refine⟨(((nQ l k).drop i).filter λx=>x==(b:Int)).map λ_=>k,?_⟩
  grind[jO,List.take_append_drop]
 obtain⟨r,hr⟩:=h1
 have h2:∀m,k+1<=m->∃r,jO l m 0 b=jO l (k+1) 0 b++r:=by
  intro m
  induction m with
  |zero=>simp
  |succ m ih=>
   intro hm;by_cases e:m=k
   .simp_all
   .obtain⟨r,hr⟩:=ih (by omega);refine⟨r++((nQ l m).filter λx=>x==(b:Int)).map λ_=>m,?_⟩;rw[<-cd,<-hr];simp[jO,cm]
 obtain⟨r2,hr2⟩:=h2 l.length (by omega)
 refine⟨r++r2,?_⟩
 rw[<-sY,hr2,<-xU,hr,cd]
def IB:List Nat->Int
 | []=>-1
 |k :: _=>(k:Int)
theorem UV(h:List Nat):IB h<0↔h= []:=by unfold IB;grind
def pG(l:List fT)(n k i:Nat):List Int:=(List.range n).map λb=>IB (jO l k i b)
theorem KL(l:List fT)(n k i:Nat):(pG l n k i).length=n:=by simp[pG]
theorem Ap(l:List fT)(n k i b:Nat)(h:b<n):(pG l n k i).getD b 0=IB (jO l k i b):=by grind[pG]
theorem xx(l:List fT)(n k i b:Nat)(hx:(nQ l k)[i]? =some (b:Int))(h0:jO l k i b= []):(pG l n k i).set b (k:Int)=pG l n k (i+1):=by
 apply cZ
 intro j
 simp only[pG,cT,List.length_range,dt]
 by_cases hj:j<n
 .by_cases e:b=j
  .grind[pN,IB]
  .grind[pN]
 grind
theorem qx(l:List fT)(n k i:Nat)(x:Int)(hx:(nQ l k)[i]? =some x)(h:x<0\/(n:Int)<=x):pG l n k i=pG l n k (i+1):=by
 refine dA λb hb=>?_
 have:=aQ.1 hb
 rw[pN l k i x hx b,az (by omega)]
theorem qy(l:List fT)(n k:Nat):pG l n k (nQ l k).length=pG l n (k+1) 0:=by
 simp[pG,xU]
theorem qw(l:List fT)(n:Nat):pG l n 0 0=List.replicate n (-1):=by
 apply cZ
 grind[pG,DU,IB]
theorem xy(l:List fT)(n:Nat)(h1:∀b,b<n->(tG l b).length<=1)(h2:(-1:Int)∉pG l n l.length 0):uN l n=true/\pG l n l.length 0=yJ l n:=by
 have h3:∀b,b<n->tG l b≠[]:=λb hb e=>by
  apply h2;unfold pG;rw[a8];exact⟨b,aQ.2 hb,by rw[sY,e];rfl⟩
 constructor
 .simp only[uN,aV,aQ,db]
  grind[List.length_pos_iff]
 .refine dA λb hb=>?_;rw[sY,oF];cases e:tG l b with
  |nil=>exact absurd e (h3 b (aQ.1 hb))
  |cons k r=>rfl
theorem li(l:List fT)(n b:Nat)(hb:b<n)(h:(tG l b).length≠1):uN l n=false:=by
 rw[dk]
 intro h2
 simp_all[uN]
theorem Ao(l:List fT)(n k i:Nat)(hk:k<=20000000000000):∀x∈pG l n k i,I64 x:=by
 intro x hx
 unfold pG at hx
 rw[a8] at hx
 obtain⟨b,_,rfl⟩:=hx
 have hq:∀q∈jO l k i b,q<=k:=by
  grind[jO]
 unfold I64
 cases e:jO l k i b with
 |nil=>simp[IB]
 |cons q r=>
  have:=hq q (by rw[e];simp);simp only[IB];omega
def OwJ(w:World)(l:List fT)(bn k i:Nat)(v:Value)(wr:World):Prop:=gD wr w.heap.size v (pG l bn k i)/\(∀b,b<bn->(jO l k i b).length<=1)/\Below w.heap.size w wr
def A7(w:World)(l:List fT)(n:Nat)(e:Ending)(w':World):Prop:=
 ∃v,e=.returned v/\Below w.heap.size w w'/\(uN l n=true->∃g c,v=.slice (some ⟨g,0,none⟩) n c/\gD w' w.heap.size v (yJ l n))/\(uN l n=false->v=tB)
theorem lk(d:lJ)(hd1:1<=d.bn)(hd2:d.bn<=200)(a:Option Addr)(n c:Nat)(ls:List iN)(w:World)(h:iY w a n ls):
  Calls Tryz.prog 67 #[jJ d,.slice a n c] w (A7 w (fI ls) d.bn):=by
 have hn:=h.1.2.1
 have HL:=ac h.1.1
 have H:=ac h
 clear h
 go_enter Tryz.func67,Tryz.ntmps67
 go_wp2_with (
  (go_at_call 160
   refine(gl d.bn (w.heap.size+1) (-1) (by unfold I64;omega) hd1 (by omega) _ (cR (iT _ _ _ (by simp)) rfl)).mono ?_;rintro e w2 ⟨v,rfl,ho,hb⟩;have HO:=ac ho;have HB:=ac (fC ((fD _ _).alloc (by simp) _) hb)
   clear ho hb))
 have hfm:∃g c,v=.slice (some ⟨g,0,none⟩) d.bn c:=by
  have:=rK HO.out.1 (by simp;omega);simpa using this
 obtain⟨G,C,rfl⟩:=hfm
 have HO0:Hid (gD w2 w.heap.size (.slice (some ⟨G,0,none⟩) d.bn C) (pG (fI ls) d.bn 0 0)):=by rw[Hid,qw];exact HO.out.mono (by simp;omega)
 clear HO
 go_loopg [18] n (λgg s wr=>∃(k:Nat),s=.int .i64 (k:Int)/\k<=n/\n<=gg+k/\Hid (OwJ w (fI ls) d.bn k 0 (.slice (some ⟨G,0,none⟩) d.bn C) wr))
 case atStart=>exact⟨0,rfl,d9 _,aj _,HO0.out,λb _=>by rw[DU];simp,HB.out⟩
 case round=>
  obtain⟨k,rfl,hk,hgg,HJ⟩:=hrel;clear HO0 HB;by_cases hlt:k<n
  .have hkl:k<(fI ls).length:=by rw[mC,HL.out];exact hlt
   obtain⟨t,b,o,hlk,hok,rfl,c0',c1',c2'⟩:=H.out.cells hlt;have c0:=fZ HJ.out.2.2 c0';have c1:=fZ HJ.out.2.2 c1';have c2:=fZ HJ.out.2.2 c2';clear c0' c1' c2';have HTB:Hid (nQ (fI ls) k=t.d.blocks):=by rw[Hid,nQ,tK ls k t hlk]
   have HOK:=ac hok.1;have hbl:t.d.blocks.length=t.bn:=hok.1.1;have hbn:t.bn<=17592186044416:=hok.1.2.1;have HBL:=ac hbl;have HCW:Hid (∃t',(fI ls).getD k oG=t'):=⟨_,rfl⟩
   clear hlk hok hbl HCW;generalize htba:t.ba=tba at *;have HTBA:=ac htba;clear htba;go_upto_region 5 with (fail)
   obtain⟨W1,hW1⟩:∃W1,W1=wr.alloc (.cells #[.int .i64 t.d.kind,.int .i64 t.d.parent,.slice tba t.bn t.bc] 65):=⟨_,rfl⟩
   rw[<-hW1];have hB1:Below wr.heap.size wr W1:=by rw[hW1];exact fD _ _
   have hx1:W1.heap[wr.heap.size]? =some (.cells #[.int .i64 t.d.kind,.int .i64 t.d.parent,.slice tba t.bn t.bc] 65 (0,0)):=by rw[hW1,ae]
   have d2:=cK 2 hx1 rfl;have HJ1:Hid (OwJ w (fI ls) d.bn k 0 (.slice (some ⟨G,0,none⟩) d.bn C) W1):=⟨HJ.out.1.ext hB1,HJ.out.2.1,fC HJ.out.2.2 hB1⟩
   have HGlt:G<wr.heap.size:=(HJ.out.1.1.lt G rfl).2;clear hW1 hx1 c0 c1 c2 HJ;go_wp2;obtain⟨wo,rfl⟩:∃wo:World,wo=wr:=⟨_,rfl⟩
   go_loopg [26] t.bn (λg2 s wr=>∃(i:Nat),s=.int .i64 (i:Int)/\i<=t.bn/\t.bn<=g2+i/\Hid (OwJ w (fI ls) d.bn k i (.slice (some ⟨G,0,none⟩) d.bn C) wr))
   case atStart=>exact⟨0,rfl,d9 _,aj _,HJ1⟩
   case round=>
    obtain⟨i,rfl,hi,hg2,HJ⟩:=hrel;clear HJ1 d2;by_cases hil:i<t.bn
    .obtain⟨b3,o3,rfl,hcx,hx1,hx2⟩:=(HOK.out.ext HJ.out.2.2).2.2 i hil;have HXI:Hid ((nQ (fI ls) k)[i]? =some (t.d.blocks.getD i 0)):=by
      rw[Hid,HTB.out,ak,ah (by rw[HBL.out];exact hil)];rfl
     have hil':(i:Int)<(t.bn:Int):=by omega
     generalize t.d.blocks.getD i 0=x at *;by_cases hxr:0<=x/\x<d.bn
     .obtain⟨hxr1,hxr2⟩:=hxr;obtain⟨xn,rfl⟩:∃xn:Nat,x=(xn:Int):=⟨x.toNat,by omega⟩
      have hxn:xn<d.bn:=by omega
      have hcw:wr.cell? ⟨G,xn,none⟩=some (.int .i64 (IB (jO (fI ls) k i xn))):=by
       obtain⟨b4,o4,e4,h4,_⟩:=HJ.out.1.ints.2.2 xn hxn;injection e4 with e4;injection e4 with e5 e6;subst e5 e6;rw[bQ,Ap _ _ _ _ _ hxn] at h4;exact h4
      by_cases hh:jO (fI ls) k i xn= []
      .have hown:wr.ownsRow w.heap.size 3 1 (.slice (some ⟨G,0,none⟩) d.bn C) d.bn (fP (pG (fI ls) d.bn k i)):=by have:=HJ.out.1.1;rwa [KL] at this
       have hst:=hown.stored xn (.int .i64 (k:Int));have hno:IB (jO (fI ls) k i xn)= -1:=by rw[hh];rfl
       rw[hno] at hcw;have HJ2:Hid (OwJ w (fI ls) d.bn k (i+1) (.slice (some ⟨G,0,none⟩) d.bn C) (wr.setCell ⟨G,xn,none⟩ (.int .i64 (k:Int)))):=by
        refine⟨⟨?_,Ao _ _ _ _ (by omega),by rw[KL];omega⟩,λb hb=>?_,HJ.out.2.2.setCell (by have:=(HJ.out.1.1.lt G rfl).1;exact this) _⟩
        .have h5:=hst.1;have e5:(fP (pG (fI ls) d.bn k i)).set xn (.int .i64 (k:Int))=fP (pG (fI ls) d.bn k (i+1)):=by
          rw[<-xx (fI ls) d.bn k i xn HXI.out hh];simp[fP,List.map_set]
         rw[e5] at h5;rw[KL];exact h5
        .rw[pN _ _ _ _ HXI.out];by_cases e:(b:Int)=(xn:Int)
         .have:b=xn:=by omega
          subst this;rw[aM rfl,hh];simp
         .rw[az e];exact HJ.out.2.1 b hb
       have hfw:=hown.frozenAt xn;have hlw:=(HJ.out.1.1.lt G rfl).2;clear hst hno hh HJ hown;go_wp2
       go_roundg (t.bn-(i+1))
       case measure=>omega
       case rel=>exact⟨i+1,by go_num,by omega,by omega,HJ2⟩
      .have hge:0<=IB (jO (fI ls) k i xn):=by
        have:=mt (UV (jO (fI ls) k i xn)).1 hh;omega
       have HE:Hid (uN (fI ls) d.bn=false):=by
        refine li _ _ xn hxn ?_;obtain⟨r,hr⟩:=iz (fI ls) k (i+1) xn hkl;rw[hr,pN _ _ _ _ HXI.out,aM rfl];have:=List.length_pos_iff.2 hh;simp;omega
       have HBW:=ac HJ.out.2.2;clear hh HJ;generalize IB (jO (fI ls) k i xn)=ov at *;go_wp2
       go_ret
       exact⟨_,rfl,HBW.out,λh=>by(rw[HE.out] at h;cases h),λ_=>rfl⟩
     .have HJ2:Hid (OwJ w (fI ls) d.bn k (i+1) (.slice (some ⟨G,0,none⟩) d.bn C) wr):=by
       refine⟨?_,λb hb=>?_,HJ.out.2.2⟩
       .rw[<-qx (fI ls) d.bn k i x HXI.out (by omega)];exact HJ.out.1
       .rw[pN _ _ _ _ HXI.out,az (by omega)];exact HJ.out.2.1 b hb
      clear HJ;by_cases hx0:x<0
      all_goals
       go_wp2
       go_roundg (t.bn-(i+1))
       case measure=>omega
       case rel=>exact⟨i+1,by go_num,by omega,by omega,HJ2⟩
    .obtain rfl:i=t.bn:=by omega
     have HJ2:Hid (OwJ w (fI ls) d.bn (k+1) 0 (.slice (some ⟨G,0,none⟩) d.bn C) wr):=by
      have e:t.bn=(nQ (fI ls) k).length:=by rw[HTB.out,HBL.out]
      refine⟨?_,λb hb=>?_,HJ.out.2.2⟩
      .rw[<-qy,<-e];exact HJ.out.1
      .rw[<-xU,<-e];exact HJ.out.2.1 b hb
     clear HJ;go_wp2
     go_roundg (n-(k+1))
     case measure=>omega
     case rel=>exact⟨k+1,by go_num,by omega,by omega,HJ2⟩
  .obtain rfl:k=n:=by omega
   have hlen:(fI ls).length=k:=by rw[mC,HL.out]
   have HO:=ac HJ.out.1;have HI:=ac (HJ.out.1.ints);have h1:=HJ.out.2.1;have h1':∀b,b<d.bn->(tG (fI ls) b).length<=1:=λb hb=>by have:=h1 b hb;rw[<-hlen,sY] at this;exact this
   have HX:=ac (vJ (pG (fI ls) d.bn k 0) (-1));have HEND:Hid ((-1:Int)∉pG (fI ls) d.bn k 0->uN (fI ls) d.bn=true/\pG (fI ls) d.bn k 0=yJ (fI ls) d.bn):=λh=>by
    have:=xy (fI ls) d.bn h1' (by rw[hlen];exact h)
    rwa [hlen] at this
   have HNO:Hid ((-1:Int)∈pG (fI ls) d.bn k 0->uN (fI ls) d.bn=false):=λh=>by
    unfold pG at h;rw[a8] at h;obtain⟨b,hb,e⟩:=h;refine li _ _ b (aQ.1 hb) ?_;have e2:=(UV (jO (fI ls) k 0 b)).1 (by omega);rw[<-hlen,sY] at e2;rw[e2];simp
   have HBW:=ac HJ.out.2.2;clear h1 h1' hlen HJ;by_cases hm:(-1:Int)∈pG (fI ls) d.bn k 0
   .have HE:=ac (HNO.out hm);have hd9:decide (0<=idx (pG (fI ls) d.bn k 0) (-1))=true:=by
     have:=mt HX.out.1;simp only[aN];apply bE;intro hh;exact(HX.out.1 (by omega)) hm
    have HD9:=ac hd9;clear hm hd9
    go_wp2_with (go_at_call 161;refine(qB _ _ _ (pG (fI ls) d.bn k 0) (-1) wr HI.out).mono ?_;rintro e w' ⟨rfl,rfl⟩;rw[HD9.out])
    go_ret
    exact⟨_,rfl,HBW.out,λh=>by(rw[HE.out] at h;cases h),λ_=>rfl⟩
   .have HE:=ac (HEND.out hm);have hd9:decide (0<=idx (pG (fI ls) d.bn k 0) (-1))=false:=by
     have:=HX.out.2 hm;simp only[cg];omega
    have HD9:=ac hd9;clear hm hd9
    go_wp2_with (go_at_call 161;refine(qB _ _ _ (pG (fI ls) d.bn k 0) (-1) wr HI.out).mono ?_;rintro e w' ⟨rfl,rfl⟩;rw[HD9.out])
    go_ret
    refine⟨_,rfl,HBW.out,λ_=>⟨G,C,rfl,?_⟩,λh=>by(rw[HE.out.1] at h;cases h)⟩;have:=HO.out;rw[HE.out.2] at this;exact this
end

section
open Go.RowKit Go.Shelf
attribute [local go_sem] Oper.semAt_some iF gH gS fX
theorem VZ(f:Nat->Bool)(S:Nat)(x:Nat)(hx:x<200)(W:World)(hS:W.heap[S]? =some (jY f)):
  Calls Tryz.prog 223 (#[.int .i64 (x:Int)]++ #[.pointer (some ⟨S,0,none⟩)]) W λe W'=>e=.returned (.bool (!f x))/\Below W.heap.size W W':=by
 show Calls Tryz.prog 223 #[.int .i64 (x:Int),.pointer (some ⟨S,0,none⟩)] W _
 have hc:=lK hS x hx
 generalize f x=b at*
 clear hS
 go_enter Tryz.func223,Tryz.ntmps223
 go_wp2
 go_ret
 exact⟨rfl,ag _ _⟩
theorem LS(args:Array Value)(w:World):(callFunc 223 args).run Tryz.prog w=.ok (.enter 223 args) w:=dK Tryz.func223 (by kernel_rfl) rfl args w
def qX(ts:List fS)(f:Nat->Bool)(b:Nat):Bool:=decide (b<ts.length)&&(pv ts b).any λx=> !f x
theorem PU(f:Nat->Bool)(l:List Nat):((fN l).any λz=> !f z.toNat)=l.any λq=> !f q:=by
 rw[fN,List.any_map]
 rfl
def EJ(w:World)(d:lJ)(f:Nat->Bool)(xs:List Int)(W:World):Prop:=
 W.heap[w.heap.size]? =some (qM d)/\W.heap[w.heap.size+1]? =some (jY f)/\W.heap[w.heap.size+1+1+1]? =some (.cells #[.pointer (some ⟨w.heap.size+1,0,none⟩)] 245 (0,0))/\
  (∃v,W.heap[w.heap.size+1+1]? =some (.cells #[v] 22 (0,0))/\gD W (w.heap.size+1+1+1+1) v xs)/\Below w.heap.size w W/\w.heap.size+1+1+1<W.heap.size
theorem EJ.steady{w:World}{d:lJ}{f:Nat->Bool}{xs:List Int}{D:Nat}(hD:w.heap.size<=D):fG D (EJ w d f xs):=by
 unfold EJ
 exact(fG.block _ _ rfl).and ((fG.block _ _ rfl).and ((fG.block _ _ rfl).and ((fG.ex λv=>(fG.block _ _ rfl).and (fG.ownI _ _ _ _)).and ((fG.below (aj _) hD).and (fG.size _ _)))))
theorem EJ.ext{w W W':World}{d:lJ}{f:Nat->Bool}{xs:List Int}(h:EJ w d f xs W)(hb:Below W.heap.size W W'):EJ w d f xs W':=(EJ.steady (aj _)).ext h hb
theorem EJ.app{w W W':World}{d:lJ}{f:Nat->Bool}{xs:List Int}{v:Value}(hv:W.heap[w.heap.size+1+1]? =some (.cells #[v] 22 (0,0)))(ho:gD W (w.heap.size+1+1+1+1) v xs)(h:EJ w d f xs W)(hg:W.grownBy W' v.ownBlock)(v':Value)(x:Int)(hx:I64 x)(hn:xs.length<=1000)(ho':W'.ownsRow (w.heap.size+1+1+1+1) 3 1 v' (xs.length+1) (fP xs++ [.int .i64 x])):
  EJ w d f (xs++ [x]) (W'.setCell ⟨w.heap.size+1+1,0,none⟩ v')/\gC W (W'.setCell ⟨w.heap.size+1+1,0,none⟩ v'):=by
 obtain⟨h1,h2,h3,_,h5,h6⟩:=h
 have low:∀q,q<w.heap.size+1+1+1+1->v.ownBlock≠some q:=λq hq e=>by have:=(ho.1.lt q e).1;omega
 have g:=fU W' (w.heap.size+1+1) 0 v'
 have hv2:=fQ hg hv (low _ (by omega))
 refine⟨⟨fQ g (fQ hg h1 (low _ (by omega))) (by simp;omega),fQ g (fQ hg h2 (low _ (by omega))) (by simp),fQ g (fQ hg h3 (low _ (by omega))) (by simp),⟨v',?_,?_⟩,(h5.grown hg h5.size (λr e=>by have:=(ho.1.lt r e).1;omega)).setCell (by simp;omega) _,by have:=hg.size;simp;omega⟩,
  (gC.grown hg (sE ho.1)).trans (gC.setCell _ _ _)⟩
 .have:=aC W' (w.heap.size+1+1) 0 _ _ v' hv2;simpa using this
 .have e3:(xs++ [x]).length=xs.length+1:=by simp
  have e4:fP (xs++ [x])=fP xs++ [.int .i64 x]:=by simp[fP]
  refine gD.kept (w:=W') ⟨by rw[e3,e4];exact ho',λz hz=>?_,by rw[e3];omega⟩ g ?_
  .rcases ax.1 hz with h|h
   .exact ho.2.1 z h
   .simp only[bz] at h;subst h;exact hx
  .cases e:v'.ownBlock with
   |none=>exact .inl rfl
   |some k=>
    have:=(ho'.lt k e).1;refine .inr ?_;intro e2;injection e2 with e2;omega
theorem GS(d:lJ)(ts:List fS)(f:Nat->Bool)(w:World)(hok:mQ w d ts)(hg:tH ts=true):
  Calls Tryz.prog 150 #[jJ d,.agg (gK f)] w (mT w (fN (fV ts f))):=by
 refine(bu (n:=0)).1 ?_
 refine cu Tryz.func150 rfl trivial ?_
 simp only[Tryz.ntmps150,bd,bk,bx,Nat.reduceAdd,Nat.reduceSub,bF,bG,bV,bN,bD,bU]
 have HOK:=ac hok
 have HPV:=ac (mQ.nx_lt (w:=w) (d:=d) hg).2
 have hdl:ts.length=d.bn:=hok.1
 have hdn:d.bn<=200:=hok.2.1
 have HDL:=ac hdl
 clear hok hg hdl
 gi_wp2_with (gi_at_call 64;refine(bu.2 (sW _ _)).mono ?_;rintro e w' ⟨rfl,rfl⟩)
 refine sC (ps:=#[7]) (gf:=159) (lb:=#[.pointer (some ⟨w.heap.size+1+1+1,0,none⟩)]) (enc:=rU) (l:=gQ f) rfl pE _ (qL f (w.heap.size+1+1+1) (w.heap.size+1)) (λ_=>rfl)
  (λdn r W=>Hid (EJ w d f (fN (dn.filter (qX ts f))) W)) (λ_ _=>False)
  (λdn r=>EJ.steady (by simp;omega)) (λc=>fG.pure _ _) (λdn r W h=>⟨cR h.out.2.2.1 rfl,h.out.2.1⟩) ?start ?round ?done ?stop
 case start=>
  refine⟨?_,?_,?_,⟨_,?_,gD.nil _ _⟩,?_,by simp⟩
  .rw[aG _ _ _ (by simp;omega),aG _ _ _ (by simp;omega),aG _ _ _ (by simp)];exact ae _ _
  .rw[aG _ _ _ (by simp),aG _ _ _ (by simp)];exact iT _ _ _ (by simp)
  .exact iT _ _ _ (by simp)
  .rw[aG _ _ _ (by simp)];exact iT _ _ _ (by simp)
  .exact(((fD _ _).alloc (by simp) _).alloc (by simp;omega) _).alloc (by simp;omega) _
 case round=>
  rintro lp dn x r W hd hJ;unfold rU
  gi_wp2
  refine⟨gC.refl _,hJ,?_⟩;clear hJ lp W;rintro lp W hJ;obtain⟨j1,j2,j3,⟨v,j4,jo⟩,jb,js⟩:=hJ.out;have hxl:x<200:=uF f x (by rw[hd];simp);have hc3:=cK 3 j1 rfl;by_cases hxb:x<d.bn
  .obtain⟨b,o,ra,rc,rfa,hcr,hir⟩:=(HOK.out.ext jb).2.2.2.2.2 x (pv ts x) (by simp[sV,HDL.out,hxb]);rw[rfa] at hc3;have J2:=ac j2;have HIR:=ac hir;have HPX:Hid (∀z∈fN (pv ts x),∃q:Nat,z=(q:Int)/\q<200):=λz hz=>by
    simp only[fN,a8] at hz;obtain⟨q,hq,rfl⟩:=hz;exact⟨q,rfl,HPV.out x q hq⟩
   have hxb':(x:Int)<(d.bn:Int):=by omega
   clear j1 j2 j3 j4 jo jb js hir;by_cases hent:qX ts f x=true
   .have HANY:Hid (((fN (pv ts x)).any λz=> !f z.toNat)=true):=by
     rw[Hid,PU];simp only[qX,aB] at hent;exact hent.2
    have HFL:Hid (fN ((dn++ [x]).filter (qX ts f))=fN (dn.filter (qX ts f))++ [(x:Int)]):=by
     rw[Hid,bB,b6,aM hent];simp[fN]
    have hlen:(fN (dn.filter (qX ts f))).length<=1000:=by
     have h1:=EY f;rw[hd] at h1;have h2:=bX (qX ts f) dn;simp[fN] at h1|-;omega
    clear hent
    gi_wp2_with (first
     |(gi_at_call 216
       refine(eG _ (bu.2 (nZ 223 #[.pointer (some ⟨w.heap.size+1,0,none⟩)] LS (λz=> !f z.toNat) _ _ _ (fN (pv ts x)) W (λz W' hz hb=>?_) HIR.out))).mono ?_
       .obtain⟨q,rfl,hq⟩:=HPX.out z hz;exact VZ f (w.heap.size+1) q hq W' (fB hb J2.out)
       rintro e w2 ⟨rfl,hb2⟩;rw[HANY.out];have HJ2:=ac (hJ.out.ext hb2);have HK2:=ac (gC.ext hb2);clear hb2;obtain⟨v2,hv2,ho2⟩:=HJ2.out.2.2.2.1;obtain⟨av,cv,rfl⟩:=ho2.form;have hcv:=cK 0 hv2 rfl;have HV2:=ac hv2;have HO2:=ac ho2;have hsz2:=HJ2.out.2.2.2.2.2
       clear hv2 ho2)
     |(gi_at_builtin
       refine oM (by repeat (first|exact gZ|refine iK ?_|refine hU ?_)) _ _ _ rfl ?_;refine jI rfl w2 (.tmp 22) (.tmp 24) 22 3 rfl (w.heap.size+1+1+1+1) _ 1 8 be pY rfl (by omega) (.slice av (fN (dn.filter (qX ts f))).length cv) (fN (dn.filter (qX ts f))).length _ [.int .i64 (x:Int)] rfl HO2.out.1 w2.heap.size rfl rfl rfl (by simp[Value.oneCell']) (by simp only[maxLen];omega) (by omega) (by omega) ?_;intro g cap w3 hown3 hg3 hat3;have HAPP:=ac (HJ2.out.app HV2.out HO2.out hg3 _ (x:Int) (by unfold I64;omega) hlen hown3);have hv3:=fQ hg3 HV2.out (λe=>by have:=(HO2.out.1.lt _ e).1;omega);obtain⟨hc3',hf3⟩:=cz 0 hv3 rfl;have hl3:w.heap.size+1+1<w3.heap.size:=fE hv3
       clear hown3 hg3 hat3 hv3 hcv))
    go_wp2;refine⟨HK2.out.trans HAPP.out.2,?_⟩;have e9:=HFL.out;rw[bB] at e9;simp only[Hid,bB,e9];exact HAPP.out.1
   .have hent':qX ts f x=false:=by simpa using hent
    have HANY:Hid (((fN (pv ts x)).any λz=> !f z.toNat)=false):=by
     rw[Hid,PU];simp only[qX,fy] at hent';rcases hent' with h|h
     .rw[HDL.out] at h;simp at h;omega
     .exact h
    have HFL:Hid (fN ((dn++ [x]).filter (qX ts f))=fN (dn.filter (qX ts f))):=by
     rw[Hid,bB,b6,az hent];simp
    clear hent hent'
    gi_wp2_with (
     (gi_at_call 216
      refine(eG _ (bu.2 (nZ 223 #[.pointer (some ⟨w.heap.size+1,0,none⟩)] LS (λz=> !f z.toNat) _ _ _ (fN (pv ts x)) W (λz W' hz hb=>?_) HIR.out))).mono ?_
      .obtain⟨q,rfl,hq⟩:=HPX.out z hz;exact VZ f (w.heap.size+1) q hq W' (fB hb J2.out)
      rintro e w2 ⟨rfl,hb2⟩;rw[HANY.out];have HJ2:=ac (hJ.out.ext hb2);have HK2:=ac (gC.ext hb2)
      clear hb2))
    refine⟨HK2.out,?_⟩;have e9:=HFL.out;rw[bB] at e9;simp only[Hid,bB,e9];exact HJ2.out
  .have hxb':¬(x:Int)<(d.bn:Int):=by omega
   have HFL:Hid (fN ((dn++ [x]).filter (qX ts f))=fN (dn.filter (qX ts f))):=by
    rw[Hid,bB,b6,az (by simp only[qX,aB,aN,HDL.out];exact λh=>hxb h.1)];simp
   clear j1 j2 j3 j4 jo jb js hxb
   gi_wp2
   refine⟨gC.refl _,?_⟩;have e9:=HFL.out;rw[bB] at e9;simp only[Hid,bB,e9];exact hJ.out
 case done=>
  rintro D W hD hJ hK;obtain⟨v,hv,ho⟩:=hJ.out.2.2.2.1;obtain⟨av,cv,rfl⟩:=ho.form;have HJ:=hJ;have HV:=ac hv;obtain⟨hcv,hfv⟩:=cz 0 hv rfl;have hlv:=fE hv;have HO:=ac ho;clear hv ho hJ
  gi_wp2
  have hDP:D≠w.heap.size+1+1:=by simp at hD;omega
  have g:=fU W (w.heap.size+1+1) 0 (.slice av (fN ((gQ f).filter (qX ts f))).length cv);have hK2:=fQ g hK (by simp;omega)
  have ho2:gD (W.setCell ⟨w.heap.size+1+1,0,none⟩ (.slice av (fN ((gQ f).filter (qX ts f))).length cv)) (w.heap.size+1+1+1+1) (.slice av (fN ((gQ f).filter (qX ts f))).length cv) (fN ((gQ f).filter (qX ts f))):=HO.out.kept g (by
   cases e:(Value.slice av (fN ((gQ f).filter (qX ts f))).length cv).ownBlock with
   |none=>exact .inl rfl
   |some k=>
    have:=(HO.out.1.lt k e).1;refine .inr ?_;intro e2;injection e2 with e2
    omega)
  have hb2:Below w.heap.size w (W.setCell ⟨w.heap.size+1+1,0,none⟩ (.slice av (fN ((gQ f).filter (qX ts f))).length cv)):=HJ.out.2.2.2.2.1.setCell (by simp;omega) _;have hv2:(W.setCell ⟨w.heap.size+1+1,0,none⟩ (.slice av (fN ((gQ f).filter (qX ts f))).length cv)).heap[w.heap.size+1+1]? =some (.cells #[.slice av (fN ((gQ f).filter (qX ts f))).length cv] 22 (0,0)):=by
   have:=aC W (w.heap.size+1+1) 0 _ _ (.slice av (fN ((gQ f).filter (qX ts f))).length cv) HV.out;simpa using this
  generalize W.setCell ⟨w.heap.size+1+1,0,none⟩ (.slice av (fN ((gQ f).filter (qX ts f))).length cv)=W2 at *;have ho3:=(fG.ownI D (w.heap.size+1+1+1+1) (.slice av (fN ((gQ f).filter (qX ts f))).length cv) (fN ((gQ f).filter (qX ts f)))).put (.deferred none) (l:=D) ho2 (aj _) hK2 rfl;have hb3:=(fG.below (n₀:=w.heap.size) (B:=w.heap.size) (w₀:=w) (aj _) (aj _)).put (.deferred none) (l:=D) hb2 (by simp at hD;omega) hK2 rfl;have hv3:(W2.putObj D (.deferred none)).heap[w.heap.size+1+1]? =some (.cells #[.slice av (fN ((gQ f).filter (qX ts f))).length cv] 22 (0,0)):=(bo (by omega)).trans hv2;have hc3:=cK 0 hv3 rfl;refine⟨by simp,.inl ⟨_,_,rfl,cM hK2,?_⟩⟩;exact⟨.slice av (fN ((gQ f).filter (qX ts f))).length cv,by simp[results,Tryz.results150,go_sem,hc3],_,rfl,ho3.mono (by omega),hb3⟩
 case stop=>rintro D c W hD h;exact h.elim
end
end Go.Proofs.YtbknbcmppdglhaaGreatDoor
