/-
 slices.Sort,Reverse,Compact of ints,on rows of the call's own.
-/
import Derived.Test.YtchdkjenhppleaaGreatA0
import Derived.Test.YtchdkjenhppleaaGreatShelf
import Derived.Test.YtchdkjenhppleaaGreatTE
import Derived.Test.YtchdkjenhppleaaGreatFA
import Derived.Test.YtchdkjenhppleaaGreatFJ
import Derived.Defers
import Derived.Recover
import Derived.WalkLawsBesides
import Derived.Test.YtchdkjenhppleaaGreatFC
namespace Go.Proofs.YtchdkjenhppleaaGreat
set_option linter.unusedSimpArgs false
set_option linter.unusedVariables false
set_option linter.unusedSectionVars false
set_option maxRecDepth 100000
set_option maxHeartbeats 40000000
section
open Go.RowKit Go.Sort
theorem vU(w:World)(g k:Nat)(f:Array Value->Array Value):(mapBlock w g f).heap[k]? =if g=k then (w.heap[k]?).map (onCells f) else w.heap[k]?:=by
 show(w.heap.modify g (onCells f))[k]? =_
 grind
theorem tM(w:World)(g q:Nat)(ys:List Int):w.grownBy (putRow (Value.int .i64) (Sort.ahead w q) g 0 ys.toArray) (some g):=by
 refine⟨rfl,rfl,rfl,by simp,λk _ hne=>?_⟩
 unfold putRow
 rw[vU,aC (λe=>hne (by rw[e]))]
 rfl
theorem TH{w w':World}{row:Option Nat}(h:w.grownBy w' row)(os:Array Obj):w.grownBy (grow w' os) row:=by
 refine⟨h.os,h.tape,h.output,?_,λk hk hne=>?_⟩
 .have:=h.size;simp[grow];omega
 .rw[heap_grow_old w' os (cZ hk h.size)];exact h.block k hk hne
theorem AI{w:World}{base g n c:Nat}{xs:List Int}(h:fQ w base (.slice (some ⟨g,0,none⟩) n c) xs):Holds (Value.int .i64) w g 0 xs.toArray:=by
 intro j hj
 have hj':j<xs.length:=by omega
 have hn:=h.cap.2.2
 obtain⟨b,o,e,hc,_⟩:=h.ints.2.2 j (by omega)
 refine⟨?_,?_⟩
 .grind
 .rcases h.1.2 with ⟨hv,_⟩|⟨g',cap,cur,hv,_,hh,_⟩
  .omega
  grind[frozen_of_row]
theorem wU{w:World}{base g n c:Nat}{xs:List Int}(h:fQ w base (.slice (some ⟨g,0,none⟩) n c) xs)(q:Nat)(ys:List Int)(hl:ys.length=xs.length)(hy:∀y∈ys,I64 y):
  fQ (putRow (Value.int .i64) (Sort.ahead w q) g 0 ys.toArray) base (.slice (some ⟨g,0,none⟩) n c) ys:=by
 have hn:=h.cap.2.2
 refine⟨⟨by simp[eU],?_⟩,hy,by have:=h.2.2;omega⟩
 rcases h.1.2 with ⟨hv,_⟩|⟨g',cap,cur,hv,hb,hh,h1,h2,h3,h4⟩
 .grind
 .injection hv with e1 e2 e3;injection e1 with e1;injection e1 with e1 _ _;subst e1 e3;refine .inr ⟨g,c,putCells (Value.int .i64) 0 ys.toArray cur,by rw[hn,hl],hb,?_,by omega,h2,by simp[putCells,h3],?_⟩
  .unfold putRow;rw[vU,aX rfl];show(w.heap[g]?).map _=_;rw[hh];rfl
  .apply cD;intro k;rw[dD];by_cases hk:k<ys.length
   .have hkc:k<cur.size:=by omega
    simp[putCells,eU,hk,hkc]
   .rw[aC (by omega),cV (by simp[eU];omega)]
theorem XF{w:World}{base:Nat}{v:Value}{xs:List Int}(h:fQ w base v xs)(os:Array Obj):fQ (grow w os) base v xs:=
 h.ext ⟨rfl,rfl,rfl,by simp,λk hk=>heap_grow_old w os hk⟩
def OU(w:World)(base:Nat)(v:Value)(ys:List Int)(e:Ending)(w':World):Prop:=e=.returned (.tuple #[])/\fQ w' base v ys/\w.grownBy w' v.ownBlock
theorem oN(w:World)(row:Option Nat):w.grownBy w row:=⟨rfl,rfl,rfl,aw _,λ_ _ _=>rfl⟩
theorem WE(base:Nat)(v:Value)(xs:List Int)(w:World)(h:fQ w base v xs):
  Calls Tryz.prog 175 #[v] w (OU w base v (xs.mergeSort λx y=>decide (x<=y))):=by
 rcases id h.1.2 with ⟨rfl,h0⟩|⟨g,cap,cur,rfl,hb,hh,_⟩
 .refine(slices_Sort_int_none none 0 w).mono ?_;rintro e w' ⟨rfl,rfl⟩;exact⟨rfl,by simp_all,oN _ _⟩
 .refine(slices_Sort_int g 0 cap xs w (AI h) (am.1 hh).1 (by have:=h.2.2;omega)).mono ?_;rintro e w' ⟨rfl,n,os,rfl⟩;have hp:=List.mergeSort_perm xs λx y=>decide (x<=y);refine⟨rfl,XF (wU h n _ (List.length_mergeSort _) (λy hy=>h.2.1 y (hp.mem_iff.1 hy))) os,?_⟩;exact TH (tM w g n _) os
theorem LM(base:Nat)(v:Value)(xs:List Int)(w:World)(h:fQ w base v xs):
  Calls Tryz.prog 124 #[v] w (OU w base v xs.reverse):=by
 rcases id h.1.2 with ⟨rfl,h0⟩|⟨g,cap,cur,rfl,hb,hh,_⟩
 .refine(slices_Reverse_int_empty none 0 w).mono ?_;rintro e w' ⟨rfl,rfl⟩;exact⟨rfl,by grind,oN _ _⟩
 .refine(slices_Reverse_int g 0 cap xs w (AI h) (by have:=h.2.2;omega)).mono ?_;rintro e w' ⟨rfl,n,rfl⟩;exact⟨rfl,wU h n _ (by simp) (λy hy=>h.2.1 y (by grind)),tM w g n _⟩
def QU(w:World)(base:Nat)(v:Value)(ys:List Int)(e:Ending)(w':World):Prop:=∃v',e=.returned v'/\fQ w' base v' ys/\w.grownBy w' v.ownBlock
theorem QL(xs:List Int):(Lib.compact xs).length<=xs.length:=by
 unfold Lib.compact Lib.compactUpTo
 grind
theorem QK(xs:List Int):∀y∈Lib.compact xs,y∈xs:=by
 intro y hy
 unfold Lib.compact Lib.compactUpTo at hy
 grind
theorem SG{w:World}{base g c n:Nat}{xs ys:List Int}(h:fQ w base (.slice (some ⟨g,0,none⟩) n c) (xs++ys)):fQ w base (.slice (some ⟨g,0,none⟩) xs.length c) xs:=by
 refine⟨⟨by simp[eU],?_⟩,λz hz=>h.2.1 z (by grind),by have:=h.2.2;grind⟩
 rcases h.1.2 with ⟨hv,_⟩|⟨g',cap,cur,hv,hb,hh,h1,h2,h3,h4⟩
 .grind
 .injection hv with e1 e2 e3;injection e1 with e1;injection e1 with e1 _ _;subst e1 e3;refine .inr ⟨g,c,cur,rfl,hb,hh,by simp at h1;omega,h2,h3,?_⟩;have h5:(cur.toList.take ((xs++ys).length*1)).take xs.length=(eU (xs++ys)).take xs.length:=by rw[h4]
  rw[List.take_take] at h5;simpa[eU] using h5
theorem MF(base:Nat)(v:Value)(xs:List Int)(w:World)(h:fQ w base v xs):
  Calls Tryz.prog 176 #[v] w (QU w base v (Lib.compact xs)):=by
 rcases id h.1.2 with ⟨rfl,h0⟩|⟨g,cap,cur,rfl,hb,hh,h1,_⟩
 .have h0:xs= []:=bB h0;subst h0;refine(slices_Compact_int_empty none 0 w).mono ?_;rintro e w' ⟨rfl,rfl⟩;exact⟨_,rfl,h,oN _ _⟩
 .refine(slices_Compact_int g 0 cap xs w (AI h) (by have:=h.2.2;omega) h1).mono ?_;rintro e w' ⟨rfl,n,rfl⟩;have hc:=QL xs
  have h9:=wU h n (Lib.compact xs++List.replicate (xs.length-(Lib.compact xs).length) 0) (by grind) (λy hy=>by
   rcases bh.1 hy with hy|hy
   .exact h.2.1 y (QK xs y hy)
   grind[I64])
  exact⟨_,rfl,SG h9,tM w g n _⟩
end

section
open Go.RowKit
structure lI where
 d:eW
 ba:Option Addr
 bn:Nat
 bc:Nat
def mz(t:lI):List Value:= [.int .i64 t.d.kind,.int .i64 t.d.parent,.slice t.ba t.bn t.bc]
theorem WA(t:lI):(mz t).length=3:=rfl
def jW(w:World)(a:Option Addr)(n:Nat)(ls:List lI):Prop:=mO 3 mz w a n ls/\∀t∈ls,fR w t.ba t.bn t.d.blocks/\t.bn<=t.bc/\I64 t.d.kind/\I64 t.d.parent
theorem jW.ext{w w':World}{a:Option Addr}{n:Nat}{ls:List lI}(h:jW w a n ls)(hb:Below w.heap.size w w'):jW w' a n ls:=⟨h.1.ext WA hb,λt ht=>⟨(h.2 t ht).1.ext hb,(h.2 t ht).2⟩⟩
def eM(ls:List lI):List eW:=ls.map (·.d)
theorem iV(ls:List lI):(eM ls).length=ls.length:=by simp[eM]
theorem qX(ls:List lI)(k:Nat)(t:lI)(h:ls[k]? =some t):(eM ls).getD k nF=t.d:=by simp[eM,ax,h]
abbrev AX(t:lI):Obj:=.cells #[.int .i64 t.d.kind,.int .i64 t.d.parent,.slice t.ba t.bn t.bc] 79
theorem jW.cells{w:World}{a:Option Addr}{n:Nat}{ls:List lI}(h:jW w a n ls){k:Nat}(hk:k<n):∃t b o,ls[k]? =some t/\(fR w t.ba t.bn t.d.blocks/\t.bn<=t.bc/\I64 t.d.kind/\I64 t.d.parent)/\a=some ⟨b,o,none⟩/\
  w.cell? ⟨b,o+k*3,none⟩=some (.int .i64 t.d.kind)/\w.cell? ⟨b,o+k*3+1,none⟩=some (.int .i64 t.d.parent)/\w.cell? ⟨b,o+k*3+2,none⟩=some (.slice t.ba t.bn t.bc):=by
 have hk':k<ls.length:=by rw[h.1.1];exact hk
 obtain⟨b,o,e,hc⟩:=h.1.2.2 k ls[k] (au hk')
 exact⟨ls[k],b,o,au hk',h.2 _ (dB hk'),e,hc 0 (by omega),hc 1 (by omega),hc 2 (by omega)⟩
theorem rD(a:Option Addr)(n c:Nat)(ls:List lI)(w:World)(h:jW w a n ls):
  Calls Tryz.prog 163 #[.slice a n c] w λe w'=>e=.returned (.bool (fX (eM ls)))/\Below w.heap.size w w':=by
 have hn:=h.1.2.1
 have HL:=ac h.1.1
 have H:=ac h
 clear h
 go_enter Tryz.func163,Tryz.ntmps163
 go_wp2
 go_loopw [7] (λi wr=>∃(k:Nat),k<=n/\i=.int .i64 k/\Hid (∀j,j<k->-1<=nB (eM ls) j/\nB (eM ls) j<j)/\Hid (Below w.heap.size w wr)) (λi _=>n-(intOf i).toNat)
 case atStart=>exact⟨0,by omega,rfl,λj hj=>absurd hj (by omega),ao _ _⟩
 case round=>
  obtain⟨k,hk,rfl,HR,HB⟩:=hrel;by_cases hlt:k<n
  .obtain⟨t,b,o,hlk,hok,rfl,c0,c1,c2⟩:=(H.out.ext HB.out).cells hlt;obtain⟨_,_,_,hp1,hp2⟩:=hok;have htd:=qX ls k t hlk;have HTD:Hid (nB (eM ls) k=t.d.parent):=by rw[Hid,nB,htd]
   clear hlk htd;have hlt':(k:Int)<(n:Int):=by omega
   by_cases hg1:t.d.parent< -1
   .have HE:Hid (fX (eM ls)=false):=by
     rw[Hid,bU];intro h;have:=(gM _).1 h k (by rw[iV,HL.out];exact hlt);rw[HTD.out] at this;omega
    go_wp2
    go_ret
    exact⟨by rw[HE.out];rfl,HB.out.alloc HB.out.size _⟩
   .by_cases hg2:t.d.parent<k
    .have HR2:Hid (∀j,j<k+1->-1<=nB (eM ls) j/\nB (eM ls) j<j):=λj hj=>by
      by_cases e:j=k
      .subst e;rw[HTD.out];omega
      .exact HR.out j (by omega)
     go_wp2
     go_roundw
     case rel=>exact⟨k+1,by omega,by go_num,HR2,HB.out.alloc HB.out.size _⟩
     case measure=>simp[intOf];omega
    .have HE:Hid (fX (eM ls)=false):=by
      rw[Hid,bU];intro h;have:=(gM _).1 h k (by rw[iV,HL.out];exact hlt);rw[HTD.out] at this;omega
     go_wp2
     go_ret
     exact⟨by rw[HE.out];rfl,HB.out.alloc HB.out.size _⟩
  .obtain rfl:k=n:=by omega
   have HE:Hid (fX (eM ls)=true):=(gM _).2 λj hj=>HR.out j (by rw[iV,HL.out] at hj;exact hj);go_wp2
   go_ret
   exact⟨by rw[HE.out];rfl,HB.out⟩
end

section
open Go.RowKit Go.Shelf
attribute [local go_sem] Oper.semAt_some iB fS gP fH
theorem vO(w:World):Calls Tryz.prog 11 #[] w λe w'=>∃g,e=.returned (.agg #[.slice (some ⟨g+1,0,none⟩) 1 1,.slice none 0 0])/\w'.heap[g]? =some (.cells #[.int .i64 0] 3 (0,0))/\w'.heap[g+1]? =some (.cells #[.int .i64 1,.int .i64 (-1),.slice (some ⟨g,0,none⟩) 1 1] 79 (0,0))/\w.heap.size<=g/\Below w.heap.size w w':=by
 go_enter Tryz.func11,Tryz.ntmps11
 go_wp2
 refine aD (v:=.agg #[.slice (some ⟨w.heap.size+1+1,0,none⟩) 1 1,.slice none 0 0]) (by simp[results,Tryz.results11,go_sem]) rfl ⟨w.heap.size+1,rfl,eB (eC _ _) (fM _ _ _ (by simp)),fM _ _ _ (by simp),by omega,eA (eA (eC _ _) (eC _ _)) (eC _ _)⟩
abbrev flV(e b t:Int):Value:=.agg #[.int .i64 e,.int .i64 b,.int .i64 t]
theorem pF(e:Int)(w:World):Calls Tryz.prog 42 #[.int .i64 e] w λr w'=>r=.returned (flV e (-1) (-1))/\Below w.heap.size w w':=by
 go_enter Tryz.func42,Tryz.ntmps42
 go_wp2
 exact aD (v:=flV e (-1) (-1)) (by simp[results,Tryz.results42,go_sem]) rfl ⟨rfl,eC _ _⟩
theorem nZ(v:Value)(e b t:Int)(hv:v=flV e b t)(w:World):Calls Tryz.prog 43 #[.bool true,v] w λr w'=>r=.returned (.tuple #[])/\Below w.heap.size w w':=by
 subst hv
 go_enter Tryz.func43,Tryz.ntmps43
 go_wp2
 go_end0
 exact⟨rfl,eC _ _⟩
theorem lu(e b t:Int)(w:World):Calls Tryz.prog 43 #[.bool false,flV e b t] w λr w'=>r=.panicked [{v:=.iface 53 (flV e b t),recovered:=false}]/\Below w.heap.size w w':=by
 go_enter Tryz.func43,Tryz.ntmps43
 go_wp2
 exact⟨rfl,rfl,eC _ _⟩
theorem ld(e b t:Int)(w:World):(Instr.typeAssert (.iface 53 (flV e b t)) 20 53 true).run Tryz.prog w=.ok (.tuple #[flV e b t,.bool true]) w:=by kernel_rfl
theorem AW(g:Nat)(e b t:Int)(older:List PanicEntry)(w:World)(h:w.heap[g]? =some (.cells #[.int .i64 0,.int .i64 0,.int .i64 0] 53 (0,0))):
  CallsD Tryz.prog 41 #[.pointer (some ⟨g,0,none⟩)] (.panicking ({v:=.iface 53 (flV e b t),recovered:=false} :: older)) w λr u' w'=>
   r=.returned (.tuple #[])/\u'=.panicking ({v:=.iface 53 (flV e b t),recovered:=true} :: older)/\w'.heap[g]? =some (.cells #[.int .i64 e,.int .i64 b,.int .i64 t] 53 (0,0))/\Chg (λk=>k=g) w w':=by
 have hta:=ld e b t
 obtain⟨d0,d1,d2⟩:=tY h rfl
 obtain⟨z0,z1,z2⟩:=kr h
 refine callsD_of_wpS Tryz.func41 rfl λc₀ cs hu=>?_
 apply wpS_seq
 apply wpS_region
 simp[wpOpsS,go_sem,recoverD,hu,Tryz.ntmps41,Exit.thenS]
 refine wpS_of_wp ?_
 simp only[bC,bD,bM,bG,bH,bJ,ae,ah,ag]
 go_wp2
 refine⟨rfl,_,rfl,_,results_none rfl _ _ _,rfl,rfl,?_,?_⟩
 .rw[aO _ _ _ _ _ _ (aO _ _ _ _ _ _ (aO _ _ _ _ _ _ h))];rfl
 .exact(((Chg.refl (λk=>k=g) w).setCell (.inl rfl) _).setCell (.inl rfl) _).setCell (.inl rfl) _
theorem PC(p:Addr)(w:World):CallsD Tryz.prog 41 #[.pointer (some p)] .returning w λr u' w'=>r=.returned (.tuple #[])/\u'=.returning/\w'=w:=by
 refine callsD_of_wpS Tryz.func41 rfl λc₀ cs hu=>?_
 apply wpS_seq
 apply wpS_region
 simp[wpOpsS,go_sem,recoverD,hu,Tryz.ntmps41,Exit.thenS]
 apply wpS_seq
 apply wpS_region
 simp[wpOpsS,go_sem,Exit.thenS]
 refine wpS_of_wp ?_
 go_wp2
 cases c₀
 simp_all[bodyPostS,results,Tryz.results41]
theorem fq(gf:Nat)(cap:Array Value)(e b t:Int)(w:World)(eg:∀args w,(callFunc gf args).run Tryz.prog w=.ok (.enter gf args) w)
  (h:∀W,Below w.heap.size w W->Calls Tryz.prog gf cap W λr W'=>r=.panicked [{v:=.iface 53 (flV e b t),recovered:=false}]/\Below W.heap.size W W'):
  Calls Tryz.prog 17 #[.func (.func gf) #[] cap] w λr w'=>r=.returned (flV e b t)/\Below w.heap.size w w':=by
 have hmf:∀(fn:Fn) (first cap:Array Value) (w:World),(Instr.makeFunc fn first cap).run Tryz.prog w=.ok (.func fn first cap) w:=λ_ _ _ _=>rfl
 have H:=ac h
 clear h
 go_enter_defers Tryz.func17,Tryz.ntmps17
 go_wp2
 refine(H.out _ (eC _ _)).mono ?_
 rintro r W1 ⟨rfl,hb⟩
 have hr:=eB hb (ai w (.cells #[.int .i64 0,.int .i64 0,.int .i64 0] 53))
 have HB:=ac (eA (eC w (.cells #[.int .i64 0,.int .i64 0,.int .i64 0] 53)) hb)
 have HR:=ac hr
 clear hb hr
 go_wp2
 refine leaves_cons (f:=41) (args:=#[.pointer (some ⟨w.heap.size,0,none⟩)]) (by simp) (by simp[go_sem]) ?_
 refine(AW w.heap.size e b t [] _ HR.out).mono ?_
 rintro r u' w2 ⟨rfl,rfl,h2,hc⟩
 obtain⟨d0,d1,d2⟩:=tY h2 rfl
 have hB:Below w.heap.size w w2:=HB.out.trans (hc.below HB.out.size λk e=>by omega)
 simp[Leaves,settle,results,Tryz.results17,go_sem,d0,d1,d2]
 exact hB
theorem VZ(gf:Nat)(cap:Array Value)(w:World)(eg:∀args w,(callFunc gf args).run Tryz.prog w=.ok (.enter gf args) w)
  (h:∀W,Below w.heap.size w W->Calls Tryz.prog gf cap W λr W'=>r=.returned (.tuple #[])/\Below W.heap.size W W'):
  Calls Tryz.prog 17 #[.func (.func gf) #[] cap] w λr w'=>r=.returned (flV 0 (-1) (-1))/\Below w.heap.size w w':=by
 have hmf:∀(fn:Fn) (first cap:Array Value) (w:World),(Instr.makeFunc fn first cap).run Tryz.prog w=.ok (.func fn first cap) w:=λ_ _ _ _=>rfl
 have H:=ac h
 clear h
 go_enter_defers Tryz.func17,Tryz.ntmps17
 go_wp2
 refine(H.out _ (eC _ _)).mono ?_
 rintro r W1 ⟨rfl,hb⟩
 have hr:=eB hb (ai w (.cells #[.int .i64 0,.int .i64 0,.int .i64 0] 53))
 have HB:=ac (eA (eC w (.cells #[.int .i64 0,.int .i64 0,.int .i64 0] 53)) hb)
 have HR:=ac hr
 clear hb hr
 go_wp2_with (
  (go_at_call 42
   refine(pF 0 W1).mono ?_;rintro e W2 ⟨rfl,hb⟩;have h2:=eB hb HR.out;have HB2:=ac (HB.out.trans (hb.mono HB.out.size));have HR2:=ac h2;obtain⟨z0,z1,z2⟩:=kr h2;obtain⟨d0,d1,d2⟩:=tY h2 rfl
   clear hb h2))
 refine leaves_cons (f:=41) (args:=#[.pointer (some ⟨w.heap.size,0,none⟩)]) (by simp) (by simp[go_sem]) ?_
 refine(PC ⟨w.heap.size,0,none⟩ _).mono ?_
 rintro r u' w2 ⟨rfl,rfl,rfl⟩
 have h3:(((W2.setCell ⟨w.heap.size,0,none⟩ (.int .i64 0)).setCell ⟨w.heap.size,1,none⟩ (.int .i64 (-1))).setCell ⟨w.heap.size,2,none⟩ (.int .i64 (-1))).heap[w.heap.size]? =some (.cells #[.int .i64 0,.int .i64 (-1),.int .i64 (-1)] 53 (0,0)):=by rw[aO _ _ _ _ _ _ (aO _ _ _ _ _ _ (aO _ _ _ _ _ _ HR2.out))];rfl
 have hB:=((HB2.out.setCell (p:=⟨w.heap.size,0,none⟩) (aw _) (.int .i64 0)).setCell (p:=⟨w.heap.size,1,none⟩) (aw _) (.int .i64 (-1))).setCell (p:=⟨w.heap.size,2,none⟩) (aw _) (.int .i64 (-1))
 generalize ((W2.setCell ⟨w.heap.size,0,none⟩ (.int .i64 0)).setCell ⟨w.heap.size,1,none⟩ (.int .i64 (-1))).setCell ⟨w.heap.size,2,none⟩ (.int .i64 (-1))=W3 at*
 obtain⟨d0,d1,d2⟩:=tY h3 rfl
 simp[Leaves,settle,results,Tryz.results17,go_sem,d0,d1,d2]
 exact hB
end

section
open Go.RowKit
structure lQ where
 op:Int
 dst:Int
 a:Int
 b:Int
 imm:Int
 callee:Int
 args:List Int
 many:Int
abbrev zX(i:lQ)(aa:Option Addr)(na ca:Nat):Value:=.agg #[.int .i64 i.op,.int .i64 i.dst,.int .i64 i.a,.int .i64 i.b,.int .i64 i.imm,.int .i64 i.callee,.slice aa na ca,.int .i64 i.many]
structure iO where
 d:lQ
 aa:Option Addr
 na:Nat
 ca:Nat
def ZV(r:iO):List Value:= [.int .i64 r.d.op,.int .i64 r.d.dst,.int .i64 r.d.a,.int .i64 r.d.b,.int .i64 r.d.imm,.int .i64 r.d.callee,.slice r.aa r.na r.ca,.int .i64 r.d.many]
theorem TD(r:iO):(ZV r).length=8:=rfl
def vG(w:World)(r:iO):Prop:=fR w r.aa r.na r.d.args/\r.na<=r.ca/\I64 r.d.op/\I64 r.d.dst/\I64 r.d.a/\I64 r.d.b/\I64 r.d.imm/\I64 r.d.callee/\I64 r.d.many
theorem vG.ext{w w':World}{r:iO}(h:vG w r)(hb:Below w.heap.size w w'):vG w' r:=⟨h.1.ext hb,h.2⟩
def rN(w:World)(a:Option Addr)(n:Nat)(rs:List iO):Prop:=mO 8 ZV w a n rs/\∀r∈rs,vG w r
theorem rN.ext{w w':World}{a:Option Addr}{n:Nat}{rs:List iO}(h:rN w a n rs)(hb:Below w.heap.size w w'):rN w' a n rs:=
 ⟨h.1.ext TD hb,λr hr=>(h.2 r hr).ext hb⟩
theorem rN.cells{w:World}{a:Option Addr}{n:Nat}{rs:List iO}(h:rN w a n rs){k:Nat}(hk:k<n):∃r b o,rs[k]? =some r/\vG w r/\a=some ⟨b,o,none⟩/\
  w.cell? ⟨b,o+k*8,none⟩=some (.int .i64 r.d.op)/\w.cell? ⟨b,o+k*8+1,none⟩=some (.int .i64 r.d.dst)/\w.cell? ⟨b,o+k*8+2,none⟩=some (.int .i64 r.d.a)/\w.cell? ⟨b,o+k*8+3,none⟩=some (.int .i64 r.d.b)/\
  w.cell? ⟨b,o+k*8+4,none⟩=some (.int .i64 r.d.imm)/\w.cell? ⟨b,o+k*8+5,none⟩=some (.int .i64 r.d.callee)/\w.cell? ⟨b,o+k*8+6,none⟩=some (.slice r.aa r.na r.ca)/\w.cell? ⟨b,o+k*8+7,none⟩=some (.int .i64 r.d.many):=by
 have hk':k<rs.length:=by rw[h.1.1];exact hk
 obtain⟨r,hr⟩:∃r,rs[k]? =some r:=⟨rs[k],au hk'⟩
 obtain⟨b,o,e,hc⟩:=h.1.2.2 k r hr
 exact⟨r,b,o,hr,h.2 r (aK hr),e,hc 0 (by omega),hc 1 (by omega),hc 2 (by omega),hc 3 (by omega),hc 4 (by omega),hc 5 (by omega),hc 6 (by omega),hc 7 (by omega)⟩
abbrev CW(r:iO):Value:=zX r.d r.aa r.na r.ca
end
end Go.Proofs.YtchdkjenhppleaaGreat
