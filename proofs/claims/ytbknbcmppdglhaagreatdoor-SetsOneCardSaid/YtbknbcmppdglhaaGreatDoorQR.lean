/-
 Parts of a function:slices.SortStableFunc,below forty of them.
-/
import Derived.Test.YtbknbcmppdglhaaGreatDoorA0
import Derived.Test.YtbknbcmppdglhaaGreatDoorQM
import Derived.Test.YtbknbcmppdglhaaGreatDoorQC
import Derived.Test.YtbknbcmppdglhaaGreatDoorQT
import Derived.Test.YtbknbcmppdglhaaGreatDoorTI
import Derived.Test.YtbknbcmppdglhaaGreatDoorQI
import Derived.Test.YtbknbcmppdglhaaGreatDoorUHA
import Derived.Test.YtbknbcmppdglhaaGreatDoorPB
namespace Go.Proofs.YtbknbcmppdglhaaGreatDoor
set_option linter.unusedSimpArgs false
set_option linter.unusedVariables false
set_option linter.unusedSectionVars false
set_option maxRecDepth 100000
set_option maxHeartbeats 40000000
section
open Go.RowKit Go.Shelf
section
variable (af:Nat) (cb:Array Value) (cf:fJ->fJ->Int) (key:fJ->Nat) (base g n c:Nat) (J:List fJ->World->Prop) (S:CN af cb cf key base g n c J) (hn:n<40)
include S hn
theorem ZP(L:List fJ)(w:World)(h:J L w):
  Calls Tryz.prog 155 #[.slice (some ⟨g,0,none⟩) n c,.int .i64 (n:Int),.func (.func af) #[] cb] w λe w'=>e=.returned (.tuple #[])/\∃L',J L' w'/\Sh fH L L' 0 n/\Srt fH key L' 0 n:=by
 have H:=ac h
 have HS:=ac S
 clear h S
 have hn2:(n:Int)<40:=by omega
 go_enter Tryz.func155,Tryz.ntmps155
 go_wp2
 go_loopw [7,8] (λs7 s8 wr=>∃(a0 b0:Nat) (L1:List fJ),s7=.int .i64 (a0:Int)/\s8=.int .i64 (b0:Int)/\Hid (b0=a0+20/\(a0=0\/a0=20)/\a0<=n)/\Hid (J L1 wr)/\Hid (Sh fH L L1 0 n)/\Hid (Srt fH key L1 0 a0)) (λs7 _ _=>40-(intOf s7).toNat)
 case atStart=>exact⟨0,20,L,by go_num,by go_num,⟨rfl,.inl rfl,by omega⟩,H,Sh.refl _ _ _,Srt.one key _ (by omega)⟩
 case round=>
  obtain⟨a0,b0,L1,rfl,rfl,HAB,HJ,HSH,HSR⟩:=hrel;by_cases hlt:b0<=n
  .have hlt':(b0:Int)<=(n:Int):=by omega
   go_wp2_with (
    (go_at_call 224
     have h5:=HAB.out;refine(BL af cb cf key base g n c J HS.out a0 b0 L1 wr HJ.out (by omega) (by omega) hlt).mono ?_;rintro e w2 ⟨rfl,L2,q1,q2,q3⟩;have HJ2:=ac q1;have HSH2:Hid (Sh fH L L2 0 n):=HSH.out.trans (q2.mono (by omega) (by omega));have HAB2:Hid ((b0=0\/b0=20)/\b0<=n):=⟨by omega,hlt⟩
     have HSR2:Hid (Srt fH key L2 0 b0):=by
      have h0:a0=0:=by omega
      rw[h0] at q3;exact q3
     clear q1 q2 q3 h5))
   go_roundw
   case rel=>exact⟨b0,b0+20,L2,rfl,by go_num,⟨rfl,HAB2.out⟩,HJ2,HSH2,HSR2⟩
   case measure=>have h5:=HAB.out;simp[intOf];omega
  .have hlt':¬(b0:Int)<=(n:Int):=by omega
   go_wp2_with (
    (go_at_call 224
     have h5:=HAB.out;refine(BL af cb cf key base g n c J HS.out a0 n L1 wr HJ.out (by omega) (by omega) (aj _)).mono ?_;rintro e w2 ⟨rfl,L2,q1,q2,q3⟩;have HJ2:=ac q1;have HSH2:Hid (Sh fH L L2 0 n):=HSH.out.trans (q2.mono (by omega) (by omega));have HSA:Hid (Srt fH key L2 0 a0):=HSR.out.out key q2 (.inl (aj _));have HSB:Hid (Srt fH key L2 a0 n):=q3
     clear q1 q2 q3 h5))
   clear HJ HSH HSR
   go_loopw [6,7,8,9] (λs6 _ _ _ wi=>∃(bs:Nat) (L3:List fJ),s6=.int .i64 (bs:Int)/\Hid (J L3 wi)/\Hid (Sh fH L L3 0 n)/\(bs=20/\Hid (Srt fH key L3 0 a0/\Srt fH key L3 a0 n)\/bs=40/\Hid (Srt fH key L3 0 n))) (λs6 _ _ _ _=>60-(intOf s6).toNat)
   case atStart=>exact⟨20,L2,by go_num,HJ2,HSH2,.inl ⟨rfl,HSA.out,HSB.out⟩⟩
   case round=>
    obtain⟨bs,L3,rfl,HJ3,HSH3,hbs⟩:=hrel;clear HJ2 HSH2 HSA HSB;by_cases hlt2:bs<n
    .have hlt2':(bs:Int)<(n:Int):=by omega
     obtain⟨hb,HSS⟩:=hbs.resolve_right (by omega);have h5:=HAB.out;have ha20:a0=20:=by omega
     clear h5;subst hb ha20;clear HAB;have hlt3:(20:Int)<(n:Int):=by omega
     go_wp2
     go_loopw [7,8] (λs7 s8 wj=>s7=.int .i64 0/\s8=.int .i64 40/\wj=wr) (λ_ _ _=>0)
     case atStart=>exact⟨by go_num,by go_num,rfl⟩
     case round=>
      obtain⟨rfl,rfl,rfl⟩:=hrel;have h40:¬(40:Int)<=(n:Int):=by omega
      go_wp2_with (
       (go_at_call 225
        refine(RP af cb cf key base g n c J HS.out (by omega) n 0 20 n L3 _ (by omega) HJ3.out (by omega) (by omega) (aj _) HSS.out.1 HSS.out.2).mono ?_;rintro e w5 ⟨rfl,L4,q1,q2,q3⟩;have HJ4:=ac q1;have HSH4:Hid (Sh fH L L4 0 n):=HSH3.out.trans q2;have HSR4:=ac q3
        clear q1 q2 q3))
      go_roundw
      case rel=>(repeat apply Exists.intro);exact⟨⟨40,L4,by go_num,HJ4,HSH4,.inr ⟨rfl,HSR4⟩⟩,rfl⟩
      case measure=>simp[intOf]
    .have hlt2':¬(bs:Int)<(n:Int):=by omega
     have HF:Hid (Srt fH key L3 0 n):=by
      have h5:=HAB.out;rcases hbs with ⟨h1,h2⟩|⟨_,h2⟩
      .rcases HAB.out.2.1 with h3|h3
       .subst h3;exact h2.out.2
       .have:n=20:=by omega
        subst h3;rw[this];exact h2.out.1
      .exact h2.out
     go_wp2
     go_end0
     exact⟨rfl,L3,HJ3.out,HSH3.out,HF.out⟩
theorem MG(L:List fJ)(w:World)(h:J L w):
  Calls Tryz.prog 58 #[.slice (some ⟨g,0,none⟩) n c,.func (.func af) #[] cb] w λe w'=>e=.returned (.tuple #[])/\∃L',J L' w'/\Sh fH L L' 0 n/\Srt fH key L' 0 n:=by
 have H:=ac h
 have HS:=ac S
 clear h S
 go_enter Tryz.func58,Tryz.ntmps58
 go_wp2_with (
  (go_at_call 155
   refine(ZP af cb cf key base g n c J HS.out hn L w H.out).mono ?_;rintro e w2 ⟨rfl,L2,q1,q2,q3⟩;have HJ2:=ac q1;have HQ2:=ac q2;have HQ3:=ac q3
   clear q1 q2 q3))
 go_end0
 exact⟨rfl,L2,HJ2.out,HQ2.out,HQ3.out⟩
end
end

section
open Go.RowKit Go.Shelf
theorem qp(args:Array Value)(w:World):(callFunc 59 args).run Tryz.prog w=.ok (.enter 59 args) w:=by kernel_rfl
def ky(qs:List fJ):Prop:=∀i j,i<j->j<qs.length->ID qs (qs.getD i fH)<=ID qs (qs.getD j fH)
theorem VM{ps qs:List fJ}(h:ps.Perm qs)(p:fJ):ID ps p=ID qs p:=by rw[ID,ID,tA h]
theorem XS(fv:Value)(w:World):Calls Tryz.prog 224 #[.slice none 0 0,.int .i64 0,.int .i64 0,fv] w λe w'=>e=.returned (.tuple #[])/\w=w':=by
 go_enter Tryz.func224,Tryz.ntmps224
 go_wp2
 refine wp_loop_rounds 1 ?_
 rw[rounds_succ]
 go_wp2
 go_end0
 exact⟨rfl,rfl⟩
theorem MF(fv:Value)(w:World):Calls Tryz.prog 155 #[.slice none 0 0,.int .i64 0,fv] w λe w'=>e=.returned (.tuple #[])/\w=w':=by
 go_enter Tryz.func155,Tryz.ntmps155
 go_wp2
 refine wp_loop_rounds 1 ?_
 rw[rounds_succ]
 go_wp2_with (go_at_call 224;refine(XS _ _).mono ?_;rintro e w1 ⟨rfl,rfl⟩)
 refine wp_loop_rounds 1 ?_
 rw[rounds_succ]
 go_wp2
 go_end0
 exact⟨rfl,rfl⟩
theorem RT(fv:Value)(w:World):Calls Tryz.prog 58 #[.slice none 0 0,fv] w λe w'=>e=.returned (.tuple #[])/\w=w':=by
 go_enter Tryz.func58,Tryz.ntmps58
 go_wp2_with (go_at_call 155;refine(MF _ _).mono ?_;rintro e w1 ⟨rfl,rfl⟩)
 go_end0
 exact⟨rfl,rfl⟩
theorem NF(P base bv:Nat)(d:lJ)(v:Value)(L:List fJ)(w:World)(hV:w.heap[bv]? =some (.cells #[.pointer (some ⟨P,0,none⟩)] 132 (0,0)))(hB:w.heap[P]? =some (ED d v))(hL:gP w base v L)(hn:L.length<40)(hsm:∀p∈L,gQ p.s≠[])(hfi:∀p∈L,lW p<300):
  Calls Tryz.prog 58 #[v,.func (.func 59) #[] #[.pointer (some ⟨bv,0,none⟩)]] w λe w'=>e=.returned (.tuple #[])/\∃qs,gP w' base v qs/\L.Perm qs/\ky qs/\Chg (λk=>v.ownBlock=some k) w w':=by
 have hown:=hL.1
 rcases hown.2 with ⟨hv,h0⟩|⟨g,c,cur,hv,_⟩
 .subst hv;have hL0:L= []:=da h0;subst hL0;refine(RT _ w).mono ?_;rintro e w' ⟨rfl,rfl⟩;exact⟨rfl,[],hL,List.Perm.refl _,λi j _ hj=>absurd hj (by simp),Chg.refl _ _⟩
 .subst hv;have hgP:P≠g:=λe=>jW hown hB (by decide) (by rw[e];rfl);have hgV:bv≠g:=λe=>jW hown hV (by decide) (by rw[e];rfl)
  have S:CN 59 #[.pointer (some ⟨bv,0,none⟩)] (cfP L) (ID L) base g L.length c (λM W=>gP W base (.slice (some ⟨g,0,none⟩) L.length c) M/\M.Perm L/\Chg (λk=>k=g) w W):={
   enter:=qp
   cmp:=λM W ⟨h1,h2,h3⟩ p q hp hq=>by
    have h:=Ar P base bv (some ⟨g,0,none⟩) L.length c d M p q W (h3.row hV (λe=>hgV e)) (h3.row hB (λe=>hgP e)) h1 (by omega) (hsm p (h2.mem_iff.1 hp)) (hsm q (h2.mem_iff.1 hq));refine h.mono ?_;rintro e w' ⟨rfl,hb⟩;refine⟨?_,hb⟩;rw[cfP,cfP,tA h2,tA h2]
   less:=λM W ⟨h1,h2,h3⟩ p q hp hq=>At L p q (hfi p (h2.mem_iff.1 hp)) (hfi q (h2.mem_iff.1 hq))
   parts:=λM W h=>h.1
   turn:=λM M' W W' h hp hP hc=>⟨hP,hp.trans h.2.1,h.2.2.trans hc⟩}
  refine(MG _ _ _ _ base g L.length c _ S hn L w ⟨hL,List.Perm.refl _,Chg.refl _ _⟩).mono ?_;rintro e w' ⟨rfl,qs,⟨h1,h2,h3⟩,h4,h5⟩;refine⟨rfl,qs,h1,h2.symm,λi j hij hj=>?_,h3.mono λk hk=>by rw[hk];rfl⟩;have hl:=h2.length_eq;rw[VM h2,VM h2];exact h5 i j (d9 _) hij (by omega)
end

section
open Go.RowKit Go.Shelf
theorem yU{W:World}{base og n c:Nat}{xs:List Int}(h:gD W base (.slice (some ⟨og,0,none⟩) n c) xs):∃cur,W.heap[og]? =some (.cells cur 3 (0,0)):=by
 rcases h.1.2 with ⟨h,_⟩|⟨g4,cap4,cur4,h,_,hg4,_⟩
 .cases h
 .injection h with h;injection h with h;injection h with h;subst h;exact⟨cur4,hg4⟩
theorem gD.put{W:World}{base og n c:Nat}{xs:List Int}(h:gD W base (.slice (some ⟨og,0,none⟩) n c) xs)(x:Nat){y:Int}(hy:I64 y):gD (W.setCell ⟨og,x,none⟩ (.int .i64 y)) base (.slice (some ⟨og,0,none⟩) n c) (xs.set x y):=by
 obtain⟨h1,h2,h3⟩:=h
 have hn:n=xs.length:=by
  rcases h1.2 with ⟨h,_⟩|⟨g4,cap4,cur4,h,_⟩
  .cases h
  .injection h
 subst hn
 refine⟨?_,λz hz=>?_,by rw[eE];exact h3⟩
 .have h4:=(h1.stored x (.int .i64 y)).1;rw[eE,show fP (xs.set x y)=(fP xs).set x (.int .i64 y) by simp[fP,List.map_set]];exact h4
 .rcases List.mem_or_eq_of_mem_set hz with h|h
  .exact h2 z h
  .rw[h];exact hy
structure BdJ(W0:World)(base:Nat)(vp:Value)(qs:List fJ)(ob og n:Nat)(own:List Int)(out:Value)(ls:List iN)(W:World):Prop where
 parts:gP W base vp qs
 cell:W.heap[ob]? =some (.cells #[.slice (some ⟨og,0,none⟩) n n] 22 (0,0))
 own:gD W base (.slice (some ⟨og,0,none⟩) n n) own
 tiles:kW W base out ls
 sepo:∀t∈ls,(bsV t).ownBlock≠some og
 ext:Below W0.heap.size W0 W
 bs:base<=W.heap.size
 w0:W0.heap.size<=base
section
variable {W0 W W3:World} {base:Nat} {vp:Value} {qs:List fJ} {ob og n:Nat} {own:List Int} {out:Value} {ls:List iN}
theorem BdJ.steady{D:Nat}(hD:W0.heap.size<=D):fG D (BdJ W0 base vp qs ob og n own out ls):=λW W' row h hg hr=>
 ⟨(fG.ownR D base vp qs) W W' row h.parts hg hr,(fG.block D ob rfl) W W' row h.cell hg hr,(fG.ownI D base _ own) W W' row h.own hg hr,(kW.steady (D:=D)) W W' row h.tiles hg hr,h.sepo,(fG.below (aj _) hD) W W' row h.ext hg hr,aT h.bs hg.size,h.w0⟩
theorem BdJ.ext'(h:BdJ W0 base vp qs ob og n own out ls W)(hb:Below W.heap.size W W3):BdJ W0 base vp qs ob og n own out ls W3:=
 ⟨gP.ext h.parts hb,fB hb h.cell,h.own.ext hb,h.tiles.ext hb,h.sepo,h.ext.trans (hb.mono (aT h.w0 h.bs)),aT h.bs hb.size,h.w0⟩
theorem BdJ.put(h:BdJ W0 base vp qs ob og n own out ls W)(x:Nat){y:Int}(hy:I64 y):BdJ W0 base vp qs ob og n (own.set x y) out ls (W.setCell ⟨og,x,none⟩ (.int .i64 y)):=by
 obtain⟨cur,hg⟩:=yU h.own
 have g:=fU W og x (.int .i64 y)
 have hlow:=(h.own.1.lt og rfl).1
 have n1:vp.ownBlock≠some og:=jW h.parts.1 hg (by decide)
 have n2:out.ownBlock≠some og:=jW h.tiles.own.1 hg (by decide)
 have key:∀v:Value,v.ownBlock≠some og->v.ownBlock=none\/v.ownBlock≠some og:=λv hv=>.inr hv
 refine⟨iP.kept h.parts g (key _ n1),fQ g h.cell λe=>?_,h.own.put x hy,⟨h.tiles.own.kept g (key _ n2),λt ht=>⟨(h.tiles.each t ht).1.kept g (key _ (h.sepo t ht)),(h.tiles.each t ht).2⟩,h.tiles.sepv,h.tiles.pw⟩,h.sepo,h.ext.grown g h.ext.size (λq e=>by injection e with e;have:=h.w0;omega),aT h.bs (by simp),h.w0⟩
 injection e with e
 subst e
 have:=h.cell
 rw[hg] at this
 injection this with this
 injection this with _ this _
 exact absurd this (by decide)
theorem BdJ.out_low(h:BdJ W0 base vp qs ob og n own out ls W){q:Nat}(hq:out.ownBlock=some q):base<=q:=(h.tiles.own.low hq).1
theorem BdJ.add{v':Value}(h:BdJ W0 base vp qs ob og n own out ls W)(x:iN)(hx:x.ba=none)(hx2:x.bn=0)(hx3:x.bc=0)(hx4:x.d.blocks= [])(hk:I64 x.d.kind/\I64 x.d.parent)(hg:W.grownBy W3 out.ownBlock)
  (ho:W3.ownsRow base 65 3 v' (ls.length+1) (ls.flatMap qN++qN x)) (hat:v'.ownBlock=out.ownBlock\/∃q,v'.ownBlock=some q/\W.heap.size<=q) (hn:ls.length<=1000):BdJ W0 base vp qs ob og n own v' (ls++ [x]) W3:=by
 obtain⟨cur,hgo⟩:=yU h.own
 have n1:out.ownBlock≠some ob:=jW h.tiles.own.1 h.cell (by decide)
 have n2:out.ownBlock≠some og:=jW h.tiles.own.1 hgo (by decide)
 have n3:∀q,out.ownBlock=some q->vp.ownBlock≠some q:=λq hq e=>by
  rcases h.tiles.own.1.2 with ⟨h1,_⟩|⟨g4,cap4,cur4,h1,_,hg4,_⟩
  .rw[h1] at hq;cases hq
  .rw[h1] at hq;simp only[Value.ownBlock,aW] at hq;subst hq;exact jW h.parts.1 hg4 (by decide) e
 have hlow:∀q,out.ownBlock=some q->base<=q:=λq hq=>h.out_low hq
 have key:∀v:Value,(∀q,out.ownBlock=some q->v.ownBlock≠some q)->v.ownBlock=none\/v.ownBlock≠out.ownBlock:=λv hv=>by
  cases e:v.ownBlock with
  |none=>exact .inl rfl
  |some q=>exact .inr λe2=>hv q e2.symm e
 refine⟨iP.kept h.parts hg (key _ n3),fQ hg h.cell n1,h.own.kept hg (key _ λq hq e=>n2 (hq.trans e.symm▸rfl)),h.tiles.add x hx hx2 hx3 hx4 hk hg ho hat hn,λt ht=>?_,h.ext.grown hg h.ext.size (λq e=>by have:=hlow q e;have:=h.w0;omega),aT h.bs hg.size,h.w0⟩
 rcases ax.1 ht with ht|ht
 .exact h.sepo t ht
 .have:t=x:=by simpa using ht
  subst this;rw[bsV,hx];intro e;cases e
theorem BdJ.turn{g m c:Nat}(h:BdJ W0 base vp qs ob og n own (.slice (some ⟨g,0,none⟩) m c) ls W){k:Nat}{t t':iN}(hk:ls[k]? =some t)(hg:W.grownBy W3 (bsV t).ownBlock)(ho:gD W3 base (bsV t') t'.d.blocks)(he:t'.d.kind=t.d.kind/\t'.d.parent=t.d.parent)
  (hat:(bsV t').ownBlock=(bsV t).ownBlock\/∃q,(bsV t').ownBlock=some q/\W.heap.size<=q):BdJ W0 base vp qs ob og n own (.slice (some ⟨g,0,none⟩) m c) (ls.set k t') (W3.setCell ⟨g,k*3+2,none⟩ (bsV t')):=by
 obtain⟨cur,hgo⟩:=yU h.own
 have htm:=aK hk
 have hbt:=(h.tiles.each t htm).1
 have hglow:=h.out_low (q:=g) rfl
 have hblow:∀q,(bsV t).ownBlock=some q->base<=q/\q<W.heap.size:=λq hq=>hbt.1.lt q hq
 have hob:=fE h.cell
 have hogl:=fE hgo
 have htile:∃cur,W.heap[g]? =some (.cells cur 65 (0,0)):=by
  rcases h.tiles.own.1.2 with ⟨h1,_⟩|⟨g4,cap4,cur4,h1,_,hg4,_⟩
  .cases h1
  .injection h1 with h1;injection h1 with h1;injection h1 with h1;subst h1;exact⟨cur4,hg4⟩
 obtain⟨tcur,htg⟩:=htile
 have hne:∀{a:Nat} {cs:Array Value} {ty:TypeId} {fr:Nat×Nat},W.heap[a]? =some (.cells cs ty fr)->ty≠3->(bsV t).ownBlock≠some a:=λha hty=>jW hbt.1 ha hty
 have hgt:W3.heap[g]? =some (.cells tcur 65 (0,0)):=fQ hg htg (hne htg (by decide))
 have g2:=fU W3 g (k*3+2) (bsV t')
 have hcell3:=fQ hg h.cell (hne h.cell (by decide))
 have gne:∀{a:Nat} {cs:Array Value} {ty:TypeId} {fr:Nat×Nat},W3.heap[a]? =some (.cells cs ty fr)->ty≠65->(some g:Option Nat)≠some a:=λha hty e=>by
  injection e with e;subst e;rw[hgt] at ha;injection ha with ha;injection ha with _ ha _;exact hty ha.symm
 have hparts3:gP W3 base vp qs:=iP.kept h.parts hg (by
  cases e:vp.ownBlock with
  |none=>exact .inl rfl
  |some q=>
   refine .inr λe2=>?_;rcases h.parts.1.2 with ⟨h1,_⟩|⟨g4,cap4,cur4,h1,_,hg4,_⟩
   .rw[h1] at e;cases e
   .rw[h1] at e;simp only[Value.ownBlock,aW] at e;subst e
    exact hne hg4 (by decide) e2.symm)
 have hparts4:gP (W3.setCell ⟨g,k*3+2,none⟩ (bsV t')) base vp qs:=iP.kept hparts3 g2 (.inr λe=>by
  rcases hparts3.1.2 with ⟨h1,_⟩|⟨g4,cap4,cur4,h1,_,hg4,_⟩
  .rw[h1] at e;cases e
  .rw[h1] at e;simp only[Value.ownBlock,aW] at e
   exact gne hg4 (by decide) (by rw[e]))
 have hown3:gD W3 base (.slice (some ⟨og,0,none⟩) n n) own:=h.own.kept hg (.inr λe=>h.sepo t htm (by rw[<-e];rfl))
 have hogt:W3.heap[og]? =some (.cells cur 3 (0,0)):=fQ hg hgo (λe=>h.sepo t htm e)
 refine⟨hparts4,fQ g2 hcell3 (gne hcell3 (by decide)),hown3.kept g2 (.inr λe=>gne hogt (by decide) (by rw[<-e];rfl)),h.tiles.turn hk hg ho he hat,λs hs=>?_,(h.ext.grown hg h.ext.size (λq e=>by have:=(hblow q e).1;have:=h.w0;omega)).setCell (by show W0.heap.size<=g;have:=h.w0;omega) _,aT h.bs (aT hg.size (by simp)),h.w0⟩
 rcases List.mem_or_eq_of_mem_set hs with hs|hs
 .exact h.sepo s hs
 .rw[hs];rcases hat with e|⟨q,e,hq⟩
  .rw[e];exact h.sepo t htm
  .rw[e];intro e2;injection e2 with e2;omega
end
theorem B2(ls:List iN)(x:iN):fI (ls++ [x])=fI ls++ [x.d]:=by simp[fI]
theorem B1(ls:List iN)(k:Nat)(x:iN):fI (ls.set k x)=(fI ls).set k x.d:=by simp[fI,List.map_set]
end

section
open Go.RowKit Go.Shelf
attribute [local go_sem] Oper.semAt_some iF gH gS fX
theorem qf:(Tryz.prog.info? 65).map (λi=>(i.zero,i.size,i.bytes))=some (some (.agg #[.int .i64 0,.int .i64 0,.slice none 0 0]),3,40):=by kernel_rfl
theorem xm{tm:Array Value}{ds:List Deferred}{m:Nat}{G:(Nat->Value)->List Deferred->Act}{R:Nat->(Nat->Value)->List Deferred->Prop}(h:(⟨tm,ds⟩:Act)=G (λs=>tm.getD s undef) ds)(m':Nat)(hm:m'<m)(hR:R m' (λs=>tm.getD s undef) ds):∃m',m'<m/\∃u' ds',(⟨tm,ds⟩:Act)=G u' ds'/\R m' u' ds':=⟨m',hm,_,_,h,hR⟩
def RI(ts:List fS)(qs:List fJ):Prop:=(lM ts).Perm qs/\ky qs
def AW(ts:List fS)(w:World)(e:Ending)(w':World):Prop:=
 (jK ts=false->e=.returned (.tuple #[tB,.int .i64 2]))/\(jK ts=true->∃v ls qs,e=.returned (.tuple #[v,.int .i64 0])/\RI ts qs/\kW w' w.heap.size v ls/\fI ls=kH ts.length qs)/\Below w.heap.size w w'
abbrev sy:Obj:=.cells #[.slice none 0 0,.slice none 0 0,.slice none 0 0,.slice none 0 0] 129
theorem yf(pa:Option Addr)(pn pc:Nat)(ba:Option Addr)(bn bc:Nat)(bs:List nA)(w:World)(h:lZ w ba bn bs)(hf:jK (fY bs)=false):
  Calls Tryz.prog 23 #[mB pa pn pc ba bn bc] w (AW (fY bs) w):=by
 have H:=ac h
 have HF:=ac hf
 clear h hf
 go_enter Tryz.func23,Tryz.ntmps23
 go_upto_region 1 with (fail)
 obtain⟨W,hW⟩:∃W,W=w.alloc (gX pa pn pc ba bn bc):=⟨_,rfl⟩
 rw[<-hW]
 have hk0:W.heap[w.heap.size]? =some (gX pa pn pc ba bn bc):=by rw[hW];exact ae _ _
 have hB:Below w.heap.size w W:=by rw[hW];exact fD _ _
 have HK:=ac hk0
 have HB:=ac hB
 clear hW hk0 hB
 go_wp2_with (first
  |(refine ay (o:=⟨some 15,.load 25 _,_,_,_,_⟩) rfl 25 _ rfl w.heap.size rfl 25 _ (0,0) _ HK.out aJ rfl gE ?_)
  |(go_at_call 54
    refine(uD pa pn pc ba bn bc bs W (H.out.ext HB.out)).mono ?_;rintro e w2 ⟨cs,rfl,hcs,hall,hb,hokk⟩;rw[HF.out];have HB2:=ac (fC HB.out hb);have HCS:=ac hcs;have HALL:=ac hall
    clear hb hokk hcs hall)
  |(refine aP rfl 129 _ _ rfl w2.heap.size cs rfl rfl 129 _ (ae w2 sy) (by rw[HCS.out];exact gG) (by rw[HCS.out];rfl) HALL.out ?_))
 refine aR (v:=.tuple #[tB,.int .i64 2]) (by simp[results,Tryz.results23,go_sem,Act.put]) rfl ?_
 unfold AW
 refine⟨λ_=>rfl,?_,aX (HB2.out.alloc HB2.out.size _) HB2.out.size _⟩
 intro h
 rw[HF.out] at h
 cases h
theorem rp(pa:Option Addr)(pn pc:Nat)(ba:Option Addr)(bn bc:Nat)(bs:List nA)(w:World)(h:lZ w ba bn bs)(hf:jK (fY bs)=true)(hbn40:bn<=40):
  Calls Tryz.prog 23 #[mB pa pn pc ba bn bc] w (AW (fY bs) w):=by
 have H:=ac h
 have HF:=ac hf
 have hgood:=(lO _).1 (gT hf).1
 have hbn:(fY bs).length=bn:=by rw[lA];exact h.1.1
 have hbn1:1<=bn:=by rw[<-hbn];exact hgood.1.1
 have hbn2:bn<=200:=by omega
 have HLN:=ac hbn
 clear h hf hgood hbn
 obtain⟨ts,hts⟩:∃ts,ts=fY bs:=⟨_,rfl⟩
 refine(bu (n:=0)).1 ?_
 refine cu Tryz.func23 rfl trivial ?_
 simp only[Tryz.ntmps23,bd,bk,bx,Nat.reduceAdd,Nat.reduceSub,bF,bG,bV,bN,bD,bU]
 refine dy.2 ?_
 go_upto_region 1 with (fail)
 obtain⟨W,hW⟩:∃W,W=w.alloc (gX pa pn pc ba bn bc):=⟨_,rfl⟩
 rw[<-hW]
 have hk0:W.heap[w.heap.size]? =some (gX pa pn pc ba bn bc):=by rw[hW];exact ae _ _
 have hB:Below w.heap.size w W:=by rw[hW];exact fD _ _
 have HK:=ac hk0
 have HB:=ac hB
 clear hW hk0 hB
 go_upto_region 4 with (first
  |(refine ay (o:=⟨some 15,.load 25 _,_,_,_,_⟩) rfl 25 _ rfl w.heap.size rfl 25 _ (0,0) _ HK.out aJ rfl gE ?_)
  |(go_at_call 54
    refine(uD pa pn pc ba bn bc bs W (H.out.ext HB.out)).mono ?_;rintro e w2 ⟨cs,rfl,hcs,hall,hb,hokk⟩;rw[HF.out];obtain⟨ta,tc,fa,fc,hcv,hwk⟩:=hokk HF.out;injection hcv with hcv;subst hcv;have HB2:=ac hb;have HWK:=ac hwk
    clear hb hokk hcs hall hwk)
  |(refine aP rfl 129 _ _ rfl w2.heap.size #[.slice pa pn pc,.slice ba bn bc,.slice ta bn tc,.slice fa bn fc] rfl rfl 129 _ (ae w2 sy) gG rfl rfl ?_))
 obtain⟨d,hd⟩:∃d:lJ,d=⟨pa,pn,pc,ba,bn,bc,ta,tc,fa,fc⟩:=⟨_,rfl⟩
 rw[<-hd] at HWK
 have hdbn:d.bn=bn:=by rw[hd]
 obtain⟨W3,hW3⟩:∃W3,W3=w2.alloc (qM ⟨pa,pn,pc,ba,bn,bc,ta,tc,fa,fc⟩):=⟨_,rfl⟩
 rw[<-hW3]
 have hw3:W3.heap[w2.heap.size]? =some (qM d):=by rw[hW3,hd];exact ae _ _
 have hb3:Below w2.heap.size w2 W3:=by rw[hW3];exact fD _ _
 have HW3:=ac hw3
 have HB3:=ac (fC (fC HB.out HB2.out) hb3)
 have HWK3:=ac (HWK.out.ext hb3)
 have HK3:=ac (fB (fC HB2.out hb3) HK.out)
 have HDD:=ac hd
 clear hW3 hw3 hb3 HWK HB2 HK HB
 go_upto_region 5 with (first
  |(refine ay (o:=⟨some 21,.load 129 _,_,_,_,_⟩) rfl 129 _ rfl w2.heap.size rfl 129 _ (0,0) _ HW3.out aY rfl gG ?_))
 obtain⟨P,hP⟩:∃P,P=W3.heap.size:=⟨_,rfl⟩
 obtain⟨bv,hbv⟩:∃b,b=W3.heap.size+1:=⟨_,rfl⟩
 obtain⟨W4,hW4⟩:∃W4,W4=(W3.alloc (.cells #[.slice pa pn pc,.slice ba bn bc,.slice ta bn tc,.slice fa bn fc,.slice none 0 0] 135)).alloc (.cells #[.pointer (some ⟨W3.heap.size,0,none⟩)] 132):=⟨_,rfl⟩
 rw[<-hW4]
 have hb4:Below W3.heap.size W3 W4:=by rw[hW4];exact(fD _ _).alloc (by simp) _
 have hbd4:W4.heap[P]? =some (ED d tB):=by rw[hW4,hP,hd,aG _ _ _ (by simp)];exact ae _ _
 have hbv4:W4.heap[bv]? =some (.cells #[.pointer (some ⟨P,0,none⟩)] 132 (0,0)):=by rw[hW4,hbv,hP];exact iT _ _ _ (by simp)
 have hsz4:W4.heap.size=W3.heap.size+1+1:=by rw[hW4];simp
 rw[<-hbv,<-hP]
 have HBJ4:Hid (sP W3 d P W4.heap.size tB [] W4):=⟨hbd4,iP.nil _ _ _ _ _,by omega,aj _,by omega,hb4⟩
 have HW4:=ac (fB hb4 HW3.out)
 have HBV4:=ac hbv4
 have HK4:=ac (fB hb4 HK3.out)
 have HB4:=ac (fC HB3.out hb4)
 have hPw:W3.heap.size<=P:=by omega
 have hbvP:P<bv:=by omega
 have hbvs:bv<W4.heap.size:=by omega
 clear hW4 hb4 hbd4 hbv4 hsz4 hP hbv hd
 refine lF 3 [some 24,some 25,some 26] (by kernel_rfl) (by kernel_rfl) (jZ [.val (.pointer (some ⟨P,0,none⟩)),.val (jJ d),.val (.agg (gK (fM d.bn)))]) (jX ?_) ?_ ?_
 .intro k hk;simp only[aS,bO,cX] at hk;rcases hk with rfl|rfl|rfl<;>try exact trivial
 .intro i hi ν lo hi' w1 K hB hD hK;have hcase:i=0\/i=1\/i=2:=by omega
  clear hi;rcases hcase with rfl|rfl|rfl
  .clear hD;refine fF rfl rfl ?_;simp only[zA,zB,zC,zD,zE,zF,zJ,zK,zG,zH,zI] at hK|-;have q1:=fZ hB (show W4.cell? ⟨bv,0,none⟩=some (.pointer (some ⟨P,0,none⟩)) from cR HBV4.out rfl);go_simp;exact hK _ _ (ag _ _) rfl
  .clear hD;refine fF rfl rfl ?_;simp only[zA,zB,zC,zD,zE,zF,zJ,zK,zG,zH,zI] at hK|-;refine cy 129 _ rfl w2.heap.size rfl 129 _ (0,0) _ (fB hB HW4.out) aY rfl gG ?_;exact hK _ _ (ag _ _) rfl
  .have e1:ν 1=(jJ d):=hD 1 (by kernel_rfl);clear hD;refine fF rfl rfl ?_;simp only[zA,zB,zC,zD,zE,zF,zJ,zK,zG,zH,zI,e1] at hK|-;go_simp;refine(wL d (by omega) w1).mono ?_;rintro e w3 ⟨rfl,hb3⟩;exact hK _ _ hb3 rfl
 .intro ν lo hi w1 hB hS hI hD;have e0:ν 0=(.pointer (some ⟨P,0,none⟩)):=hS 0 (by omega);have e1:ν 1=(jJ d):=hS 1 (by omega);have e2:ν 2=(.agg (gK (fM d.bn))):=hS 2 (by omega);clear hS;simp only[am,aw,zA,zB,zC,zD,zE,zF,zJ,zK,zG,zH,zI,e0,e1,e2];have HBJ5:=ac (HBJ4.out.ext' hB);have HBV5:=ac (fB hB HBV4.out);have HK5:=ac (fB hB HK4.out);have HB5:=ac (fC HB4.out hB);have hsz5:W4.heap.size<=w1.heap.size:=hB.size;have HHF:Hid (jK ts=true):=by rw[Hid,hts];exact HF.out
  have HLT:Hid (ts.length=bn):=by rw[Hid,hts];exact HLN.out
  have HWKT:Hid (mQ W3 d ts):=by rw[Hid,hts];exact HWK3.out
  have HLL:Hid (([]:List fJ).length+(nG ts 201 (fM ts.length)).length<=1000):=by
   have:=VH HHF.out;rw[Hid,bx];omega
  have HWL:Hid ((gQ (fM ts.length)).length<201):=by
   have:=bX (fM ts.length) (List.range 200);rw[List.length_range] at this;rw[Hid,gQ];omega
  have HDB:Hid (d.bn=ts.length):=hdbn.trans HLT.out.symm;clear hI hD hB e0 e1 e2 HBJ4 HBV4 HK4 HB4 HW4 hdbn;obtain⟨L0,hL0⟩:∃L,L=nG ts 201 (fM ts.length):=⟨_,rfl⟩
  have HL0:=ac hL0;have HL0l:Hid (L0.length<=200):=by rw[Hid,hL0];exact VH HHF.out
  clear hL0;have HPL:Hid ((lM ts).length+1<=bn):=by rw[Hid,<-HLT.out];exact ET HHF.out
  have HPS:Hid (∀p∈lM ts,gQ p.s≠[]/\lW p<200/\p.s (lW p)=true/\lW p<ts.length/\iV p.s):=GI (by rw[HLT.out];exact hbn2) (wD HHF.out);have HPP:Hid (lM ts=L0++wY ts L0):=by rw[Hid,lM,HL0.out]
  have HCALL:Hid (Calls Tryz.prog 55 #[.pointer (some ⟨P,0,none⟩),.agg (gK (fM d.bn))] w1 (RK W3 d P W4.heap.size tB w1 ([]++nG ts 201 (fM ts.length)))):=by
   have h:=px W3 d ts HWKT.out HHF.out P W4.heap.size 201 (fM ts.length) tB [] w1 (nE (by have:=HLT.out;omega)) (λy hy=>by simpa[fM] using hy) HLL.out HWL.out HBJ5.out;rw[Hid,HDB.out];exact h
  have hwW3:w.heap.size<W3.heap.size:=fE HK3.out
  go_upto_region 8 with (first
   |(go_at_call 55
     refine HCALL.out.mono ?_;rintro e w6 ⟨rfl,v6,hj6,hc6,hv6⟩;rw[bD,<-HL0.out] at hj6;have hbv6:=hc6.row HBV5.out (λhs=>by rcases hs with h|h<;>first|omega|cases h);have HK6:=ac (hc6.row HK5.out (λhs=>by rcases hs with h|h<;>first|omega|cases h));have HBJ6:=ac hj6;have HBV6:=ac hbv6;have HC6:=ac hc6;have q6:=cK 0 hbv6 rfl
     clear hj6 hc6 hv6 hbv6)
   |(go_at_call 57
     refine(qz W3 d ts HWKT.out HHF.out P W4.heap.size v6 L0 w6 (by rw[HL0.out];exact XJ HHF.out) (by have:=HL0l.out;omega) HBJ6.out).mono ?_;rintro e w7 ⟨rfl,v7,hj7,hc7,hv7⟩;rw[<-HPP.out] at hj7
     have hbv7:=hc7.row HBV6.out (λhs=>by
      rcases hs with h|h
      .omega
      .have:=(HBJ6.out.own h).1;omega)
     have HK7:=ac (hc7.row HK6.out (λhs=>by
      rcases hs with h|h
      .omega
      .have:=(HBJ6.out.own h).1;omega))
     have HBJ7:=ac hj7;have HBV7:=ac hbv7;have HC7:=ac hc7;have q7:=cK 0 hbv7 rfl;have p7:=hj7.cell
     clear hj7 hc7 hv7 hbv7 q6)
   |(go_at_call 58
     refine(NF P W4.heap.size bv d v7 (lM ts) w7 HBV7.out HBJ7.out.bld HBJ7.out.parts (by have:=HPL.out;omega) (λp hp=>(HPS.out p hp).1) (λp hp=>by have:=(HPS.out p hp).2.1;omega)).mono ?_;rintro e w8 ⟨rfl,qs,hp8,hperm,hsort,hc8⟩;have HP8:=ac hp8;have HPERM:=ac hperm;have HSORT:=ac hsort;have HC8:=ac hc8
     clear hp8 hperm hsort hc8 q7 p7))
  have hwP:w.heap.size<P:=by omega
  generalize W4.heap.size=base at *;have hlow7:∀q,v7.ownBlock=some q->base<=q/\q<w7.heap.size:=λq hq=>HBJ7.out.own hq;have hw7:base<=w7.heap.size:=HBJ7.out.bs;have hw8:base<=w8.heap.size:=aT hw7 HC8.out.size;have HK8:=ac (HC8.out.row HK7.out (λhs=>by have:=(hlow7 _ hs).1;omega));have HBV8:=ac (HC8.out.row HBV7.out (λhs=>by have:=(hlow7 _ hs).1;omega));have HBL8:=ac (HC8.out.row HBJ7.out.bld (λhs=>by have:=(hlow7 _ hs).1;omega));have HE8:Hid (Below W3.heap.size W3 w8):=HBJ7.out.ext.trans (HC8.out.below (B:=W3.heap.size) (by omega) (λq hq=>by have:=(hlow7 q hq).1;omega));obtain⟨pa7,pc7,hv7f⟩:=iP.form HP8.out;obtain⟨m,hm⟩:∃m,m=qs.length:=⟨_,rfl⟩
  rw[<-hm] at hv7f;subst hv7f;have hml:m+1<=bn:=by rw[hm,<-HPERM.out.length_eq];exact HPL.out
  have HM:=ac hm;clear hm HC6 HC7 HC8 HK7 HBV7 HBJ7 HK6 HBV6 HBJ6 HBJ5 HBV5 HK5 hlow7;go_upto_region 9 with (fail)
  obtain⟨W9,hW9⟩:∃W9,W9=w8.alloc (.cells #[.int .i64 1,.int .i64 (-1),.slice none 0 0] 65):=⟨_,rfl⟩
  rw[<-hW9];obtain⟨T0,hT0⟩:∃T,T=w8.heap.size:=⟨_,rfl⟩
  rw[<-hT0];have hb9:Below w8.heap.size w8 W9:=by rw[hW9];exact fD _ _
  have ht9:W9.heap[T0]? =some (.cells #[.int .i64 1,.int .i64 (-1),.slice none 0 0] 65 (0,0)):=by rw[hW9,hT0];exact ae _ _
  have i1:I64 1:=by unfold I64;omega
  have im:I64 (-1):=by unfold I64;omega
  have hti9:kW W9 base (.slice (some ⟨T0,0,none⟩) 1 1) [⟨⟨1,-1,[]⟩,none,0,0⟩]:=NZ W9 T0 ⟨⟨1,-1,[]⟩,none,0,0⟩ ht9 base (by omega) (gD.nil _ _) ⟨i1,im⟩ (λe=>by cases e);have k9:=cK 1 (fB hb9 HK8.out) rfl;have hbs9:base<=W9.heap.size:=aT hw8 hb9.size;have HTI9:=ac hti9;have HP9:=ac (gP.ext HP8.out hb9);have HBV9:=ac (fB hb9 HBV8.out);have HBL9:=ac (fB hb9 HBL8.out);have HK9:=ac (fB hb9 HK8.out);have HE9:=ac (HE8.out.trans (hb9.mono HE8.out.size));obtain⟨i0,hi,hz0,hz1,hz2⟩:=info_parts (P:=Tryz.prog) pY;clear hW9 hb9 ht9 i1 im hti9 HP8 HBV8 HBL8 HK8 HE8 hw8 hw7 hT0
  go_upto_region 10 with (
   (at_make
    refine wpList_make_full W9 rfl _ _ 22 rfl base 3 i0 (.int .i64 0) 1 be hi hz0 hz1 .i64 .i64 _ _ bn rfl rfl rfl rfl (by rw[hz2];omega) (by simp only[maxLen];omega) hbs9 ?_;intro w10 hown10 hg10;have HOWN10:=ac hown10;have HG10:=ac hg10
    clear hown10 hg10))
  obtain⟨ob,hob⟩:∃b,b=w10.heap.size:=⟨_,rfl⟩
  obtain⟨og,hog⟩:∃b,b=W9.heap.size:=⟨_,rfl⟩
  obtain⟨W11,hW11⟩:∃W,W=w10.alloc (.cells #[.slice (some ⟨og,0,none⟩) bn bn] 22):=⟨_,rfl⟩
  rw[<-hog,<-hob,<-hW11];have hg11:w10.grownBy W11 none:=by rw[hW11];exact eW _ _ _
  have hb10:Below W9.heap.size W9 w10:=⟨HG10.out.os,HG10.out.tape,HG10.out.output,HG10.out.size,λk hk=>HG10.out.block k hk (by simp)⟩
  have hb11:Below W9.heap.size W9 W11:=by rw[hW11];exact fC hb10 (fD _ _)
  have hown11:gD W11 base (.slice (some ⟨og,0,none⟩) bn bn) (IC bn qs 0):=by
   have e:(madeCells (Value.int .i64 0).cells (bn*1)).toList=fP (List.replicate bn 0):=by
    have:(Value.int .i64 0).cells= #[.int .i64 0]:=rfl;rw[this,toList_madeCells_one,fm];simp[fP]
   have h1:=HOWN10.out.kept hg11 (.inr (by simp[Value.ownBlock]));rw[e,<-hog] at h1;rw[ph];refine⟨by rw[eH];exact h1,λx hx=>?_,by rw[eH];omega⟩;rw[List.eq_of_mem_replicate hx];unfold I64;omega
  have hc11:W11.heap[ob]? =some (.cells #[.slice (some ⟨og,0,none⟩) bn bn] 22 (0,0)):=by rw[hW11,hob];exact ae _ _
  have HBD0:Hid (BdJ W3 base (.slice pa7 m pc7) qs ob og bn (IC bn qs 0) (.slice (some ⟨T0,0,none⟩) 1 1) [⟨⟨1,-1,[]⟩,none,0,0⟩] W11):=
   ⟨gP.ext HP9.out hb11,hc11,hown11,HTI9.out.ext hb11,(λt ht e2=>by(have e:t=⟨⟨1,-1,[]⟩,none,0,0⟩:=(by simpa using ht));rw[e] at e2;cases e2),HE9.out.trans (hb11.mono HE9.out.size),aT hbs9 hb11.size,by omega⟩
  have q11:=cK 0 (fB hb11 HBV9.out) rfl;have p11:=cK 4 (fB hb11 HBL9.out) rfl;have HB11:=ac hb11;clear hW11 hg11 hb10 hb11 hown11 hc11 hob hog HOWN10 HG10 HTI9 HP9 HBV9 HBL9 HK9 HE9 hi hz0 hz1 hz2 k9;go_wp2;refine(dy (n:=0)).1 ?_;refine uK [7,9,10,11,47,48,49,50,51,52,53,54,55,56,57,58,59,60,61,62,63,64,65,66,67,68,69,70,71,72,73,74] (λr u ds W=>∃(k:Nat) (out:Value) (ls:List iN),r=m-k/\k<=m/\u 47=.int .i64 (k:Int)/\u 7=out/\Hid (BdJ W3 base (.slice pa7 m pc7) qs ob og bn (IC bn qs k) out ls W)/\Hid (fI ls=yK qs k)/\Hid (lU base W.heap.size ds W)) m ?_ ?_
  .exact⟨0,_,_,rfl,by omega,rfl,rfl,HBD0,rfl,lU.nil _ _ _⟩
  .rintro r u ds Wr ⟨k,out,ls,rfl,hk,e47,e7,HBD,HTD,HMK⟩;clear HBD0 q11 p11;refine dy.2 ?_;simp only[uY,ed,List.foldl_nil,ar,aH,aF,e47,e7];by_cases hlt:k<m
   .have hlt':(k:Int)<(m:Int):=by omega
    obtain⟨pg,rfl⟩:∃g,pa7=some ⟨g,0,none⟩:=by
     obtain⟨g,c',e⟩:=rK HBD.out.parts.1 (by have:=HM.out;omega);injection e with e _ _;exact⟨g,e⟩
    have hr:=jP HBD.out.parts hlt;obtain⟨q,hq⟩:∃q,q=qs.getD k fH:=⟨_,rfl⟩
    rw[<-hq] at hr;have HQ:=ac hq;clear hq e47 e7
    go_upto_region 13 with (first
     |(refine dD rfl 142 _ rfl pg (k*202) rfl (gJ q) _ hr bm rfl (hX _) ?_)
     |(refine aP rfl 142 _ _ rfl (Wr.heap.size+1) (gJ q).toArray rfl rfl 142 Tryz.zeroCells142 (iT _ _ _ (by simp)) (hZ _) (by rw[tQ,bd,kC]) (bH (iO _)) ?_))
    obtain⟨W12,hW12⟩:∃W,W=((Wr.alloc (.cells #[.int .i64 (k:Int)] 3)).alloc (.cells Tryz.zeroCells142 142)).setRow (Wr.heap.size+1) (gJ q).toArray:=⟨_,rfl⟩
    rw[<-hW12,kN];have hb12:Below Wr.heap.size Wr W12:=by rw[hW12];exact aX ((fD _ _).alloc (by simp) _) (by omega) _
    have hk12:W12.heap[Wr.heap.size]? =some (.cells #[.int .i64 (k:Int)] 3 (0,0)):=by rw[hW12,cC _ _ _ _ (by omega),aG _ _ _ (by simp)];exact ae _ _
    have hp12:W12.heap[Wr.heap.size+1]? =some (qO q):=by rw[hW12];exact bt _ _ _ _ _ _ (iT _ _ _ (by simp))
    have hsz12:W12.heap.size=Wr.heap.size+1+1:=by rw[hW12];simp
    have HBD12:=ac (HBD.out.ext' hb12);have HOWNR:=ac HBD.out.own;have HK12:=ac hk12;have HP12:=ac hp12;have HMK12:=ac ((HMK.out.mono (hi':=W12.heap.size) (by omega)).keep (gC.ext hb12));obtain⟨kb,hkb⟩:∃b,b=Wr.heap.size:=⟨_,rfl⟩
    rw[<-hkb] at HK12 HP12|-;have hkbs:kb+1<W12.heap.size:=by omega
    have hkb0:base<=kb:=by have:=HBD.out.bs;omega
    have HKB:=ac hkb;clear hW12 hb12 hk12 hp12 hsz12 HBD HMK hr hkb;obtain⟨oa,oc,hof⟩:=HBD12.out.tiles.own.form;have hll:ls.length=k+1:=by have:=bh List.length HTD.out;rw[KS] at this;simpa[fI] using this
    rw[hll] at hof;subst hof;have hqm:q∈lM ts:=by
     rw[HPERM.out.mem_iff,HQ.out];have hk2:k<qs.length:=by rw[<-HM.out];exact hlt
     rw[ak,ah hk2];exact bJ _
    obtain⟨hqne,hq200,hqin,hqn,hqc⟩:=HPS.out q hqm;have hkd:=(wD HHF.out).kind q hqm;obtain⟨fp,hfp⟩:∃x,x=lW q:=⟨_,rfl⟩
    obtain⟨lp,hlp⟩:∃x,x=kG qs fp k:=⟨_,rfl⟩
    have hfn:fp<bn:=by rw[hfp,<-HLT.out];exact hqn
    have hfn':(fp:Int)<(bn:Int):=by omega
    have hll':=HLT.out;have hlpk:lp<=k:=by rw[hlp];exact oZ qs fp k
    have hof:W12.cell? ⟨og,fp,none⟩=some (.int .i64 (lp:Int)):=by
     obtain⟨b,o,e,hc,_⟩:=HBD12.out.own.ints.2.2 fp hfn;injection e with e;injection e with e1 e2;subst e1 e2;rw[bQ,ll _ _ _ _ hfn,<-hlp] at hc;exact hc
    have HOGK:Hid (og<kb):=by obtain⟨cur,hcur⟩:=yU HOWNR.out;have:=fE hcur;rw[Hid,HKB.out];exact this
    have HLOW:Hid (∀y,q.s y=true->y<bn):=λy hy=>by have:=((wD HHF.out).low q hqm y hy).2;omega
    have HOF:=ac hof;have HQNE:=ac hqne;have HQC:=ac hqc;have HKD:=ac hkd;have HFP:=ac hfp;have HLP:=ac hlp;have HLL:=ac hll;clear hof hqm hqne hq200 hqin hqn hqc hkd hfp hlp hll hll';refine lF 13 [some 52,some 53,some 54,some 55,some 56,some 57,some 58,some 59,some 60,some 61,some 62,some 63,some 64] (by kernel_rfl) (by kernel_rfl) (jZ [.val (.slice oa (k+1) oc),.val (.pointer (some ⟨kb+1,200,none⟩)),.val (.int .i64 q.kind),.val (.slice (some ⟨og,0,none⟩) bn bn),.val (.pointer (some ⟨kb+1,0,none⟩)),.val (.agg (gK q.s)),(.any λv lo hi W=>∃g5 n5 c5,v=.slice (some ⟨g5,0,none⟩) n5 c5/\0<n5/\W.cell? ⟨g5,0,none⟩=some (.int .i64 (fp:Int))),(.any λv lo hi W=>∃g5,v=.pointer (some ⟨g5,0,none⟩)/\W.cell? ⟨g5,0,none⟩=some (.int .i64 (fp:Int))),.val (.int .i64 (fp:Int)),.val (.pointer (some ⟨og,fp,none⟩)),.val (.int .i64 (lp:Int)),.val (.agg #[.int .i64 q.kind,.int .i64 (lp:Int),.slice none 0 0]),(.any λv lo hi W=>∃B9,v=.slice (some ⟨B9,0,none⟩) 1 1/\W.heap[B9]? =some (.cells #[.int .i64 q.kind,.int .i64 (lp:Int),.slice none 0 0] 65 (0,0)))]) (jX ?_) ?_ ?_
    .intro k hk;simp only[aS,bO,cX] at hk;rcases hk with rfl|rfl|rfl|rfl|rfl|rfl|rfl|rfl|rfl|rfl|rfl|rfl|rfl<;>try exact trivial
     .intro v lo hi w w' hb ⟨g5,n5,c5,e,hn,hc⟩;exact⟨g5,n5,c5,e,hn,fZ hb hc⟩
     .intro v lo hi w w' hb ⟨g5,e,hc⟩;exact⟨g5,e,fZ hb hc⟩
     .intro v lo hi w w' hb ⟨B9,e,hc⟩;exact⟨B9,e,fB hb hc⟩
    .intro i hi ν lo hi' w1 K hB hD hK;have hcase:i=0\/i=1\/i=2\/i=3\/i=4\/i=5\/i=6\/i=7\/i=8\/i=9\/i=10\/i=11\/i=12:=by omega
     clear hi;rcases hcase with rfl|rfl|rfl|rfl|rfl|rfl|rfl|rfl|rfl|rfl|rfl|rfl|rfl
     .clear hD;refine fF rfl rfl ?_;simp only[zA,zB,zC,zD,zE,zF,zJ,zK,zG,zH,zI] at hK|-;go_simp;exact hK _ _ (ag _ _) rfl
     .clear hD;refine fF rfl rfl ?_;simp only[zA,zB,zC,zD,zE,zF,zJ,zK,zG,zH,zI] at hK|-;go_simp;exact hK _ _ (ag _ _) rfl
     .have e1:ν 1=(.pointer (some ⟨kb+1,200,none⟩)):=hD 1 (by kernel_rfl);clear hD;refine fF rfl rfl ?_;simp only[zA,zB,zC,zD,zE,zF,zJ,zK,zG,zH,zI,e1] at hK|-;have hcl:=(BX (fB hB HP12.out)).1;go_simp;exact hK _ _ (ag _ _) rfl
     .clear hD;refine fF rfl rfl ?_;simp only[zA,zB,zC,zD,zE,zF,zJ,zK,zG,zH,zI] at hK|-;have hcl:=cK 0 (fB hB HBD12.out.cell) rfl;go_simp;exact hK _ _ (ag _ _) rfl
     .clear hD;refine fF rfl rfl ?_;simp only[zA,zB,zC,zD,zE,zF,zJ,zK,zG,zH,zI] at hK|-;go_simp;exact hK _ _ (ag _ _) rfl
     .have e4:ν 4=(.pointer (some ⟨kb+1,0,none⟩)):=hD 4 (by kernel_rfl);clear hD;refine fF rfl rfl ?_;simp only[zA,zB,zC,zD,zE,zF,zJ,zK,zG,zH,zI,e4] at hK|-;refine cp 138 _ rfl (kb+1) 0 rfl (gK q.s).toList _ (qS (fB hB HP12.out)) aL rfl (by rw[cL,fO];exact gF) ?_;exact hK _ _ (ag _ _) (show Value.agg (gK q.s).toList.toArray=.agg (gK q.s) by simp)
     .have e5:ν 5=(.agg (gK q.s)):=hD 5 (by kernel_rfl);clear hD;refine fF rfl rfl ?_;simp only[zA,zB,zC,zD,zE,zF,zJ,zK,zG,zH,zI,e5] at hK|-;go_simp;refine(DH q.s w1).mono ?_;rintro e w3 ⟨vl,rfl,ho,hb3⟩;obtain⟨g5,n5,c5,rfl,hn5,hcell⟩:=JW ho HQNE.out;exact hK _ _ hb3 ⟨g5,n5,c5,rfl,hn5,by rw[HFP.out];exact hcell⟩
     .have e6:=hD 6 (by kernel_rfl);unfold jZ at e6;simp only[br,bq,nC] at e6;clear hD;refine fF rfl rfl ?_;simp only[zA,zB,zC,zD,zE,zF,zJ,zK,zG,zH,zI] at hK|-;obtain⟨g5,n5,c5,e6',hn5,hcell⟩:=e6;simp only[e6'] at hK|-;have hn5':(0:Int)<(n5:Int):=(by omega)
      go_simp;exact hK _ _ (ag _ _) ⟨g5,rfl,hcell⟩
     .have e7:=hD 7 (by kernel_rfl);unfold jZ at e7;simp only[br,bq,nC] at e7;clear hD;refine fF rfl rfl ?_;simp only[zA,zB,zC,zD,zE,zF,zJ,zK,zG,zH,zI] at hK|-;obtain⟨g5,e7',hcell⟩:=e7;simp only[e7'] at hK|-;go_simp;exact hK _ _ (ag _ _) rfl
     .have e3:ν 3=(.slice (some ⟨og,0,none⟩) bn bn):=hD 3 (by kernel_rfl);have e8:ν 8=(.int .i64 (fp:Int)):=hD 8 (by kernel_rfl);clear hD;refine fF rfl rfl ?_;simp only[zA,zB,zC,zD,zE,zF,zJ,zK,zG,zH,zI,e3,e8] at hK|-;go_simp;exact hK _ _ (ag _ _) rfl
     .have e9:ν 9=(.pointer (some ⟨og,fp,none⟩)):=hD 9 (by kernel_rfl);clear hD;refine fF rfl rfl ?_;simp only[zA,zB,zC,zD,zE,zF,zJ,zK,zG,zH,zI,e9] at hK|-;have hcl:=fZ hB HOF.out;go_simp;exact hK _ _ (ag _ _) rfl
     .have e2:ν 2=(.int .i64 q.kind):=hD 2 (by kernel_rfl);have e10:ν 10=(.int .i64 (lp:Int)):=hD 10 (by kernel_rfl);clear hD;refine fF rfl rfl ?_;simp only[zA,zB,zC,zD,zE,zF,zJ,zK,zG,zH,zI,e2,e10] at hK|-;go_simp;exact hK _ _ (ag _ _) rfl
     .have e11:ν 11=(.agg #[.int .i64 q.kind,.int .i64 (lp:Int),.slice none 0 0]):=hD 11 (by kernel_rfl);clear hD;refine fF rfl rfl ?_;simp only[zA,zB,zC,zD,zE,zF,zJ,zK,zG,zH,zI,e11] at hK|-;go_simp;exact hK _ _ (fD _ _) ⟨_,rfl,ae _ _⟩
    .intro ν lo hi w1 hB hS hI hD;have e0:ν 0=(.slice oa (k+1) oc):=hS 0 (by omega);have e1:ν 1=(.pointer (some ⟨kb+1,200,none⟩)):=hS 1 (by omega);have e2:ν 2=(.int .i64 q.kind):=hS 2 (by omega);have e3:ν 3=(.slice (some ⟨og,0,none⟩) bn bn):=hS 3 (by omega);have e4:ν 4=(.pointer (some ⟨kb+1,0,none⟩)):=hS 4 (by omega);have e5:ν 5=(.agg (gK q.s)):=hS 5 (by omega);have e6:=hS 6 (by omega);unfold jZ at e6;simp only[br,bq,nC] at e6;have e7:=hS 7 (by omega);unfold jZ at e7;simp only[br,bq,nC] at e7;have e8:ν 8=(.int .i64 (fp:Int)):=hS 8 (by omega);have e9:ν 9=(.pointer (some ⟨og,fp,none⟩)):=hS 9 (by omega);have e10:ν 10=(.int .i64 (lp:Int)):=hS 10 (by omega);have e11:ν 11=(.agg #[.int .i64 q.kind,.int .i64 (lp:Int),.slice none 0 0]):=hS 11 (by omega);have e12:=hS 12 (by omega);unfold jZ at e12;simp only[br,bq,nC] at e12;clear hS;simp only[am,aw,zA,zB,zC,zD,zE,zF,zJ,zK,zG,zH,zI,e0,e1,e2,e3,e4,e5,e8,e9,e10,e11];obtain⟨B9,e12',h12⟩:=e12;simp only[e12'];have HBD13:=ac (HBD12.out.ext' hB);have HK13:=ac (fB hB HK12.out);have HP13:=ac (fB hB HP12.out);have HMK13:=ac ((HMK12.out.mono hB.size).keep (gC.ext hB));have hsz13:=hB.size;have HB9:=ac h12;have hbs13:=HBD13.out.bs;have hown13:=HBD13.out.tiles.own.1;rw[HLL.out] at hown13;have HOWN13:=ac hown13;clear hI hD hB e0 e1 e2 e3 e4 e5 e6 e7 e8 e9 e10 e11 e12' h12 HBD12 HK12 HP12 HMK12 HOF hown13;refine rO w1 rfl (.tmp 52) (.tmp 64) 26 65 rfl base _ 3 40 Tryz.underlying26 qf rfl (by omega) (.slice oa (k+1) oc) (k+1) _ rfl HOWN13.out (some ⟨B9,0,none⟩) 1 1 rfl [.int .i64 q.kind,.int .i64 (lp:Int),.slice none 0 0] rfl (λj u hu=>⟨_,rfl,by rw[show(⟨B9,0,none⟩:Addr).add j=⟨B9,0+j,none⟩ by simp only[Addr.add];split<;>simp_all,aZ _ _ _ _ _ _ HB9.out,bQ];simpa using hu⟩) (λu hu=>by simp at hu;rcases hu with rfl|rfl|rfl<;>rfl) (by simp only[maxLen];omega) (by omega) hbs13 ?_;intro v14 w14 hown14 hg14 hat14;have HOWN14:=ac hown14;have HG14:=ac hg14;have HAT14:=ac hat14;clear hown14 hg14 hat14
     have hkeep14:gC w1 w14:=gC.grown HG14.out (λj o e ho=>by
      rcases HOWN13.out.2 with ⟨h,_⟩|⟨g',cap',cur,h,_,hg',_⟩
      .rw[h] at e;cases e
      .rw[h] at e;simp only[Value.ownBlock,aW] at e;subst e;rw[hg'] at ho;cases ho
       rfl)
     have ik:I64 q.kind:=by unfold I64;rcases HKD.out with h|h|h<;>rw[h]<;>omega
     have il:I64 (lp:Int):=by unfold I64;omega
     have HBD14:=ac (HBD13.out.add (v':=v14) ⟨⟨q.kind,(lp:Int),[]⟩,none,0,0⟩ rfl rfl rfl rfl ⟨ik,il⟩ HG14.out (by rw[HLL.out];exact HOWN14.out) (by
      rcases HAT14.out with h|h
      .exact .inl h
      .exact .inr ⟨_,h,aj _⟩) (by have:=HLL.out;omega))
     have HTD14:Hid (fI (ls++ [⟨⟨q.kind,(lp:Int),[]⟩,none,0,0⟩])=yK qs (k+1)):=by
      rw[Hid,B2,HTD.out,WN,TX,<-HQ.out,<-HFP.out,<-HLP.out]
     obtain⟨ls14,hls14⟩:∃x,x=ls++ [(⟨⟨q.kind,(lp:Int),[]⟩,none,0,0⟩:iN)]:=⟨_,rfl⟩
     rw[<-hls14] at HBD14 HTD14;have HK14:=ac (fQ HG14.out HK13.out (jW HOWN13.out HK13.out (by decide)));have HP14:=ac (fQ HG14.out HP13.out (jW HOWN13.out HP13.out (by decide)));have HMK14:=ac ((HMK13.out.mono HG14.out.size).keep hkeep14);clear ik il hls14 hkeep14 HBD13 HK13 HP13 HMK13 HOWN13 HOWN14 HG14 HAT14 HB9 HTD hsz13 hbs13
     go_wp2_with (go_at_call 64;refine(sW _ _).mono ?_;rintro e w' ⟨rfl,rfl⟩)
     obtain⟨eb,heb⟩:∃b,b=w14.heap.size:=⟨_,rfl⟩
     obtain⟨w15,hw15⟩:∃W,W=w14.alloc (.cells #[.pointer (some ⟨kb+1,0,none⟩)] 245):=⟨_,rfl⟩
     rw[<-hw15,<-heb];have hb15:Below w14.heap.size w14 w15:=by rw[hw15];exact fD _ _
     have he15:w15.heap[eb]? =some (.cells #[.pointer (some ⟨kb+1,0,none⟩)] 245 (0,0)):=by rw[hw15,heb];exact ae _ _
     have hsz15:W3.heap.size<=w15.heap.size:=by have:=HBD14.out.bs;have:=hb15.size;have:=HBD14.out.w0;omega
     have hkb15:kb+1<w15.heap.size:=by have:=fE HP14.out;have:=hb15.size;omega
     have hogk:og<kb:=HOGK.out
     have HST:Hid (BdJ W3 base (.slice (some ⟨pg,0,none⟩) m pc7) qs ob og bn (yA bn qs k []) v14 ls14 w15/\w15.heap[kb]? =some (.cells #[.int .i64 (k:Int)] 3 (0,0))/\w15.heap[kb+1]? =some (qO q)/\w15.heap[eb]? =some (.cells #[.pointer (some ⟨kb+1,0,none⟩)] 245 (0,0))/\lU base w15.heap.size ds w15):=
      ⟨by rw[pd];exact HBD14.out.ext' hb15,fB hb15 HK14.out,fB hb15 HP14.out,he15,(HMK14.out.mono hb15.size).keep (gC.ext hb15)⟩
     have HOGE:Hid (og<eb):=by have h1:=fE HP14.out;rw[Hid,heb];omega
     clear hw15 hb15 he15 heb HBD14 HK14 HP14 HMK14;refine(dy (n:=0)).1 ?_
     refine GF (ps:=#[68]) (gf:=159) (lb:=#[.pointer (some ⟨eb,0,none⟩)]) (enc:=rU) (l:=gQ q.s) rfl pE _ (jl q.s eb (kb+1)) (λ_=>rfl)
      (λdn r W=>Hid (BdJ W3 base (.slice (some ⟨pg,0,none⟩) m pc7) qs ob og bn (yA bn qs k dn) v14 ls14 W/\W.heap[kb]? =some (.cells #[.int .i64 (k:Int)] 3 (0,0))/\W.heap[kb+1]? =some (qO q)/\W.heap[eb]? =some (.cells #[.pointer (some ⟨kb+1,0,none⟩)] 245 (0,0))/\lU base w15.heap.size ds W)) (λ_ _=>False)
      (λdn r=>(BdJ.steady hsz15).and ((fG.block _ _ rfl).and ((fG.block _ _ rfl).and ((fG.block _ _ rfl).and (fG.marks (aj _) _))))) (λc=>fG.pure _ _)
      (λdn r W h=>⟨cR h.out.2.2.2.1 rfl,λj hj=>OJ h.out.2.2.1 hj⟩) HST ?round ?done ?stop
     case stop=>rintro D c Wx hD h;exact h.elim
     case round=>
      rintro lq dn x r W hd hJ;unfold rU
      gi_wp2
      refine⟨gC.refl _,hJ,?_⟩;clear hJ lq W;rintro lq W hlq ⟨rc,hrc⟩ hJ;have hxin:q.s x=true:=(kV HQC.out x).1 (by rw[hd];simp);have hxn:x<bn:=HLOW.out x hxin;obtain⟨cur,hcur⟩:=yU hJ.out.1.own;have hfz:W.frozen? ⟨og,x,none⟩=false:=cY _ _ _ _ _ hcur;have c1:=cK 0 hJ.out.1.cell rfl;have c2:=cK 0 hJ.out.2.1 rfl;obtain⟨y9,c3⟩:∃y:Int,W.cell? ⟨og,x,none⟩=some (.int .i64 y):=by
       obtain⟨b,o,e,hc,_⟩:=hJ.out.1.own.ints.2.2 x hxn;injection e with e;injection e with e1 e2;subst e1 e2;rw[bQ] at hc;exact⟨_,hc⟩
      have hogW:=fE hcur;have hxn':(x:Int)<(bn:Int):=by omega
      have HN:Hid (BdJ W3 base (.slice (some ⟨pg,0,none⟩) m pc7) qs ob og bn (yA bn qs k (dn++ [x])) v14 ls14 (W.setCell ⟨og,x,none⟩ (.int .i64 ((k:Int)+1)))/\(W.setCell ⟨og,x,none⟩ (.int .i64 ((k:Int)+1))).heap[kb]? =some (.cells #[.int .i64 (k:Int)] 3 (0,0))/\(W.setCell ⟨og,x,none⟩ (.int .i64 ((k:Int)+1))).heap[kb+1]? =some (qO q)/\(W.setCell ⟨og,x,none⟩ (.int .i64 ((k:Int)+1))).heap[eb]? =some (.cells #[.pointer (some ⟨kb+1,0,none⟩)] 245 (0,0))/\lU base w15.heap.size ds (W.setCell ⟨og,x,none⟩ (.int .i64 ((k:Int)+1)))):=by
       obtain⟨j1,j2,j3,j4,j5⟩:=hJ.out;have g:=fU W og x (.int .i64 ((k:Int)+1));have hge:=HOGE.out;refine⟨?_,fQ g j2 (λe=>by injection e with e;omega),fQ g j3 (λe=>by injection e with e;omega),fQ g j4 (λe=>by injection e with e;omega),j5.keep (gC.setCell _ _ _)⟩;rw[<-gn _ _ _ _ _ hxn,show((k+1:Nat):Int)=(k:Int)+1 by omega];exact j1.put x (by unfold I64;omega)
      clear hJ hcur hd
      gi_wp2
      exact⟨gC.setCell _ _ _,HN⟩
     case done=>
      rintro D W hD hJ hK;have hj9:=hJ.out.1;rw[HQ.out,pf _ _ _ (by rw[<-HQ.out];exact HQC.out)] at hj9;have HBD9:=ac hj9;have HMK9:Hid (lU base W.heap.size (TY D :: ds) W):=hJ.out.2.2.2.2.cons hD (by have:=HBD9.out.bs;have:=fE hJ.out.2.2.1;omega) (fE hK) hK;clear hj9 hJ hK HST;dsimp only;go_wp2;refine xm (m:=m-k) (by kernel_rfl) (m-(k+1)) (by omega) ?_;refine⟨k+1,v14,ls14,rfl,by omega,?_,rfl,HBD9,HTD14,HMK9⟩;show Value.int .i64 _=_
      go_num
   .obtain rfl:k=m:=by omega
    have hlt':¬(k:Int)<(k:Int):=by omega
    clear e47 e7 hlt hk;obtain⟨oa,oc,hof⟩:=HBD.out.tiles.own.form;have hll:ls.length=k+1:=by have:=bh List.length HTD.out;rw[KS] at this;simpa[fI] using this
    rw[hll] at hof;subst hof;obtain⟨tg,rfl⟩:∃g,oa=some ⟨g,0,none⟩:=by
     obtain⟨g,c',e⟩:=rK HBD.out.tiles.own.1 (by omega);injection e with e _ _;exact⟨g,e⟩
    have c0:=cK 0 HBD.out.cell rfl;have HTJ0:Hid (fI ls=oP qs 0):=by rw[Hid,WO,<-HM.out];exact HTD.out
    clear hll HTD;go_wp2
    go_loopw [77] (λs77 wr=>∃(j:Nat) (ls2:List iN),j<=bn/\s77=.int .i64 (j:Int)/\Hid (BdJ W3 base (.slice pa7 k pc7) qs ob og bn (IC bn qs k) (.slice (some ⟨tg,0,none⟩) (k+1) oc) ls2 wr)/\Hid (fI ls2=oP qs j)/\Hid (lU base wr.heap.size ds wr)) (λs77 _=>bn-(intOf s77).toNat)
    case atStart=>exact⟨0,ls,by omega,by go_num,HBD,HTJ0,HMK⟩
    case round=>
     obtain⟨j,ls2,hj,rfl,HBJ,HTJ,HMJ⟩:=hrel;clear HBD HTJ0 HMK c0;by_cases hlt:j<bn
     .have hlt':(j:Int)<(bn:Int):=by omega
      obtain⟨lp,hlp⟩:∃x,x=kG qs j k:=⟨_,rfl⟩
      have hlpk:lp<=k:=by rw[hlp];exact oZ qs j k
      have hlpq:kG qs j qs.length=lp:=by rw[<-HM.out,hlp]
      have cO:=cK 0 HBJ.out.cell rfl;have cJ:wr.cell? ⟨og,j,none⟩=some (.int .i64 (lp:Int)):=by
       obtain⟨b,o,e,hc,_⟩:=HBJ.out.own.ints.2.2 j hlt;injection e with e;injection e with e1 e2;subst e1 e2;rw[bQ,ll _ _ _ _ hlt,<-hlp] at hc;exact hc
      obtain⟨t,b9,o9,ht,_,e9,_,_,cB⟩:=HBJ.out.tiles.ok.cells (k:=lp) (by omega);injection e9 with e9;injection e9 with e1 e2;subst e1 e2;rw[bQ] at cB;have hlpk':(lp:Int)<((k+1:Nat):Int):=by omega
      have HBT:=ac (HBJ.out.tiles.each t (aK ht)).1;have htd:(oP qs j)[lp]? =some t.d:=by rw[<-HTJ.out,fI,dt,ht];rfl
      have HTN:Hid (oP qs (j+1)=(oP qs j).set lp ⟨t.d.kind,t.d.parent,t.d.blocks++ [(j:Int)]⟩):=by
       have:=WP qs j t.d (by rw[hlpq];exact htd);rw[hlpq] at this;exact this.symm
      have HTB:Hid (t.d.blocks.length<=j):=ND qs j lp t.d htd;have HLPQ:=ac ht;obtain⟨tcur,htg⟩:∃cur,wr.heap[tg]? =some (.cells cur 65 (0,0)):=by
       rcases HBJ.out.tiles.own.1.2 with ⟨h1,_⟩|⟨g4,cap4,cur4,h1,_,hg4,_⟩
       .cases h1
       .injection h1 with h1;injection h1 with h1;injection h1 with h1;subst h1;exact⟨cur4,hg4⟩
      have hbne:(bsV t).ownBlock≠some tg:=jW HBT.out.1 htg (by decide);have HTG:=ac htg;have HBN:=ac hbne;have HCB:=ac cB;clear hlp hlpq htd ht htg hbne
      go_wp2_with (
       (at_builtin
        go_loud (refine tE rfl wr (.tmp 88) (.tmp 90) 22 rfl base _ 8 be pY rfl (bsV t) t.d.blocks rfl HBT.out (j:Int) (by unfold I64;omega) wr.heap.size rfl rfl (by have:=HTB.out;omega) (by omega) HBJ.out.bs ?_)
        intro g9 cap9 w9 ho9 hg9 hat9;have htg9:=fQ hg9 HTG.out HBN.out;have c9:w9.cell? ⟨tg,lp*3+2,none⟩=some (.slice t.ba t.bn t.bc):=(by rw[aZ _ _ _ _ _ _ htg9,<-aZ _ _ _ _ _ _ HTG.out];exact HCB.out)
        have f9:w9.frozen? ⟨tg,lp*3+2,none⟩=false:=cY _ _ _ _ _ htg9
        have hk9:gC wr w9:=gC.grown hg9 (λi o e ho=>by
         rcases HBT.out.1.2 with ⟨h,_⟩|⟨g',cap',cur,h,_,hg',_⟩
         .rw[h] at e;cases e
         .rw[h] at e;simp only[Value.ownBlock,aW] at e;subst e;rw[hg'] at ho;cases ho
          rfl)
        obtain⟨t',ht'⟩:∃x:iN,x=⟨⟨t.d.kind,t.d.parent,t.d.blocks++ [(j:Int)]⟩,some ⟨g9,0,none⟩,t.d.blocks.length+1,cap9⟩:=⟨_,rfl⟩
        have hbv:bsV t'=.slice (some ⟨g9,0,none⟩) (t.d.blocks.length+1) cap9:=(by rw[ht'])
        have hj9:=HBJ.out.turn (t':=t') HLPQ.out hg9 (by rw[hbv,ht'];exact ho9) (by rw[ht'];exact⟨rfl,rfl⟩) (by
         rw[hbv];rcases hat9 with h|h
         .exact .inl h
         .exact .inr ⟨g9,rfl,by omega⟩)
        rw[hbv] at hj9;have HJ9:=ac hj9;have HT9:Hid (fI (ls2.set lp t')=oP qs (j+1)):=(by rw[Hid,B1,HTJ.out,HTN.out,ht'])
        have HM9:Hid (lU base (w9.setCell ⟨tg,lp*3+2,none⟩ (.slice (some ⟨g9,0,none⟩) (t.d.blocks.length+1) cap9)).heap.size ds (w9.setCell ⟨tg,lp*3+2,none⟩ (.slice (some ⟨g9,0,none⟩) (t.d.blocks.length+1) cap9))):=
         ((HMJ.out.mono (aT hg9.size (by simp))).keep hk9).keep (gC.setCell _ _ _)
        clear ho9 hg9 hat9 htg9 hk9 ht' hbv hj9))
      go_roundw
      case rel=>exact⟨j+1,_,by omega,by go_num,HJ9,HT9,HM9⟩
      case measure=>simp[intOf];omega
     .obtain rfl:j=bn:=by omega
      go_wp2;refine tO (by simp) (lo:=base) (hi:=wr.heap.size) (λW=>BdJ W3 base (.slice pa7 k pc7) qs ob og j (IC j qs k) (.slice (some ⟨tg,0,none⟩) (k+1) oc) ls2 W) (BdJ.steady (by omega)) (λW hj=>?_) ds wr HMJ.out HBJ.out;refine⟨.tuple #[.slice (some ⟨tg,0,none⟩) (k+1) oc,.int .i64 0],by simp[results,Tryz.results23,go_sem],?_⟩;have hb3:=HB3.out;refine⟨λhf=>?_,λ_=>⟨_,ls2,qs,rfl,⟨by rw[<-hts];exact HPERM.out,HSORT.out⟩,hj.tiles.mono (aT hb3.size hj.w0),?_⟩,hb3.trans (hj.ext.mono hb3.size)⟩
      .rw[HF.out] at hf;cases hf
      .rw[HTJ.out,ZL,HLN.out]
theorem rq(pa:Option Addr)(pn pc:Nat)(ba:Option Addr)(bn bc:Nat)(bs:List nA)(w:World)(h:lZ w ba bn bs)(hbn40:bn<=40\/200<bn):
  Calls Tryz.prog 23 #[mB pa pn pc ba bn bc] w (AW (fY bs) w):=by
 by_cases hf:jK (fY bs)=true
 .refine rp pa pn pc ba bn bc bs w h hf ?_;rcases hbn40 with h1|h1
  .exact h1
  .have hg:=((lO _).1 (gT hf).1).1;have hbn:(fY bs).length=bn:=by rw[lA];exact h.1.1
   omega
 .exact yf pa pn pc ba bn bc bs w h (by simpa using hf)
end
end Go.Proofs.YtbknbcmppdglhaaGreatDoor
