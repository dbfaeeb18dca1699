/-
 Tile:what is reached from a block.
-/
import Derived.Test.YtchdkjenhppleaaGreatA0
import Derived.Test.YtchdkjenhppleaaGreatTE
import Derived.Deep.LoopGhost
import Derived.Test.YtchdkjenhppleaaGreatKQ
import Derived.Test.YtchdkjenhppleaaGreatTQ
import Derived.Laws.StructEq
import Derived.ChangeKeysEq
import Derived.Shelf.Sort.Plain
import Derived.Shelf.Slices.Reverse
import Derived.Ground.Names2Prog
import Derived.Shelf.Slices.Clone
import Derived.Shelf.Slices.CompactI
import Derived.Shelf.Slices.In.SortNone
import Derived.Shelf.SlicesE.Reverse
import Derived.Test.YtchdkjenhppleaaGreatProg
namespace Go.Proofs.YtchdkjenhppleaaGreat
set_option linter.unusedSimpArgs false
set_option linter.unusedVariables false
set_option linter.unusedSectionVars false
set_option maxRecDepth 100000
set_option maxHeartbeats 40000000
section
open Go.RowKit
theorem g9{w:World}{base:Nat}{g c:Nat}{xs:List Int}{x:Int}(h:fQ w base (.slice (some ⟨g,0,none⟩) (xs.length+1) c) (xs++ [x])):fQ w base (.slice (some ⟨g,0,none⟩) xs.length c) xs:=by
 refine⟨⟨by simp[eU],?_⟩,λz hz=>h.2.1 z (by grind),by have:=h.2.2;grind⟩
 rcases h.1.2 with ⟨hv,_⟩|⟨g',cap,cur,hv,hb,hh,h1,h2,h3,h4⟩
 .grind
 .injection hv with e1 e2 e3;injection e1 with e1;injection e1 with e1 _ _;subst e1 e3;refine .inr ⟨g,c,cur,rfl,hb,hh,by omega,h2,h3,?_⟩;have h5:(cur.toList.take ((xs++ [x]).length*1)).take xs.length=(eU (xs++ [x])).take xs.length:=by rw[h4]
  grind[eU]
theorem XG{w:World}{base:Nat}{g c:Nat}{xs:List Int}{x:Int}(h:fQ w base (.slice (some ⟨g,0,none⟩) (xs.length+1) c) (xs++ [x])):w.cell? ⟨g,xs.length,none⟩=some (.int .i64 x):=by
 have h1:=h.ints
 obtain⟨b,o,e,hc,_⟩:=h1.2.2 xs.length (by omega)
 grind
def ZJ(next:Nat->List Nat)(f:Nat->Bool)(b:Nat)(w:World)(st seen:List Nat)(x:Option (Nat×Nat))(v:Value)(wr:World):Prop:=
 pZ next f b st (λy=>seen.contains y) x/\seen.Nodup/\(∀y∈seen,y<200)/\wr.heap[w.heap.size+1]? =some (jZ f)/\wr.heap[w.heap.size+1+1]? =some (jZ λy=>seen.contains y)/\
  fQ wr (w.heap.size+1+1+1) v (eR st)/\Below w.heap.size w wr
theorem Reach.lt{next:Nat->List Nat}{inn:Nat->Bool}{b y n:Nat}(h:Reach next inn b y)(hx:∀k y,y∈next k->y<200/\(inn y=true->y<n)):y<n:=by
 cases h with
 |one h1 h2=>grind
 |step _ h1 h2=>grind
theorem KN(d:lX)(b:Nat)(f:Nat->Bool)(ra:Option Addr)(rn rc:Nat)(L:List (List Nat))(next:Nat->List Nat)(w:World)(hb:b<200)(hrn:rn<=200)(hcf:nI f)(hf:f b=true->b<rn)
  (hL:∀k,k<rn->L[k]? =some (next k)) (hx:∀k y,y∈next k->y<200/\(f y=true->y<rn)) (hw:DM w ra rn L):
  Calls Tryz.prog 154 #[gX d,.int .i64 (b:Int),.agg (eV f),.slice ra rn rc] w (vF w (gG next f b)):=by
 have HC:=ac hcf
 have HF:=ac hf
 have HL:=ac hL
 have HX:=ac hx
 have HW:=ac hw
 clear hcf hf hL hx hw
 go_enter Tryz.func154,Tryz.ntmps154
 go_upto_region 1 with (fail)
 obtain⟨W,hW⟩:∃W,W=((w.alloc (oD d)).alloc (jZ f)).alloc (.cells Tryz.zeroCells227 227):=⟨_,rfl⟩
 rw[<-hW]
 have hs:W.heap[w.heap.size+1]? =some (jZ f):=by rw[hW,aJ _ _ _ (by simp)];exact fM _ _ _ (by simp)
 have hr:W.heap[w.heap.size+1+1]? =some (jZ λ_=>false):=by rw[hW,fM _ _ _ (by simp),mE]
 have hB:Below w.heap.size w W:=by rw[hW];exact((eD _ _).alloc (by simp) _).alloc (by simp;omega) _
 have hWs:W.heap.size=w.heap.size+1+1+1:=by rw[hW];simp
 have HWs:=ac hWs
 have hc:=mC hs b hb
 clear hW hWs
 by_cases hfb:f b=true
 .rw[hfb] at hc;have HS:=ac hs;have HR:=ac hr;have HB:=ac hB;have HFB:=ac hfb;clear hs hr hB hfb;go_wp2
  go_loopg [9] 201 (λgg v wr=>∃(st seen:List Nat),st.length+200<=gg+seen.length/\st.length<=seen.length+1/\Hid (ZJ next f b w st seen none v wr))
  case atStart=>
   refine⟨[b],[],by simp,by simp,by simpa using pZ.start next f b,by simp,by simp,?_,?_,?_,?_⟩
   .exact(aJ _ _ _ (by rw[HWs.out];omega)).trans HS.out
   .exact(aJ _ _ _ (by rw[HWs.out];omega)).trans HR.out
   .exact NH (xs:=eR [b]) rfl _ (by rw[HWs.out];omega) (ix [b] (by simp;omega)) (by simp[eR])
   .exact HB.out.alloc (by rw[HWs.out];omega) _
  case round=>
   obtain⟨st,seen,hm,hm2,HJ⟩:=hrel;clear hc HS HR HB HWs;rcases List.eq_nil_or_concat st with rfl|⟨st',x,rfl⟩
   .obtain⟨h1,h2,h3,h4,h5,h6,h7⟩:=HJ.out;obtain⟨av,cv,rfl⟩:=h6.form;have HE:Hid ((λy=>seen.contains y)=gG next f b):=fh HC.out HFB.out h1;rw[HE.out] at h5;have HS:=ac h5;have HB:=ac h7;clear h1 h2 h3 h4 h5 h6 h7 HJ hm
    go_wp2_with (first
     |(refine ay rfl 227 _ rfl (w.heap.size+1+1) rfl 227 _ (0,0) _ HS.out bg rfl (by rw[fA];exact fD) ?_)
     |(refine aU rfl 227 _ _ rfl (w.heap.size+1+1) (eV (gG next f b)) rfl rfl 227 _ HS.out (by rw[fA];exact fD) rfl (lD _) ?_))
    exact aD (v:=.agg (eV (gG next f b))) (by simp[results,Tryz.results154,asAddr,Act.put,sB (aG _ _ _ _ _ _ HS.out)]) rfl ⟨rfl,aA HB.out (by omega) _⟩
   .obtain⟨h1,h2,h3,h4,h5,h6,h7⟩:=id HJ.out;rw[List.concat_eq_append] at h1 h6 hm hm2;have hst:eR (st'++ [x])=eR st'++ [(x:Int)]:=by simp[eR]
    rw[hst] at h6;obtain⟨gb,cb,hv⟩:=uG h6.1 (by simp);have hlen':(eR st'++ [(x:Int)]).length=st'.length+1:=by simp[eR]
    have hlen2:(eR st').length=st'.length:=by simp[eR]
    rw[hlen'] at hv;subst hv;rw[<-hlen2] at h6;have hpop:=g9 h6;have hlast:=XG h6;rw[hlen2] at hpop hlast;have hcap:=h6.cap;have hxf:f x=true:=by
     rcases h1.src x (by simp) with e|e
     .rw[e];exact HFB.out
     .exact(h1.sound x e).inn
    have hxr:x<rn:=by
     rcases h1.src x (by simp) with e|e
     .rw[e];exact HF.out HFB.out
     .exact(h1.sound x e).lt HX.out
    obtain⟨bb,oo,xa,xc,rfl,hcr0,hir⟩:=HW.out.2.2 x (next x) (HL.out x hxr);have hcr:=eN h7 hcr0;have hseen:seen.length<=200:=AK 200 seen h2 h3;have hstl:=hm;simp only[aT,aN,aV,aW] at hstl hm2
    have HJ2:Hid (ZJ next f b w st' seen (some (x,0)) (.slice (some ⟨gb,0,none⟩) st'.length cb) wr):=
     ⟨h1.take x st' (λz=>by simp[or_comm]),h2,h3,h4,h5,hpop,h7⟩
    have HIR:=ac hir;have hnl:(next x).length<=17592186044416:=hir.2.1;have hcb:st'.length+1<=cb:=by have:=hcap.1;omega
    have hcb2:cb<=9223372036854775807:=hcap.2.1;have hstn:st'.length<=1000:=by omega
    clear h1 h2 h3 h4 h5 h6 h7 HJ hm hst hlen' hlen2 hpop hir hxf hcap hcr0;go_wp2;obtain⟨wo,rfl⟩:∃wo:World,wo=wr:=⟨_,rfl⟩
    go_loopg [9,12,39] (next x).length (λg2 v2 _ j wi=>∃(j':Nat) (st2 seen2:List Nat),j=.int .i64 (j':Int)/\j'<=(next x).length/\(next x).length<=g2+j'/\st2.length+seen.length=st'.length+seen2.length/\Hid (ZJ next f b w st2 seen2 (some (x,j')) v2 wi))
    case atStart=>exact⟨0,st',seen,rfl,Nat.zero_le _,aw _,rfl,HJ2⟩
    case round=>
     obtain⟨j',st2,seen2,rfl,hj,hg2,hcnt,HJ⟩:=hrel;clear HJ2 hlast;obtain⟨h1,h2,h3,h4,h5,h6,h7⟩:=id HJ.out;obtain⟨va,vc,rfl⟩:=h6.form;have hseen2:seen2.length<=200:=AK 200 seen2 h2 h3;by_cases hjl:j'<(next x).length
     .have hyx:(next x).getD j' 0∈next x:=by rw[ax,au hjl];exact dB _
      have hy:=(HX.out x _ hyx).1;obtain⟨b3,o3,rfl,hcy,_⟩:=(HIR.out.ext h7).2.2 j' hjl;have hey:(eR (next x)).getD j' 0=(((next x).getD j' 0:Nat):Int):=by simp[eR,ax,hjl]
      rw[hey] at hcy;have hcf:=mC h4 _ hy;have hcs:=mC h5 _ hy;have hfs:=rW h5 ((next x).getD j' 0);have hlS:=eT h5;have hjl':(j':Int)<((next x).length:Int):=by omega
      clear hey hyx;by_cases hgo:f ((next x).getD j' 0)=true/\seen2.contains ((next x).getD j' 0)=false
      .obtain⟨hg1,hg2'⟩:=hgo;have hns:(next x).getD j' 0∉seen2:=by simpa using hg2'
       have hP:=h1.push hjl hg1 (st2++ [(next x).getD j' 0]) (λz=>by simp[or_comm]) (λz=>((next x).getD j' 0 :: seen2).contains z) (λz=>by simp);rw[hg1] at hcf;simp only[hg2'] at hcs;have HP:=ac hP;have HN:=ac hns;have e1:(λk=>if k=(next x).getD j' 0 then true else seen2.contains k)=(λz=>((next x).getD j' 0 :: seen2).contains z):=by
        funext k
        by_cases e:k=(next x).getD j' 0
        .simp[e]
        .simp[e,List.contains_cons]
       have HS1:=ac (xV (b:=true) h5 hy e1);have HF1:=ac (fB (fL wr (w.heap.size+1+1) ((next x).getD j' 0) (.bool true)) h4 (by simp))
       have HO1:=ac (h6.kept (fL wr (w.heap.size+1+1) ((next x).getD j' 0) (.bool true)) (by
        rcases hvb:(Value.slice va (eR st2).length vc).ownBlock with _|kb
        .exact .inl rfl
        .have:=(h6.1.lt kb hvb).1;refine .inr ?_;intro e;injection e with e
         omega))
       have HB1:=ac (h7.setCell (p:=⟨w.heap.size+1+1,(next x).getD j' 0,none⟩) (by simp;omega) (.bool true));have H2:=ac h2;have H3:=ac h3;have hst2:(eR st2).length=st2.length:=by simp[eR]
       have hsl:st2.length<=1000:=by omega
       have hsl2:(eR st2).length<=1000:=by omega
       clear hg1 hg2' hns hP e1 h1 h2 h3 h4 h5 h6 h7 HJ;generalize hyy:(next x).getD j' 0=y at*
       go_wp2_with (
        (at_builtin
         refine fN rfl (wr.setCell ⟨w.heap.size+1+1,y,none⟩ (.bool true)) (.tmp 54) (.tmp 56) 22 3 rfl (w.heap.size+1+1+1) _ 1 8 aQ tP rfl (by omega) (.slice va (eR st2).length vc) (eR st2).length _ [.int .i64 (y:Int)] rfl HO1.out.1 wr.heap.size (by simp) rfl rfl (by simp[Value.oneCell']) (by simp only[maxLen];omega) (by omega) (by simp;omega) ?_;intro g cap w2 hown2 hg2 hat2;have HO2:=ac hown2;have HG2:=ac hg2
         clear hown2 hg2 hat2))
       have hrow:∀(k:Nat),k<w.heap.size+1+1+1->¬(Value.slice va (eR st2).length vc).ownBlock=some k:=λk hk e=>by
        have:=(HO1.out.1.lt k e).1;omega
       go_roundg ((next x).length-(j'+1))
       case measure=>omega
       case rel=>
        refine⟨j'+1,st2++ [y],y :: seen2,by go_num,by omega,by omega,by simp;omega,HP.out,dG.2 ⟨HN.out,H2.out⟩,?_,?_,?_,?_,?_⟩
        .intro z hz;rcases aH.1 hz with rfl|hz
         .exact hy
         .exact H3.out z hz
        .exact fB HG2.out HF1.out (hrow _ (by omega))
        .exact fB HG2.out HS1.out (hrow _ (by omega))
        .have e2:eR (st2++ [y])=eR st2++ [(y:Int)]:=by simp[eR]
         rw[e2];refine⟨?_,?_,by simp;omega⟩
         .have e3:(eR st2++ [(y:Int)]).length=(eR st2).length+1:=by simp
          have e4:eU (eR st2++ [(y:Int)])=eU (eR st2)++ [.int .i64 (y:Int)]:=by simp[eU]
          rw[e3,e4];have h9:=HO2.out;rw[hst2] at h9|-;exact h9
         .intro z hz;rcases bh.1 hz with h|h
          .exact HO1.out.2.1 z h
          .simp only[bm] at h;subst h;unfold I64;omega
        .exact HB1.out.grown HG2.out (by simp;omega) (λk e=>by have:=(HO1.out.1.lt k e).1;omega)
      .have HJ3:Hid (ZJ next f b w st2 seen2 (some (x,j'+1)) (.slice va (eR st2).length vc) wr):=by
        refine⟨h1.skip hjl (λhi=>?_),h2,h3,h4,h5,h6,h7⟩;cases hb2:seen2.contains ((next x).getD j' 0) with
        |true=>rfl
        |false=>exact absurd ⟨hi,hb2⟩ hgo
       have hgo':f ((next x).getD j' 0)=true->seen2.contains ((next x).getD j' 0)=true:=λhi=>by
        cases hb2:seen2.contains ((next x).getD j' 0) with
        |true=>rfl
        |false=>exact absurd ⟨hi,hb2⟩ hgo
       clear h1 h2 h3 h4 h5 h6 h7 HJ hgo;generalize hyy:(next x).getD j' 0=y at *;cases hfy:f y with
       |true=>
        have hsy:=hgo' hfy;rw[hfy] at hcf;simp only[hsy] at hcs;clear hgo' hsy hfy;go_wp2
        go_roundg ((next x).length-(j'+1))
        case measure=>omega
        case rel=>exact⟨j'+1,st2,seen2,by go_num,by omega,by omega,by omega,HJ3⟩
       |false=>
        rw[hfy] at hcf;clear hgo' hfy;go_wp2
        go_roundg ((next x).length-(j'+1))
        case measure=>omega
        case rel=>exact⟨j'+1,st2,seen2,by go_num,by omega,by omega,by omega,HJ3⟩
     .obtain rfl:j'=(next x).length:=by omega
      have HJ3:Hid (ZJ next f b w st2 seen2 none (.slice va (eR st2).length vc) wr):=⟨h1.fin (aw _),h2,h3,h4,h5,h6,h7⟩
      clear h1 h2 h3 h4 h5 h6 h7 HJ;go_wp2
      go_roundg (st2.length+200-seen2.length)
      case measure=>omega
      case rel=>exact⟨st2,seen2,by omega,by omega,HJ3⟩
 .have hfb':f b=false:=by simpa using hfb
  rw[hfb'] at hc;have HE:Hid (gG next f b=λ_=>false):=fi hfb';have HR:=ac hr;have HB:=ac hB;clear hfb hfb' hs hr hB
  go_wp2_with (first
   |(refine ay rfl 227 _ rfl (w.heap.size+1+1) rfl 227 _ (0,0) _ HR.out bg rfl (by rw[fA];exact fD) ?_)
   |(refine aU rfl 227 _ _ rfl (w.heap.size+1+1) (eV λ_=>false) rfl rfl 227 _ HR.out (by rw[fA];exact fD) rfl (lD _) ?_))
  exact aD (v:=.agg (eV λ_=>false)) (by simp[results,Tryz.results154,asAddr,Act.put,sB (aG _ _ _ _ _ _ HR.out)]) rfl ⟨by rw[HE.out],aA HB.out (by omega) _⟩
theorem fg(d:lX)(b:Nat)(f:Nat->Bool)(ra:Option Addr)(rn rc:Nat)(L:List (List Nat))(next:Nat->List Nat)(w:World)(hb:b<200)(hrn:rn<=200)(hf:∀y,f y=true->y<rn)
  (hL:∀k,k<rn->L[k]? =some (next k)) (hx:∀k y,y∈next k->y<200) (hw:DM w ra rn L):
  Calls Tryz.prog 154 #[gX d,.int .i64 (b:Int),.agg (eV f),.slice ra rn rc] w (vF w (gG next f b)):=
 KN d b f ra rn rc L next w hb hrn (λy hy=>by grind) (hf b) hL (λk y hy=>⟨hx k y hy,hf y⟩) hw
end

section
open Go.RowKit
theorem eX:(Tryz.prog.info? 201).map (·.size)=some 4:=by kernel_rfl
theorem lP.nx_lt{w:World}{d:lX}{ts:List fC}(h:qC ts=true):(∀k y,y∈nx ts k->y<200)/\(∀k y,y∈pv ts k->y<200):=by
 have hl:=((jP ts).1 h).1
 refine⟨λk y hy=>?_,λk y hy=>?_⟩
 .have:=UY h hy;omega
 grind[ZT,CV]
theorem lP.nx_to{w:World}{d:lX}{ts:List fC}(h:qC ts=true)(hok:lP w d ts)(f:Nat->Bool):(∀k y,y∈nx ts k->y<200/\(f y=true->y<d.bn))/\(∀k y,y∈pv ts k->y<200/\(f y=true->y<d.bn)):=by
 have hl:=((jP ts).1 h).1
 rw[<-hok.1]
 refine⟨λk y hy=>?_,λk y hy=>?_⟩
 .have:=UY h hy;omega
 grind[ZT,CV]
theorem NV(d:lX)(ts:List fC)(b:Nat)(f:Nat->Bool)(w:World)(hb:b<200)(hok:lP w d ts)(hg:qC ts=true)(hcf:nI f)(hf:f b=true->b<d.bn):
  Calls Tryz.prog 180 #[gX d,.int .i64 (b:Int),.agg (eV f)] w (vF w (kK ts b f)):=by
 have HOK:=ac hok
 have HF:=ac hf
 have HCF:=ac hcf
 have HX:=ac (lP.nx_to hg hok f)
 clear hok hg hcf hf
 go_enter Tryz.func180,Tryz.ntmps180
 go_upto_region 1 with (fail)
 obtain⟨W,hW⟩:∃W,W=((w.alloc (oD d)).alloc (jZ f)).alloc (.cells Tryz.zeroCells227 227):=⟨_,rfl⟩
 rw[<-hW]
 have hk:W.heap[w.heap.size]? =some (oD d):=by rw[hW,aJ _ _ _ (by simp;omega),aJ _ _ _ (by simp)];exact ai _ _
 have hs:W.heap[w.heap.size+1]? =some (jZ f):=by rw[hW,aJ _ _ _ (by simp)];exact fM _ _ _ (by simp)
 have hr:W.heap[w.heap.size+1+1]? =some (jZ λ_=>false):=by rw[hW,fM _ _ _ (by simp),mE]
 have hB:Below w.heap.size w W:=by rw[hW];exact((eD _ _).alloc (by simp) _).alloc (by simp;omega) _
 have hWs:W.heap.size=w.heap.size+1+1+1:=by rw[hW];simp
 have HWs:=ac hWs
 have HK:=ac hk
 have HS:=ac hs
 have HR:=ac hr
 have HB:=ac hB
 have HC2:Hid (W.cell? ⟨w.heap.size,2,none⟩=some (.slice d.ta d.bn d.tc)):=by rw[Hid,bd _ _ _ _ _ _ hk];rfl
 have HC3:Hid (W.cell? ⟨w.heap.size,3,none⟩=some (.slice d.fa d.bn d.fc)):=by rw[Hid,bd _ _ _ _ _ _ hk];rfl
 clear hW hWs hk hs hr hB
 go_cut [7,8] (λs7 s8 wr=>∃p7 p8:Nat,s7=.pointer (some ⟨p7,0,none⟩)/\s8=.pointer (some ⟨p8,0,none⟩)/\w.heap.size+1+1+1<=p7/\w.heap.size+1+1+1<=p8/\p7≠p8/\Hid (wr.heap[p7]? =some (jZ (gG (nx ts) f b)))/\Hid (wr.heap[p8]? =some (jZ (gG (pv ts) f b)))/\Hid (wr.heap[w.heap.size+1+1]? =some (jZ λ_=>false))/\Hid (Below w.heap.size w wr))
 case first=>
  refine kZ 14 [some 10,some 11,some 12,some 13,some 14,some 15,some 16,some 17,some 18,some 19,some 20,some 21,some 7,some 8] (by kernel_rfl) (by kernel_rfl) (jL [.val (gX d),.val (.int .i64 (b:Int)),.val (.agg (eV f)),.val (.pointer (some ⟨w.heap.size,2,none⟩)),.val (.slice d.ta d.bn d.tc),.val (.agg (eV (gG (nx ts) f b))),.val (gX d),.val (.int .i64 (b:Int)),.val (.agg (eV f)),.val (.pointer (some ⟨w.heap.size,3,none⟩)),.val (.slice d.fa d.bn d.fc),.val (.agg (eV (gG (pv ts) f b))),.new (jZ λ_=>false),.new (jZ λ_=>false)]) (kC ?_) ?_ ?_
  .intro k hk;simp only[aH,a7,bW] at hk;rcases hk with rfl|rfl|rfl|rfl|rfl|rfl|rfl|rfl|rfl|rfl|rfl|rfl|rfl|rfl<;>try exact trivial
  .intro i hi ν lo hi' w1 K hB hD hK;have hcase:i=0\/i=1\/i=2\/i=3\/i=4\/i=5\/i=6\/i=7\/i=8\/i=9\/i=10\/i=11\/i=12\/i=13:=by omega
   clear hi;rcases hcase with rfl|rfl|rfl|rfl|rfl|rfl|rfl|rfl|rfl|rfl|rfl|rfl|rfl|rfl
   .clear hD;refine eJ rfl rfl ?_;simp only[zA,zB,zC,zD,zE,zF,zJ,zK,zG,zH,zI] at hK|-;refine bX 201 _ rfl w.heap.size rfl 201 _ (0,0) _ (eB hB HK.out) aS rfl eX ?_;exact hK _ _ (ao _ _) rfl
   .clear hD;refine eJ rfl rfl ?_;simp only[zA,zB,zC,zD,zE,zF,zJ,zK,zG,zH,zI] at hK|-;go_simp;exact hK _ _ (ao _ _) rfl
   .clear hD;refine eJ rfl rfl ?_;simp only[zA,zB,zC,zD,zE,zF,zJ,zK,zG,zH,zI] at hK|-;refine bX 227 _ rfl (w.heap.size+1) rfl 227 _ (0,0) _ (eB hB HS.out) bg rfl (by rw[fA];exact fD) ?_;exact hK _ _ (ao _ _) rfl
   .clear hD;refine eJ rfl rfl ?_;simp only[zA,zB,zC,zD,zE,zF,zJ,zK,zG,zH,zI] at hK|-;go_simp;exact hK _ _ (ao _ _) rfl
   .have e3:ν 3=(.pointer (some ⟨w.heap.size,2,none⟩)):=hD 3 (by kernel_rfl);clear hD;refine eJ rfl rfl ?_;simp only[zA,zB,zC,zD,zE,zF,zJ,zK,zG,zH,zI,e3] at hK|-;have c0:=eN hB HC2.out;go_simp;exact hK _ _ (ao _ _) rfl
   .have e0:ν 0=(gX d):=hD 0 (by kernel_rfl);have e1:ν 1=(.int .i64 (b:Int)):=hD 1 (by kernel_rfl);have e2:ν 2=(.agg (eV f)):=hD 2 (by kernel_rfl);have e4:ν 4=(.slice d.ta d.bn d.tc):=hD 4 (by kernel_rfl);clear hD;refine eJ rfl rfl ?_;simp only[zA,zB,zC,zD,zE,zF,zJ,zK,zG,zH,zI,e0,e1,e2,e4] at hK|-;go_simp;refine(KN d b f d.ta d.bn d.tc (uB ts) (nx ts) w1 hb HOK.out.2.1 HCF.out HF.out (λk hk=>by simp[uB,HOK.out.1,hk]) HX.out.1 ((HOK.out.2.2.1).ext (eA HB.out hB))).mono ?_;rintro e w2 ⟨rfl,hb2⟩;exact hK _ _ hb2 rfl
   .clear hD;refine eJ rfl rfl ?_;simp only[zA,zB,zC,zD,zE,zF,zJ,zK,zG,zH,zI] at hK|-;refine bX 201 _ rfl w.heap.size rfl 201 _ (0,0) _ (eB hB HK.out) aS rfl eX ?_;exact hK _ _ (ao _ _) rfl
   .clear hD;refine eJ rfl rfl ?_;simp only[zA,zB,zC,zD,zE,zF,zJ,zK,zG,zH,zI] at hK|-;go_simp;exact hK _ _ (ao _ _) rfl
   .clear hD;refine eJ rfl rfl ?_;simp only[zA,zB,zC,zD,zE,zF,zJ,zK,zG,zH,zI] at hK|-;refine bX 227 _ rfl (w.heap.size+1) rfl 227 _ (0,0) _ (eB hB HS.out) bg rfl (by rw[fA];exact fD) ?_;exact hK _ _ (ao _ _) rfl
   .clear hD;refine eJ rfl rfl ?_;simp only[zA,zB,zC,zD,zE,zF,zJ,zK,zG,zH,zI] at hK|-;go_simp;exact hK _ _ (ao _ _) rfl
   .have e9:ν 9=(.pointer (some ⟨w.heap.size,3,none⟩)):=hD 9 (by kernel_rfl);clear hD;refine eJ rfl rfl ?_;simp only[zA,zB,zC,zD,zE,zF,zJ,zK,zG,zH,zI,e9] at hK|-;have c0:=eN hB HC3.out;go_simp;exact hK _ _ (ao _ _) rfl
   .have e5:ν 5=(.agg (eV (gG (nx ts) f b))):=hD 5 (by kernel_rfl);have e6:ν 6=(gX d):=hD 6 (by kernel_rfl);have e7:ν 7=(.int .i64 (b:Int)):=hD 7 (by kernel_rfl);have e8:ν 8=(.agg (eV f)):=hD 8 (by kernel_rfl);have e10:ν 10=(.slice d.fa d.bn d.fc):=hD 10 (by kernel_rfl);clear hD;refine eJ rfl rfl ?_;simp only[zA,zB,zC,zD,zE,zF,zJ,zK,zG,zH,zI,e5,e6,e7,e8,e10] at hK|-;go_simp;refine(KN d b f d.fa d.bn d.fc (qJ ts) (pv ts) w1 hb HOK.out.2.1 HCF.out HF.out (λk hk=>by simp[qJ,HOK.out.1,hk]) HX.out.2 ((HOK.out.2.2.2).ext (eA HB.out hB))).mono ?_;rintro e w2 ⟨rfl,hb2⟩;exact hK _ _ hb2 rfl
   .clear hD;refine eJ rfl rfl ?_;simp only[zA,zB,zC,zD,zE,zF,zJ,zK,zG,zH,zI] at hK|-;go_simp;refine hK _ _ (eD _ _) ⟨rfl,by simp,?_⟩;rw[ai,mE]
   .clear hD;refine eJ rfl rfl ?_;simp only[zA,zB,zC,zD,zE,zF,zJ,zK,zG,zH,zI] at hK|-;go_simp;refine hK _ _ (eD _ _) ⟨rfl,by simp,?_⟩;rw[ai,mE]
  .intro ν lo hi w1 hB hS hI hD;have e0:ν 0=(gX d):=hS 0 (by omega);have e1:ν 1=(.int .i64 (b:Int)):=hS 1 (by omega);have e2:ν 2=(.agg (eV f)):=hS 2 (by omega);have e3:ν 3=(.pointer (some ⟨w.heap.size,2,none⟩)):=hS 3 (by omega);have e4:ν 4=(.slice d.ta d.bn d.tc):=hS 4 (by omega);have e5:ν 5=(.agg (eV (gG (nx ts) f b))):=hS 5 (by omega);have e6:ν 6=(gX d):=hS 6 (by omega);have e7:ν 7=(.int .i64 (b:Int)):=hS 7 (by omega);have e8:ν 8=(.agg (eV f)):=hS 8 (by omega);have e9:ν 9=(.pointer (some ⟨w.heap.size,3,none⟩)):=hS 9 (by omega);have e10:ν 10=(.slice d.fa d.bn d.fc):=hS 10 (by omega);have e11:ν 11=(.agg (eV (gG (pv ts) f b))):=hS 11 (by omega);obtain⟨e12,l12,h12⟩:=hS 12 (by omega);obtain⟨e13,l13,h13⟩:=hS 13 (by omega);clear hS;simp only[aj,ap,zA,zB,zC,zD,zE,zF,zJ,zK,zG,zH,zI,e0,e1,e2,e3,e4,e5,e6,e7,e8,e9,e10,e11,e12,e13];have i12:=hI 12 (by omega);have i13:=hI 13 (by omega);have hne:lo 12≠lo 13:=by
    have:=hD 12 13 (by omega) (by omega) (by omega);omega
   rw[HWs.out] at i12 i13;have hr1:=eB hB HR.out;have HBw:Hid (Below w.heap.size w w1):=eA HB.out hB;generalize lo 12=p7 at *;generalize lo 13=p8 at *;have h13':(w1.setRow p7 (eV (gG (nx ts) f b))).heap[p8]? =some (jZ λ_=>false):=(aY _ _ _ _ (by omega)).trans h13;have H12:=ac h12;have H13:=ac h13';have HR1:=ac hr1;have HI12:=i12.1;have HI13:=i13.1;clear hI hD hB e0 e1 e2 e3 e4 e5 e6 e7 e8 e9 e10 e11 e12 e13 h12 h13 h13' hr1 i12 i13
   go_wp2_with (first
    |(refine aU rfl 227 _ _ rfl p7 (eV (gG (nx ts) f b)) rfl rfl 227 _ H12.out (by rw[fA];exact fD) rfl (lD _) ?_)
    |(refine aU rfl 227 _ _ rfl p8 (eV (gG (pv ts) f b)) rfl rfl 227 _ H13.out (by rw[fA];exact fD) rfl (lD _) ?_))
   go_meet
   exact⟨p7,p8,rfl,rfl,HI12,HI13,hne,(aY _ _ _ _ hne).trans (aG _ _ _ _ _ _ H12.out),aG _ _ _ _ _ _ H13.out,(aY _ _ _ _ (by omega)).trans ((aY _ _ _ _ (by omega)).trans HR1.out),aA (aA HBw.out (by omega) _) (by omega) _⟩
 case rest=>
  obtain⟨p7,p8,rfl,rfl,hp7,hp8,hne,H7,H8,HR,HB⟩:=hcut;clear HK HS HC2 HC3 HWs;go_wp2
  go_loopw [9,22] (λ_ i wx=>∃(k:Nat),k<=200/\i=.int .i64 k/\Hid (wx.heap[w.heap.size+1+1]? =some (jZ λj=>decide (j<k)&&kK ts b f j))/\Hid (wx.heap[p7]? =some (jZ (gG (nx ts) f b)))/\Hid (wx.heap[p8]? =some (jZ (gG (pv ts) f b)))/\Hid (Below w.heap.size w wx)) (λ_ i _=>200-(intOf i).toNat)
  case atStart=>exact⟨0,by omega,rfl,by have e:(λj=>decide (j<0)&&kK ts b f j)=(λ_=>false):=(by funext j;simp);rw[Hid,e];exact HR.out,H7,H8,HB⟩
  case round=>
   obtain⟨k,hk,rfl,HR2,G7,G8,HB2⟩:=hrel;clear HR H7 H8 HB;by_cases hlt:k<200
   .have c7:=mC G7.out k hlt;have c8:=mC G8.out k hlt;have cr:=mC HR2.out k hlt;have fr:=rW HR2.out k;have hl:=eT HR2.out;have e1:(λj=>if j=k then (gG (nx ts) f b k&&gG (pv ts) f b k) else (decide (j<k)&&kK ts b f j))=(λj=>decide (j<k+1)&&kK ts b f j):=by
     funext j
     by_cases e:j=k
     .subst e;simp[kK]
     .rw[aC e]
      congr 1
      rw[di];omega
    have HS2:=ac (xV HR2.out hlt e1);have HG7:=ac (fB (fL _ (w.heap.size+1+1) k (.bool (gG (nx ts) f b k&&gG (pv ts) f b k))) G7.out (by simp;omega));have HG8:=ac (fB (fL _ (w.heap.size+1+1) k (.bool (gG (nx ts) f b k&&gG (pv ts) f b k))) G8.out (by simp;omega));have hlt':(k:Int)<200:=by omega
    clear e1 G7 G8 HR2;generalize (decide (k<k)&&kK ts b f k)=x0 at *;cases hx1:gG (nx ts) f b k<;>simp only[hx1,cJ,dL] at HS2 HG7 HG8 c7
    all_goals
     generalize gG (pv ts) f b k=x2 at *;clear hx1;go_wp2
     go_roundw
     case rel=>exact⟨k+1,by omega,by go_num,HS2,HG7,HG8,HB2.out.setCell (by simp;omega) _⟩
     case measure=>simp[intOf];omega
   .obtain rfl:k=200:=by omega
    have HE:Hid ((λj=>decide (j<200)&&kK ts b f j)=kK ts b f):=by
     have hc:nI f:=HCF.out
     funext j
     cases e:kK ts b f j with
     |false=>simp
     |true=>have:=SW hc b j e;simp[this]
    rw[HE.out] at HR2
    go_wp2_with (first
     |(refine ay rfl 227 _ rfl (w.heap.size+1+1) rfl 227 _ (0,0) _ HR2.out bg rfl (by rw[fA];exact fD) ?_)
     |(refine aU rfl 227 _ _ rfl (w.heap.size+1+1) (eV (kK ts b f)) rfl rfl 227 _ HR2.out (by rw[fA];exact fD) rfl (lD _) ?_))
    exact aD (v:=.agg (eV (kK ts b f))) (by simp[results,Tryz.results180,asAddr,Act.put,sB (aG _ _ _ _ _ _ HR2.out)]) rfl ⟨rfl,aA HB2.out (by omega) _⟩
end

section
open Go.RowKit
theorem uM(cs:Array Value)(o:Nat)(v:Value)(w:World)(h:cs[o]? =some v):(part 4 cs o).run Tryz.prog w=.ok v w:=by
 have hu:(underlying 4).run Tryz.prog w=.ok .bool w:=aZ ce w
 simp[part,isAgg,hu,h]
theorem qO(w:World)(f g:Nat->Bool)(xs ys:Array Value):∀(is:List Nat),(∀i∈is,xs[i]? =some (.bool (f i))/\ys[i]? =some (.bool (g i)))->(Op.eqItems 9999 4 1 xs ys is).run Tryz.prog w=.ok (is.all λi=>f i==g i) w
 | [],_=>by rfl
 |i :: is,h=>by
  obtain⟨h1,h2⟩:=h i (by simp);have ih:=qO w f g xs ys is (λj hj=>h j (by grind));simp only[Op.eqItems,bu,dK];rw[uM _ i _ w h1];simp only[bp];rw[uM _ i _ w h2];simp only[bp];rw[run_equalIn_bool' w 9998 4 (f i) (g i) ce];simp only[bp];cases hq:(f i==g i) with
  |false=>simp[hq]
  |true=>grind
theorem BZ(w:World)(f g:Nat->Bool):(Op.equalIn 10000 227 (.agg (eV f)) (.agg (eV g))).run Tryz.prog w=.ok (eqS f g) w:=by
 have hi:∃i,Tryz.prog.info? 4=some i:=dN.1 (by kernel_rfl)
 obtain⟨i,hi⟩:=hi
 have h1:Tryz.prog.cellsOf 4=1:=by kernel_rfl
 rw[run_equalIn_array w 9999 _ _ bg hi,h1]
 exact qO w f g _ _ _ (λi hi=>⟨nJ f i (be.1 hi),nJ g i (be.1 hi)⟩)
structure jU where
 ia:Option Addr
 n:Nat
 c:Nat
 t:fC
def RM(b:jU):List Value:= [.slice b.ia b.n b.c,.int .i64 b.t.kind,.int .i64 b.t.a,.int .i64 b.t.t0,.int .i64 b.t.t1]
theorem TX(b:jU):(RM b).length=5:=rfl
def iP(w:World)(a:Option Addr)(n:Nat)(bs:List jU):Prop:=mO 5 RM w a n bs/\∀b∈bs,rM b.t
theorem iP.ext{w w':World}{a:Option Addr}{n:Nat}{bs:List jU}(h:iP w a n bs)(hb:Below w.heap.size w w'):iP w' a n bs:=⟨h.1.ext TX hb,h.2⟩
def eZ(bs:List jU):List fC:=bs.map (·.t)
theorem kQ(bs:List jU):(eZ bs).length=bs.length:=by simp[eZ]
theorem UM(bs:List jU)(k:Nat)(b:jU)(h:bs[k]? =some b):(eZ bs).getD k kI=b.t:=by
 grind[eZ]
abbrev AB(b:jU):Value:=.agg #[.slice b.ia b.n b.c,.int .i64 b.t.kind,.int .i64 b.t.a,.int .i64 b.t.t0,.int .i64 b.t.t1]
abbrev kP(b:jU):Obj:=.cells #[.slice b.ia b.n b.c,.int .i64 b.t.kind,.int .i64 b.t.a,.int .i64 b.t.t0,.int .i64 b.t.t1] 31
theorem iP.cells{w:World}{a:Option Addr}{n:Nat}{bs:List jU}(h:iP w a n bs){k:Nat}(hk:k<n):∃x b o,bs[k]? =some x/\rM x.t/\a=some ⟨b,o,none⟩/\
  w.cell? ⟨b,o+k*5,none⟩=some (.slice x.ia x.n x.c)/\w.cell? ⟨b,o+k*5+1,none⟩=some (.int .i64 x.t.kind)/\w.cell? ⟨b,o+k*5+2,none⟩=some (.int .i64 x.t.a)/\w.cell? ⟨b,o+k*5+3,none⟩=some (.int .i64 x.t.t0)/\w.cell? ⟨b,o+k*5+4,none⟩=some (.int .i64 x.t.t1):=by
 have hk':k<bs.length:=by rw[h.1.1];omega
 obtain⟨b,o,e,hc⟩:=h.1.2.2 k bs[k] (au hk')
 exact⟨bs[k],b,o,au hk',h.2 _ (dB hk'),e,hc 0 (by omega),hc 1 (by omega),hc 2 (by omega),hc 3 (by omega),hc 4 (by omega)⟩
def Sep(v v':Value):Prop:=∀g,v.ownBlock=some g->v'.ownBlock≠some g
theorem Sep.symm{v v':Value}(h:Sep v v'):Sep v' v:=λg h1 h2=>h g h2 h1
structure Fam(w:World)(B n k:Nat)(hF hT:Nat->Value)(xF xT:Nat->List Int):Prop where
 F:∀y,y<n->fQ w B (hF y) (xF y)
 T:∀j,j<k->fQ w B (hT j) (xT j)
 FF:∀y y',y<n->y'<n->y≠y'->Sep (hF y) (hF y')
 FT:∀y j,y<n->j<k->Sep (hF y) (hT j)
section
variable {w w':World} {B n k:Nat} {hF hT:Nat->Value} {xF xT:Nat->List Int}
theorem Fam.kept{row:Option Nat}(h:Fam w B n k hF hT xF xT)(hg:w.grownBy w' row)(hr:∀r,row=some r->r<B\/w.heap.size<=r):Fam w' B n k hF hT xF xT:=by
 have key:∀v xs,fQ w B v xs->fQ w' B v xs:=λv xs ho=>by
  refine ho.kept hg ?_;cases e:v.ownBlock with
  |none=>simp
  |some g=>
   have:=ho.1.lt g e
   grind
 exact⟨λy hy=>key _ _ (h.F y hy),λj hj=>key _ _ (h.T j hj),h.FF,h.FT⟩
theorem Fam.ext(h:Fam w B n k hF hT xF xT)(hb:Below w.heap.size w w'):Fam w' B n k hF hT xF xT:=
 h.kept (row:=none) ⟨hb.os,hb.tape,hb.output,hb.size,λk hk _=>hb.block k hk⟩ (λr e=>by cases e)
theorem Fam.add(h:Fam w B n k hF hT xF xT)(hb:Below w.heap.size w w')(hB:B<=w.heap.size)(v:Value)(xs:List Int)(ho:fQ w' w.heap.size v xs):Fam w' B n (k+1) hF (iX hT k v) xF (iX xT k xs):=by
 have h':=h.ext hb
 have hlt:∀y,y<n->Sep (hF y) v:=λy hy g e1 e2=>by
  have h1:=(h.F y hy).1.lt g e1;have h2:=ho.1.lt g e2;omega
 refine⟨h'.F,λj hj=>?_,h.FF,λy j hy hj=>?_⟩
 .by_cases e:j=k
  .simp only[iX,aX e];exact ho.mono hB
  .simp only[iX,aC e];exact h'.T j (by omega)
 .by_cases e:j=k
  .simp_all[iX]
  .simp only[iX,aC e];exact h.FT y j hy (by omega)
theorem Fam.turn(h:Fam w B n k hF hT xF xT)(y:Nat)(hy:y<n)(hg:w.grownBy w' (hF y).ownBlock)(v:Value)(xs:List Int)(ho:fQ w' B v xs)(hv:v.ownBlock=(hF y).ownBlock\/∃g,v.ownBlock=some g/\w.heap.size<=g):Fam w' B n k (iX hF y v) hT (iX xF y xs) xT:=by
 have keep:∀v' xs',fQ w B v' xs'->Sep (hF y) v'->fQ w' B v' xs':=λv' xs' ho' hs=>by
  refine ho'.kept hg ?_;cases e:v'.ownBlock with
  |none=>simp
  |some g=>exact .inr λe2=>hs g e2.symm e
 have sep:∀v' xs',fQ w B v' xs'->Sep (hF y) v'->Sep v v':=λv' xs' ho' hs g e1 e2=>by
  rcases hv with e|⟨g',e,hge⟩
  .exact hs g (by grind) e2
  .rw[e] at e1;injection e1 with e1;have:=(ho'.1.lt g e2).2;omega
 refine⟨λz hz=>?_,λj hj=>keep _ _ (h.T j hj) (h.FT y j hy hj),λz z' hz hz' hne=>?_,λz j hz hj=>?_⟩
 .by_cases e:z=y
  .simp_all[iX]
  .simp only[iX,aC e];exact keep _ _ (h.F z hz) (h.FF y z hy hz (λe2=>e e2.symm))
 .by_cases e:z=y
  .have e':¬z'=y:=λe2=>hne (e.trans e2.symm);simp only[iX,aX e,aC e'];exact sep _ _ (h.F z' hz') (h.FF y z' hy hz' (λe2=>e' e2.symm))
  .by_cases e':z'=y
   .simp only[iX,aX e',aC e];exact(sep _ _ (h.F z hz) (h.FF y z hy hz (λe2=>e e2.symm))).symm
   .simp only[iX,aC e',aC e];exact h.FF z z' hz hz' hne
 .by_cases e:z=y
  .simp only[iX,aX e];exact sep _ _ (h.T j hj) (h.FT y j hy hj)
  .simp only[iX,aC e];exact h.FT z j hz hj
end
def MM(n:Nat)(h:Nat->Value):Array Value:=((List.range n).map h).toArray
abbrev sM:Value:=.slice none 0 0
abbrev KB(n:Nat)(h:Nat->Value):Obj:=.cells (MM n h) 22 (0,0)
theorem LA(n:Nat)(h:Nat->Value)(j:Nat)(hj:j<n):(MM n h)[j]? =some (h j):=by grind[MM]
theorem AP(n:Nat)(h:Nat->Value):(MM n h).size=n:=by simp[MM]
theorem jd(n:Nat)(h:Nat->Value)(j:Nat)(v:Value):(MM n h).setIfInBounds j v=MM n (iX h j v):=by
 apply cH
 intro k
 by_cases hk:k<n
 .grind[LA,AP,iX]
 simp_all[AP]
theorem sC{W:World}{g n:Nat}{h:Nat->Value}(hg:W.heap[g]? =some (KB n h))(j:Nat)(hj:j<n):W.cell? ⟨g,j,none⟩=some (h j):=by rw[bd _ _ _ _ _ _ hg,LA _ _ _ hj]
theorem OB{W:World}{g n:Nat}{h:Nat->Value}(hg:W.heap[g]? =some (KB n h))(j:Nat):W.frozen? ⟨g,j,none⟩=false:=dg _ _ _ _ _ hg
theorem UX{W:World}{g n:Nat}{h:Nat->Value}(hg:W.heap[g]? =some (KB n h))(j:Nat)(v:Value):(W.setCell ⟨g,j,none⟩ v).heap[g]? =some (KB n (iX h j v)):=by rw[aO _ _ _ _ _ _ hg,jd]
def nA(ts:List fC)(k i y:Nat):List Nat:=((List.range k).flatMap λq=>((nx ts q).filter (λx=>x==y)).map λ_=>q)++(((nx ts k).take i).filter (λx=>x==y)).map λ_=>k
theorem WX(ts:List fC)(y:Nat):nA ts 0 0 y= []:=by rfl
theorem WZ(ts:List fC)(k i y:Nat)(h:(nx ts k).length<=i):nA ts k i y=nA ts (k+1) 0 y:=by
 grind[nA,List.take_of_length_le,List.range_succ]
theorem gv(ts:List fC)(y:Nat):nA ts ts.length 0 y=pv ts y:=by simp[nA,pv]
theorem WY(ts:List fC)(k i:Nat)(x:Nat)(h:(nx ts k)[i]? =some x)(y:Nat):nA ts k (i+1) y=if y=x then nA ts k i y++ [k] else nA ts k i y:=by
 grind[List.take_add_one,nA]
theorem gu(ts:List fC)(k i y:Nat):(nA ts k i y).length<=2*k+2:=by
 have hn:∀q,(nx ts q).length<=2:=λq=>by simp[nx,sS]
 have h1:∀k,((List.range k).flatMap λq=>((nx ts q).filter (λx=>x==y)).map λ_=>q).length<=2*k:=by
  intro k
  induction k with
  |zero=>simp
  |succ k ih=>
   grind[List.range_succ]
 have h2:=bY (λx=>x==y) ((nx ts k).take i)
 have h3:((nx ts k).take i).length<=2:=by rw[ck];have:=hn k;omega
 have h4:=h1 k
 simp only[nA,aT,bR]
 omega
end

section
open Go.Shelf
def PT:Go.Shelf.Ren:=⟨λ|189=>175|125=>104|257=>182|128=>144|129=>145|294=>186|295=>187|296=>188|297=>189|298=>190|299=>191|216=>91|300=>192|301=>193|328=>194|329=>158|330=>159|331=>195|332=>196|215=>131|343=>197|n=>n,λ|28=>22|3=>3|46=>145|0=>0|51=>219|53=>221|4=>4|183=>213|182=>212|131=>142|5=>5|9=>9|218=>230|222=>234|228=>243|229=>244|n=>n,λ|n=>n⟩
theorem UU:Go.Proofs.Lays.n189 Tryz.prog PT:={
 mixed:=by rfl
 f125:=Tryz.func104.trans (aL some (by rfl))
 f128:=Tryz.func144.trans (aL some (by rfl))
 f129:=Tryz.func145.trans (aL some (by rfl))
 f189:=Tryz.func175.trans (aL some (by rfl))
 f215:=Tryz.func131.trans (aL some (by rfl))
 f216:=Tryz.func91.trans (aL some (by rfl))
 f257:=Tryz.func182.trans (aL some (by rfl))
 f294:=Tryz.func186.trans (aL some (by rfl))
 f295:=Tryz.func187.trans (aL some (by rfl))
 f296:=Tryz.func188.trans (aL some (by rfl))
 f297:=Tryz.func189.trans (aL some (by rfl))
 f298:=Tryz.func190.trans (aL some (by rfl))
 f299:=Tryz.func191.trans (aL some (by rfl))
 f300:=Tryz.func192.trans (aL some (by rfl))
 f301:=Tryz.func193.trans (aL some (by rfl))
 f328:=Tryz.func194.trans (aL some (by rfl))
 f329:=Tryz.func158.trans (aL some (by rfl))
 f330:=Tryz.func159.trans (aL some (by rfl))
 f331:=Tryz.func195.trans (aL some (by rfl))
 f332:=Tryz.func196.trans (aL some (by rfl))
 f343:=Tryz.func197.trans (aL some (by rfl))
 t0:=Tryz.underlying0
 a0:=Tryz.isAgg0
 z0:=Tryz.sizeOf0
 v0:=Tryz.zeroValue0
 t3:=aP
 a3:=Tryz.isAgg3
 z3:=Tryz.sizeOf3
 v3:=Tryz.zeroValue3
 t4:=ce
 a4:=Tryz.isAgg4
 z4:=Tryz.sizeOf4
 v4:=Tryz.zeroValue4
 t5:=Tryz.underlying5
 a5:=Tryz.isAgg5
 z5:=Tryz.sizeOf5
 v5:=Tryz.zeroValue5
 t9:=Tryz.underlying9
 a9:=Tryz.isAgg9
 z9:=Tryz.sizeOf9
 v9:=Tryz.zeroValue9
 t28:=aQ
 a28:=Tryz.isAgg22
 z28:=Tryz.sizeOf22
 v28:=Tryz.zeroValue22
 t46:=Tryz.underlying145
 a46:=Tryz.isAgg145
 z46:=Tryz.sizeOf145
 v46:=Tryz.zeroValue145
 t51:=Tryz.underlying219
 a51:=Tryz.isAgg219
 z51:=Tryz.sizeOf219
 v51:=Tryz.zeroValue219
 t53:=Tryz.underlying221
 a53:=Tryz.isAgg221
 z53:=Tryz.sizeOf221
 v53:=Tryz.zeroValue221
 t131:=Tryz.underlying142
 a131:=Tryz.isAgg142
 z131:=Tryz.sizeOf142
 v131:=Tryz.zeroValue142
 t182:=Tryz.underlying212
 a182:=Tryz.isAgg212
 z182:=Tryz.sizeOf212
 v182:=Tryz.zeroValue212
 t183:=Tryz.underlying213
 a183:=Tryz.isAgg213
 z183:=Tryz.sizeOf213
 v183:=Tryz.zeroValue213
 t218:=Tryz.underlying230
 a218:=Tryz.isAgg230
 z218:=Tryz.sizeOf230
 v218:=Tryz.zeroValue230
 t222:=Tryz.underlying234
 a222:=Tryz.isAgg234
 z222:=Tryz.sizeOf234
 v222:=Tryz.zeroValue234
 t228:=Tryz.underlying243
 a228:=Tryz.isAgg243
 z228:=Tryz.sizeOf243
 v228:=Tryz.zeroValue243
 t229:=Tryz.underlying244
 a229:=Tryz.isAgg244
 z229:=Tryz.sizeOf244
 v229:=Tryz.zeroValue244}
open Go.Sort Go.RowKit in
theorem slices_Sort_int(blk off cap:Nat)(zs:List Int)(w:World)(hH:Holds (Value.int .i64) w blk off zs.toArray)(hblk:blk<w.heap.size)(hsz:zs.length<4611686018427387904):
  Calls Tryz.prog 175 #[.slice (some ⟨blk,off,none⟩) zs.length cap] w λe w'=>
   e=.returned (.tuple #[])/\∃n os,w'=grow (putRow (Value.int .i64) (Sort.ahead w n) blk off (zs.mergeSort λx y=>decide (x<=y)).toArray) os:=Any.slices_Sort_int UU blk off cap zs w hH hblk hsz
def PU:Go.Shelf.Ren:=⟨λ|112=>124|n=>n,λ|28=>22|3=>3|4=>4|0=>0|n=>n,λ|n=>n⟩
theorem UV:Go.Proofs.Lays.n112 Tryz.prog PU:={
 mixed:=by rfl
 f112:=Tryz.func124.trans (aL some (by rfl))
 t0:=Tryz.underlying0
 a0:=Tryz.isAgg0
 z0:=Tryz.sizeOf0
 v0:=Tryz.zeroValue0
 t3:=aP
 a3:=Tryz.isAgg3
 z3:=Tryz.sizeOf3
 v3:=Tryz.zeroValue3
 t4:=ce
 a4:=Tryz.isAgg4
 z4:=Tryz.sizeOf4
 v4:=Tryz.zeroValue4
 t28:=aQ
 a28:=Tryz.isAgg22
 z28:=Tryz.sizeOf22
 v28:=Tryz.zeroValue22}
open Go.RowKit Go.Lib Go.Sort in
theorem slices_Reverse_int(blk off cap:Nat)(zs:List Int)(w:World)(hH:Holds (Value.int .i64) w blk off zs.toArray)(hsz:zs.length<=9223372036854775807):
  Calls Tryz.prog 124 #[.slice (some ⟨blk,off,none⟩) zs.length cap] w λe w'=>e=.returned (.tuple #[])/\∃n,w'=putRow (Value.int .i64) (Sort.ahead w n) blk off zs.reverse.toArray:=Any.slices_Reverse_int UV blk off cap zs w hH hsz
open Go.RowKit Go.Lib Go.Sort in
theorem slices_Reverse_int_empty(a:Option Addr)(cap:Nat)(w:World):
  Calls Tryz.prog 124 #[.slice a 0 cap] w λe w'=>e=.returned (.tuple #[])/\w'=w:=Any.slices_Reverse_int_empty UV a cap w
def GM:Go.Shelf.Ren:=⟨λ|20=>176|n=>n,λ|22=>22|3=>3|4=>4|0=>0|n=>n,λ|n=>n⟩
theorem JD:Go.Proofs.Lays2.n20 Tryz.prog GM:={
 mixed:=by rfl
 f20:=Tryz.func176.trans (aL some (by rfl))
 t0:=Tryz.underlying0
 a0:=Tryz.isAgg0
 z0:=Tryz.sizeOf0
 v0:=Tryz.zeroValue0
 t3:=aP
 a3:=Tryz.isAgg3
 z3:=Tryz.sizeOf3
 v3:=Tryz.zeroValue3
 t4:=ce
 a4:=Tryz.isAgg4
 z4:=Tryz.sizeOf4
 v4:=Tryz.zeroValue4
 t22:=aQ
 a22:=Tryz.isAgg22
 z22:=Tryz.sizeOf22
 v22:=Tryz.zeroValue22
 i3:=by kernel_rfl}
open Go.RowKit Go.Lib Go.Sort in
theorem slices_Compact_int(blk off cap:Nat)(zs:List Int)(w:World)(hH:Holds (Value.int .i64) w blk off zs.toArray)(hsz:zs.length<=9223372036854775807)(hcap:zs.length<=cap):
  Calls Tryz.prog 176 #[.slice (some ⟨blk,off,none⟩) zs.length cap] w λe w'=>e=.returned (.slice (some ⟨blk,off,none⟩) (Lib.compact zs).length cap)/\∃q,w'=putRow (Value.int .i64) (Sort.ahead w q) blk off (Lib.compact zs++List.replicate (zs.length-(Lib.compact zs).length) 0).toArray:=Any.slices_Compact_int JD blk off cap zs w hH hsz hcap
open Go.RowKit Go.Lib Go.Sort in
theorem slices_Compact_int_empty(a:Option Addr)(cap:Nat)(w:World):
  Calls Tryz.prog 176 #[.slice a 0 cap] w λe w'=>e=.returned (.slice a 0 cap)/\w'=w:=Any.slices_Compact_int_empty JD a cap w
open Go.RowKit Go.Sort in
theorem slices_Sort_int_none(p:Option Addr)(cap:Nat)(w:World):
  Calls Tryz.prog 175 #[.slice p 0 cap] w λe w'=>e=.returned (.tuple #[])/\w'=w:=Any.slices_Sort_int_none UU p cap w
end
end Go.Proofs.YtchdkjenhppleaaGreat
