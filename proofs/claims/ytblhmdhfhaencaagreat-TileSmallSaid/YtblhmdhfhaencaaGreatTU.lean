/-
 Tile:what must hold of a tile.
-/
import Derived.Test.YtblhmdhfhaencaaGreatTR
import Derived.Test.YtblhmdhfhaencaaGreatTL
import Derived.Test.YtblhmdhfhaencaaGreatBR
import Derived.Deep.LoopGhost
namespace Go.Proofs.YtblhmdhfhaencaaGreat
set_option linter.unusedSimpArgs false
set_option linter.unusedVariables false
set_option linter.unusedSectionVars false
set_option maxRecDepth 100000
set_option maxHeartbeats 40000000
section
open Go.RowKit Go.Shelf
attribute [local go_sem] Oper.semAt_some cT bM cC bG
theorem GU(l:List Int)(x:Int):decide (0≤idx l x)=l.contains x:=by
 have h:=rS l x
 by_cases hx:x∈l
 ·have h2:¬idx l x<0:=fun h3=>h.1 h3 hx;simp[hx];omega
 ·have h2:=h.2 hx;simp[hx];omega
theorem QJ(t:bI)(e:List Nat):nG t e=true→∃x,e= [x]:=by
 match e with
 | []=>simp[nG]
 | [x]=>exact fun _=>⟨x,rfl⟩
 |_ :: _ :: _=>simp[nG]
abbrev PP(t:bK):Value:=.agg #[.int .i64 t.d.kind,.int .i64 t.d.parent,.slice t.ba t.bn t.bc]
theorem SY(d:fD)(ts:List aT)(t:bK)(f:Nat→Bool)(w:World)(hok:gH w d ts)(hg:fS ts=true)(hcf:cA f)(hI:dY w t.ba t.bn t.d.blocks)(hki:I64 t.d.kind)
  (hbs:∀x∈t.d.blocks,0≤x∧x<d.bn) (hf:∀b l,aZ f=b :: l→b<d.bn):
  Calls Tryz.prog 101 #[dK d,PP t,.agg (aQ f)] w fun e w'=>e=.returned (.bool (dC ts t.d f))∧Below w.heap.size w w':=by
 have HOK:=aBO hok
 have HG:=aBO hg
 have HCF:=aBO hcf
 have HI:=aBO hI
 have HBS:=aBO hbs
 have HF:=aBO hf
 obtain⟨hk1,hk2⟩:=hki
 clear hok hg hcf hI hbs hf
 go_enter Tryz.func101,Tryz.ntmps101
 go_upto_region 1 with (fail)
 obtain⟨W,hW⟩:∃W,W=((w.alloc (kK d)).alloc (kZ t)).alloc (eA f):=⟨_,rfl⟩
 rw[←hW]
 have hk:W.heap[w.heap.size]? =some (kK d):=by rw[hW,aBR _ _ _ (by simp;omega),aBR _ _ _ (by simp)];exact aBS _ _
 have ht:W.heap[w.heap.size+1]? =some (kZ t):=by rw[hW,aBR _ _ _ (by simp)];exact aU _ _ _ (by simp)
 have hs:W.heap[w.heap.size+1+1]? =some (eA f):=by rw[hW,aU _ _ _ (by simp)]
 have hB:Below w.heap.size w W:=by rw[hW];exact((aD _ _).alloc (by simp) _).alloc (by simp;omega) _
 have HK:=aBO hk
 have HT:=aBO ht
 have HS:=aBO hs
 have HB:=aBO hB
 clear hW hk ht hs hB
 go_upto_region 2 with (first
  |(refine wpList_load_row (o:=⟨some 9,.load 116 _,_,_,_,_⟩) rfl 116 _ rfl w.heap.size rfl 116 _ (0,0) _ HK.out Tryz.underlying116 rfl bD ?_)
  |(refine wpList_load_row (o:=⟨some 10,.load 124 _,_,_,_,_⟩) rfl 124 _ rfl (w.heap.size+1+1) rfl 124 _ (0,0) _ HS.out Tryz.underlying124 rfl (by rw[aF];exact bF) ?_)
  |(go_at_call 106
    refine(rX d ts f W (HOK.out.ext HB.out) HG.out).mono ?_;rintro e w2 ⟨ev,rfl,ho,hb⟩;obtain⟨ea,ec,rfl⟩:=ho.form;have HE:=aBO ho.ints;have HK2:=aBO (aB hb HK.out);have HT2:=aBO (aB hb HT.out);have HS2:=aBO (aB hb HS.out);have HB2:=aBO (aA HB.out hb);have hec:=ho.cap;have hel:(aO (aM ts f)).length=(aM ts f).length:=(by simp[aO])
    rw[hel] at hec HE⊢
    clear ho hb hel))
 have hel2:(aM ts f).length≤200:=aCD (List.length_filter_le _ _) (pY f)
 clear HK HT HS HB
 go_cut [8] (fun s8 wr=>s8=.bool (nG t.d (aM ts f))∧Hid (wr.heap[w.heap.size]? =some (kK d))∧Hid (wr.heap[w.heap.size+1]? =some (kZ t))∧Hid (wr.heap[w.heap.size+1+1]? =some (eA f))∧Hid (dY wr ea (aM ts f).length (aO (aM ts f)))∧Hid (Below w.heap.size w wr))
 case first=>
  have kB:∀n:aY w2,n.val.cell? ⟨w.heap.size+1,2,none⟩=some (.slice t.ba t.bn t.bc):=fun n=>aH n.ext (by rw[aBP _ _ _ _ _ _ HT2.out];rfl);by_cases h1:(aM ts f).length=1
  ·obtain⟨x,hx⟩:∃x,aM ts f= [x]:=by
    match h:aM ts f with
    | []=>rw[h] at h1;simp at h1
    | [x]=>exact⟨x,rfl⟩
    |_ :: _ :: _=>rw[h] at h1;simp at h1
   obtain⟨b,o,rfl,hc,_⟩:=HE.out.2.2 0 (by omega);have hx0:(aO (aM ts f)).getD 0 0=(x:Int):=by rw[hx];rfl
   rw[hx0] at hc;have kE:∀n:aY w2,n.val.cell? ⟨b,o,none⟩=some (.int .i64 (x:Int)):=fun n=>aH n.ext hc;have HO:Hid (nG t.d (aM ts f)=decide (0≤idx t.d.blocks (x:Int))):=by
    rw[hx,Hid,GU];simp[nG]
   have heq:((((aM ts f).length:Nat):Int)==1)=true:=by simp[h1]
   have hlt:0<(aM ts f).length:=by omega
   clear hx hx0 hc h1;refine bB (by kernel_rfl) (by kernel_rfl) ?_
   repeat (go_big_quiet_step (first
    |(go_at_call 159;exact sC (pF t.ba t.bn t.bc t.d.blocks _ _ (HI.out.ext (aA HB2.out (aY.ext _)))))))
   refine wpQuiet_nil ?_;intro _ hw';obtain⟨n,rfl⟩:=hw';go_wp2
   go_meet
   exact⟨by rw[HO.out],aB n.ext HK2.out,aB n.ext HT2.out,aB n.ext HS2.out,HE.out.ext n.ext,aA HB2.out n.ext⟩
  ·have hne:((((aM ts f).length:Nat):Int)==1)=false:=by simp;omega
   have HO:Hid (nG t.d (aM ts f)=false):=by
    rw[Hid];simp[nG,h1]
   refine bB (by kernel_rfl) (by kernel_rfl) ?_
   repeat (go_big_quiet_step (fail))
   refine wpQuiet_nil ?_;intro _ hw';obtain⟨n,rfl⟩:=hw';go_wp2
   go_meet
   exact⟨by rw[HO.out],aB n.ext HK2.out,aB n.ext HT2.out,aB n.ext HS2.out,HE.out.ext n.ext,aA HB2.out n.ext⟩
 case rest=>
  obtain⟨rfl,HW,HT,HS,HE2,HB⟩:=hcut;have hkc:wc.cell? ⟨w.heap.size+1,0,none⟩=some (.int .i64 t.d.kind):=by rw[aBP _ _ _ _ _ _ HT.out];rfl
  clear HE HK2 HT2 HS2 HB2;by_cases h3:t.d.kind=3
  ·have e3:(t.d.kind==3)=true:=by simp[h3]
   have HR:Hid (dC ts t.d f=(decide (1<(aM ts f).length)&&cU ts f)):=by simp[Hid,dC,h3]
   clear h3;by_cases hl:1<(aM ts f).length
   ·have d1:decide ((1:Int)<((aM ts f).length:Int))=true:=by simp;omega
    have d2:decide (1<(aM ts f).length)=true:=by simpa using hl
    rw[d2,Bool.true_and] at HR
    go_wp2_with (first
     |(refine bS (o:=⟨some 37,.load 116 _,_,_,_,_⟩) (by rfl) 116 _ rfl w.heap.size rfl 116 _ (0,0) _ HW.out Tryz.underlying116 rfl bD ?_)
     |(refine bS (o:=⟨some 38,.load 124 _,_,_,_,_⟩) (by rfl) 124 _ rfl (w.heap.size+1+1) rfl 124 _ (0,0) _ HS.out Tryz.underlying124 rfl (by rw[aF];exact bF) ?_)
     |(go_at_call 163
       refine(vX d ts f wc (HOK.out.ext HB.out) HG.out HCF.out HF.out).mono ?_;rintro e w3 ⟨rfl,hb3⟩;have HB3:=aBO (aA HB.out hb3)
       clear hb3))
    go_ret
    exact⟨(congrArg (fun b=>Ending.returned (Value.bool b)) HR.out).symm,HB3.out⟩
   ·have d1:decide ((1:Int)<((aM ts f).length:Int))=false:=by simp;omega
    have d2:decide (1<(aM ts f).length)=false:=by simpa using hl
    rw[d2,Bool.false_and] at HR;go_wp2
    go_ret
    exact⟨(congrArg (fun b=>Ending.returned (Value.bool b)) HR.out).symm,HB.out⟩
  ·have e3:(t.d.kind==3)=false:=by simpa using h3
   by_cases h2:t.d.kind=2
   ·have e2:(t.d.kind==2)=true:=by simp[h2]
    have HR:Hid (dC ts t.d f=(nG t.d (aM ts f)&&cU ts f&& !iD ts t.d.blocks (bW f ((aM ts f).headD 0)))):=by simp[Hid,dC,h2]
    clear h3 h2;cases ho:nG t.d (aM ts f) with
    |false=>
     rw[ho,Bool.false_and,Bool.false_and] at HR;clear ho
     go_wp2_with (fail)
     refine bB (by kernel_rfl) (by kernel_rfl) ?_
     repeat (first
      |go_big_quiet_skip
      |(refine aW (o:=⟨some 43,.load 116 _,_,_,_,_⟩) (by rfl) 116 _ rfl w.heap.size rfl 116 #[.slice d.pa d.pn d.pc,.slice d.ba d.bn d.bc,.slice d.ta d.bn d.tc,.slice d.fa d.bn d.fc] (0,0) _ (by rintro _ ⟨n,rfl⟩;exact aB n.ext HW.out) Tryz.underlying116 rfl bD ?_;simp only[zJ,zG,zH,zI])
      |(refine aW (o:=⟨some 44,.load 124 _,_,_,_,_⟩) (by rfl) 124 _ rfl (w.heap.size+1+1) rfl 124 (aQ f) (0,0) _ (by rintro _ ⟨n,rfl⟩;exact aB n.ext HS.out) Tryz.underlying124 rfl (by rw[aF];exact bF) ?_;simp only[zJ,zG,zH,zI])
      |go_big_quiet_step (fail))
     refine wpQuiet_nil ?_;intro _ hw';obtain⟨n,rfl⟩:=hw';go_wp2
     go_ret
     exact⟨(congrArg (fun b=>Ending.returned (Value.bool b)) HR.out).symm,aA HB.out n.ext⟩
    |true=>
     obtain⟨x,hx⟩:=QJ _ _ ho;obtain⟨b,o,rfl,hc,_⟩:=HE2.out.2.2 0 (by rw[hx];simp);have hxm:x∈aM ts f:=by rw[hx];simp
     have hx2:x<200:=mZ f x (List.mem_filter.1 hxm).1;clear hxm;rw[ho,Bool.true_and,show(aM ts f).headD 0=x by rw[hx];rfl] at HR;have hx0:(aO (aM ts f)).getD 0 0=(x:Int):=by rw[hx];rfl
     rw[hx0] at hc;have kE:∀n:aY wc,n.val.cell? ⟨b,o,none⟩=some (.int .i64 (x:Int)):=fun n=>aH n.ext hc;have kB:∀n:aY wc,n.val.cell? ⟨w.heap.size+1,2,none⟩=some (.slice t.ba t.bn t.bc):=fun n=>aH n.ext (by rw[aBP _ _ _ _ _ _ HT.out];rfl);have hlt:0<(aM ts f).length:=by rw[hx];simp
     clear ho hx hx0 hc
     have HTG:Hid (∀n:aY wc,Calls Tryz.prog 163 #[dK d,.agg (aQ f)] n.val fun e w''=>e=.returned (.bool (cU ts f))∧∃m:aY wc,w''=m.val):=
      fun n=>cG (vX d ts f _ (HOK.out.ext (aA HB.out n.ext)) HG.out HCF.out HF.out)
     cases htg:cU ts f with
     |false=>
      rw[htg,Bool.false_and] at HR;rw[htg] at HTG;clear htg
      go_wp2_with (fail)
      refine bB (by kernel_rfl) (by kernel_rfl) ?_
      repeat (first
       |go_big_quiet_skip
       |(refine aW (o:=⟨some 43,.load 116 _,_,_,_,_⟩) (by rfl) 116 _ rfl w.heap.size rfl 116 #[.slice d.pa d.pn d.pc,.slice d.ba d.bn d.bc,.slice d.ta d.bn d.tc,.slice d.fa d.bn d.fc] (0,0) _ (by rintro _ ⟨n,rfl⟩;exact aB n.ext HW.out) Tryz.underlying116 rfl bD ?_;simp only[zJ,zG,zH,zI])
       |(refine aW (o:=⟨some 44,.load 124 _,_,_,_,_⟩) (by rfl) 124 _ rfl (w.heap.size+1+1) rfl 124 (aQ f) (0,0) _ (by rintro _ ⟨n,rfl⟩;exact aB n.ext HS.out) Tryz.underlying124 rfl (by rw[aF];exact bF) ?_;simp only[zJ,zG,zH,zI])
       |go_big_quiet_step (first
        |(go_at_call 163;exact HTG.out _)))
      refine wpQuiet_nil ?_;intro _ hw';obtain⟨n,rfl⟩:=hw';go_wp2
      go_ret
      exact⟨(congrArg (fun b=>Ending.returned (Value.bool b)) HR.out).symm,aA HB.out n.ext⟩
     |true=>
      rw[htg,Bool.true_and] at HR;rw[htg] at HTG;clear htg
      go_wp2_with (fail)
      refine bB (by kernel_rfl) (by kernel_rfl) ?_
      repeat (first
       |go_big_quiet_skip
       |(refine aW (o:=⟨some 43,.load 116 _,_,_,_,_⟩) (by rfl) 116 _ rfl w.heap.size rfl 116 #[.slice d.pa d.pn d.pc,.slice d.ba d.bn d.bc,.slice d.ta d.bn d.tc,.slice d.fa d.bn d.fc] (0,0) _ (by rintro _ ⟨n,rfl⟩;exact aB n.ext HW.out) Tryz.underlying116 rfl bD ?_;simp only[zJ,zG,zH,zI])
       |(refine aW (o:=⟨some 44,.load 124 _,_,_,_,_⟩) (by rfl) 124 _ rfl (w.heap.size+1+1) rfl 124 (aQ f) (0,0) _ (by rintro _ ⟨n,rfl⟩;exact aB n.ext HS.out) Tryz.underlying124 rfl (by rw[aF];exact bF) ?_;simp only[zJ,zG,zH,zI])
       |(refine aW (o:=⟨some 48,.load 116 _,_,_,_,_⟩) (by rfl) 116 _ rfl w.heap.size rfl 116 #[.slice d.pa d.pn d.pc,.slice d.ba d.bn d.bc,.slice d.ta d.bn d.tc,.slice d.fa d.bn d.fc] (0,0) _ (by rintro _ ⟨n,rfl⟩;exact aB n.ext HW.out) Tryz.underlying116 rfl bD ?_;simp only[zJ,zG,zH,zI])
       |(refine aW (o:=⟨some 51,.load 124 _,_,_,_,_⟩) (by rfl) 124 _ rfl (w.heap.size+1+1) rfl 124 (aQ f) (0,0) _ (by rintro _ ⟨n,rfl⟩;exact aB n.ext HS.out) Tryz.underlying124 rfl (by rw[aF];exact bF) ?_;simp only[zJ,zG,zH,zI])
       |go_big_quiet_step (first
        |(go_at_call 163;exact HTG.out _)
        |(go_at_call 131;exact cG (AQ f x hx2 _))
        |(go_at_call 164;exact cG (wX d ts (bW f x) t.ba t.bn t.bc t.d.blocks _ (HI.out.ext (aA HB.out (aY.ext _))) HBS.out (HOK.out.ext (aA HB.out (aY.ext _))) HG.out (jQ HCF.out x)))))
      refine wpQuiet_nil ?_;intro _ hw';obtain⟨n,rfl⟩:=hw';go_wp2
      go_ret
      exact⟨(congrArg (fun b=>Ending.returned (Value.bool b)) HR.out).symm,aA HB.out n.ext⟩
   ·have e2:(t.d.kind==2)=false:=by simpa using h2
    by_cases h4:t.d.kind=4
    ·have e4:(t.d.kind==4)=true:=by simp[h4]
     have HR:Hid (dC ts t.d f=(nG t.d (aM ts f)&& !iD ts t.d.blocks f)):=by simp[Hid,dC,h4]
     clear h3 h2 h4;cases ho:nG t.d (aM ts f) with
     |true=>
      rw[ho,Bool.true_and] at HR;clear ho;have hc2:wc.cell? ⟨w.heap.size+1,2,none⟩=some (.slice t.ba t.bn t.bc):=by rw[aBP _ _ _ _ _ _ HT.out];rfl
      go_wp2_with (first
       |(refine wpList_load_row (o:=⟨some 61,.load 116 _,_,_,_,_⟩) rfl 116 _ rfl w.heap.size rfl 116 _ (0,0) _ HW.out Tryz.underlying116 rfl bD ?_)
       |(refine wpList_load_row (o:=⟨some 64,.load 124 _,_,_,_,_⟩) rfl 124 _ rfl (w.heap.size+1+1) rfl 124 _ (0,0) _ HS.out Tryz.underlying124 rfl (by rw[aF];exact bF) ?_)
       |(go_at_call 164
         refine(wX d ts f t.ba t.bn t.bc t.d.blocks wc (HI.out.ext HB.out) HBS.out (HOK.out.ext HB.out) HG.out HCF.out).mono ?_;rintro e w3 ⟨rfl,hb3⟩;have HB3:=aBO (aA HB.out hb3)
         clear hb3))
      go_ret
      exact⟨(congrArg (fun b=>Ending.returned (Value.bool b)) HR.out).symm,HB3.out⟩
     |false=>
      rw[ho,Bool.false_and] at HR;clear ho;go_wp2
      go_ret
      exact⟨(congrArg (fun b=>Ending.returned (Value.bool b)) HR.out).symm,HB.out⟩
    ·have e4:(t.d.kind==4)=false:=by simpa using h4
     by_cases h1:t.d.kind=1
     ·have e1:(t.d.kind==1)=true:=by simp[h1]
      have HR:Hid (dC ts t.d f= !iD ts t.d.blocks f):=by simp[Hid,dC,h1]
      clear h3 h2 h4 h1;have hc2:wc.cell? ⟨w.heap.size+1,2,none⟩=some (.slice t.ba t.bn t.bc):=by rw[aBP _ _ _ _ _ _ HT.out];rfl
      go_wp2_with (first
       |(refine wpList_load_row (o:=⟨some 61,.load 116 _,_,_,_,_⟩) rfl 116 _ rfl w.heap.size rfl 116 _ (0,0) _ HW.out Tryz.underlying116 rfl bD ?_)
       |(refine wpList_load_row (o:=⟨some 64,.load 124 _,_,_,_,_⟩) rfl 124 _ rfl (w.heap.size+1+1) rfl 124 _ (0,0) _ HS.out Tryz.underlying124 rfl (by rw[aF];exact bF) ?_)
       |(go_at_call 164
         refine(wX d ts f t.ba t.bn t.bc t.d.blocks wc (HI.out.ext HB.out) HBS.out (HOK.out.ext HB.out) HG.out HCF.out).mono ?_;rintro e w3 ⟨rfl,hb3⟩;have HB3:=aBO (aA HB.out hb3)
         clear hb3))
      go_ret
      exact⟨(congrArg (fun b=>Ending.returned (Value.bool b)) HR.out).symm,HB3.out⟩
     ·have e1:(t.d.kind==1)=false:=by simpa using h1
      have HR:Hid (dC ts t.d f=false):=by simp[Hid,dC,h1,h2,h3,h4]
      clear h3 h2 h4 h1;go_wp2
      go_ret
      exact⟨(congrArg (fun b=>Ending.returned (Value.bool b)) HR.out).symm,HB.out⟩
end

section
open Go.RowKit Go.Shelf
attribute [local go_sem] Oper.semAt_some cT bM cC bG
def mB(l:List bI)(k:Nat):Bool:=
 let t:=l.getD k fC
 ((k==0) != (t.kind==1))||((k==0) != (t.parent== -1))||(t.blocks.length==0)||(decide (0<k)&&((l.getD t.parent.toNat fC).kind==3))
theorem uE(n:Nat)(l:List bI)(k:Nat):eV n l k=(!mB l k&&iN n (l.getD k fC).blocks):=rfl
def mF(bs:List Int)(i:Nat):Int:=if i=0 then -1 else bs.getD (i-1) 0
def wT(n:Nat)(bs:List Int)(m:Nat):Prop:=∀i,i<m→(0≤bs.getD i 0∧bs.getD i 0<n)∧(i=0∨bs.getD (i-1) 0<bs.getD i 0)
theorem oJ(n:Nat)(bs:List Int):iN n bs=true↔wT n bs bs.length:=by
 simp[iN,wT]
theorem BG(d:fD)(hbn:d.bn≤200)(a:Option Addr)(n c:Nat)(ls:List bK)(k:Nat)(w:World)(h:cM w a n ls)(hk:k<n)(hp:cD (aJ ls)=true):
  Calls Tryz.prog 100 #[dK d,.slice a n c,.int .i64 (k:Int)] w fun e w'=>e=.returned (.bool (eV d.bn (aJ ls) k))∧Below w.heap.size w w':=by
 have hn:=h.1.2.1
 have HL:=aBO h.1.1
 obtain⟨t,b,o,hlk,⟨hI,hcap,hI1,hI2⟩,rfl,c0,c1,c2⟩:=h.cells hk
 have htd:=iM ls k t hlk
 have hpk:=(dH _).1 hp k (by rw[cQ,h.1.1];exact hk)
 rw[fJ,htd] at hpk
 have HST:=aBO (uE d.bn (aJ ls) k)
 rw[htd] at HST
 have HM:Hid (mB (aJ ls) k=(((k==0) != (t.d.kind==1))||((k==0) != (t.d.parent== -1))||(t.d.blocks.length==0)||(decide (0<k)&&(((aJ ls).getD t.d.parent.toNat fC).kind==3)))):=by
  rw[Hid,mB,htd]
 have HLn:=aBO hI.1
 have hbl:=hI.2.1
 have HI:=aBO hI
 have H:=aBO h
 clear h hlk hI htd hp
 go_enter Tryz.func100,Tryz.ntmps100
 go_upto_region 1 with (fail)
 obtain⟨W,hW⟩:∃W,W=w.alloc (kK d):=⟨_,rfl⟩
 rw[←hW]
 have hk0:W.heap[w.heap.size]? =some (kK d):=by rw[hW];exact aBS _ _
 have hB:Below w.heap.size w W:=by rw[hW];exact aD _ _
 replace c0:=aH hB c0
 replace c1:=aH hB c1
 replace c2:=aH hB c2
 have HK:=aBO hk0
 have HB:=aBO hB
 clear hW hk0 hB
 go_upto_region 2 with (fail)
 obtain⟨W2,hW2⟩:∃W2,W2=W.alloc (kZ t):=⟨_,rfl⟩
 rw[←hW2]
 have hB2:Below w.heap.size w W2:=by rw[hW2];exact HB.out.alloc HB.out.size _
 have hB3:Below W.heap.size W W2:=by rw[hW2];exact aD _ _
 have ht2:W2.heap[W.heap.size]? =some (kZ t):=by rw[hW2];exact aBS _ _
 have HK2:=aBO (aB hB3 HK.out)
 have HB2:=aBO hB2
 have HT2:=aBO ht2
 have hPT:W.heap.size=W.heap.size:=rfl
 clear hW2 hB2 hB3 ht2 c0 c1 c2 HK HB
 generalize W.heap.size=g at*
 go_cut [47] (fun s47 wr=>s47=.bool (mB (aJ ls) k)∧wr=W2)
 case first=>
  have t0:W2.cell? ⟨g,0,none⟩=some (.int .i64 t.d.kind):=by rw[aBP _ _ _ _ _ _ HT2.out];rfl
  have t1:W2.cell? ⟨g,1,none⟩=some (.int .i64 t.d.parent):=by rw[aBP _ _ _ _ _ _ HT2.out];rfl
  have t2:W2.cell? ⟨g,2,none⟩=some (.slice t.ba t.bn t.bc):=by rw[aBP _ _ _ _ _ _ HT2.out];rfl
  by_cases hk0:k=0
  ·have fk:((k:Int)==0)=true:=by simp[hk0]
   have fkp:decide (0<(k:Int))=false:=by simp[hk0]
   have fkn:decide (0<k)=false:=by simp[hk0]
   by_cases ha:t.d.kind=1
   ·have fa:(t.d.kind==1)=true:=by simp[ha]
    have hpe:t.d.parent= -1:=by omega
    have fp:(t.d.parent== -1)=true:=by simp[hpe]
    by_cases hl:t.bn=0
    ·have fl:((t.bn:Int)==0)=true:=by simp[hl]
     have hE:Hid (mB (aJ ls) k=true):=by rw[Hid,HM.out];simp[HLn.out,hk0,ha,hpe,hl]
     clear hk0 ha hpe hl hpk;go_wp2
     go_meet
     exact⟨(congrArg Value.bool hE.out).symm,rfl⟩
    ·have fl:((t.bn:Int)==0)=false:=by simp[hl]
     have hE:Hid (mB (aJ ls) k=false):=by rw[Hid,HM.out];simp[HLn.out,hk0,ha,hpe,hl]
     clear hk0 ha hpe hl hpk;go_wp2
     go_meet
     exact⟨(congrArg Value.bool hE.out).symm,rfl⟩
   ·have fa:(t.d.kind==1)=false:=by simp[ha]
    have hE:Hid (mB (aJ ls) k=true):=by rw[Hid,HM.out];simp[HLn.out,hk0,ha]
    clear hk0 ha hpk;go_wp2
    go_meet
    exact⟨(congrArg Value.bool hE.out).symm,rfl⟩
  ·have fk:((k:Int)==0)=false:=by simp[hk0]
   have fkp:decide (0<(k:Int))=true:=by simp;omega
   have fkn:decide (0<k)=true:=by simp;omega
   by_cases ha:t.d.kind=1
   ·have fa:(t.d.kind==1)=true:=by simp[ha]
    have hE:Hid (mB (aJ ls) k=true):=by rw[Hid,HM.out];simp[HLn.out,hk0,ha]
    clear hk0 ha hpk;go_wp2
    go_meet
    exact⟨(congrArg Value.bool hE.out).symm,rfl⟩
   ·have fa:(t.d.kind==1)=false:=by simp[ha]
    by_cases hpe:t.d.parent= -1
    ·have fp:(t.d.parent== -1)=true:=by simp[hpe]
     have hE:Hid (mB (aJ ls) k=true):=by rw[Hid,HM.out];simp[HLn.out,hk0,ha,hpe]
     clear hk0 ha hpe hpk;go_wp2
     go_meet
     exact⟨(congrArg Value.bool hE.out).symm,rfl⟩
    ·have fp:(t.d.parent== -1)=false:=by simp[hpe]
     have hp0:0≤t.d.parent:=by omega
     have hpn:t.d.parent<(n:Int):=by omega
     by_cases hl:t.bn=0
     ·have fl:((t.bn:Int)==0)=true:=by simp[hl]
      have hE:Hid (mB (aJ ls) k=true):=by rw[Hid,HM.out];simp[HLn.out,hk0,ha,hpe,hl]
      clear hk0 ha hpe hl hpk;go_wp2
      go_meet
      exact⟨(congrArg Value.bool hE.out).symm,rfl⟩
     ·have fl:((t.bn:Int)==0)=false:=by simp[hl]
      obtain⟨t',b',o',hl',_,hab,l0,_,_⟩:=(H.out.ext HB2.out).cells (k:=t.d.parent.toNat) (by omega);injection hab with hab;injection hab with hab1 hab2 _;subst hab1 hab2;have htd':=iM ls _ t' hl';by_cases he:t'.d.kind=3
      ·have fe:(t'.d.kind==3)=true:=by simp[he]
       have fkb:(k==0)=false:=by simp[hk0]
       have flb:(t.bn==0)=false:=by simp[hl]
       have hE:Hid (mB (aJ ls) k=true):=by rw[Hid,HM.out,htd',fkb,fa,fp,HLn.out,flb,fkn,fe];rfl
       clear fkb flb;clear hk0 ha hpe hl hpk he hl' htd';go_wp2
       go_meet
       exact⟨(congrArg Value.bool hE.out).symm,rfl⟩
      ·have fe:(t'.d.kind==3)=false:=by simp[he]
       have fkb:(k==0)=false:=by simp[hk0]
       have flb:(t.bn==0)=false:=by simp[hl]
       have hE:Hid (mB (aJ ls) k=false):=by rw[Hid,HM.out,htd',fkb,fa,fp,HLn.out,flb,fkn,fe];rfl
       clear fkb flb;clear hk0 ha hpe hl hpk he hl' htd';go_wp2
       go_meet
       exact⟨(congrArg Value.bool hE.out).symm,rfl⟩
 case rest=>
  obtain⟨rfl,rfl⟩:=hcut;cases hm:mB (aJ ls) k with
  |true=>
   have HE:Hid (eV d.bn (aJ ls) k=false):=by rw[Hid,HST.out,hm];rfl
   clear hm;go_wp2
   go_ret
   exact⟨(congrArg (fun b=>Ending.returned (Value.bool b)) HE.out).symm,HB2.out⟩
  |false=>
   have HE:Hid (eV d.bn (aJ ls) k=iN d.bn t.d.blocks):=by rw[Hid,HST.out,hm];rfl
   clear hm;have t2:wc.cell? ⟨g,2,none⟩=some (.slice t.ba t.bn t.bc):=by rw[aBP _ _ _ _ _ _ HT2.out];rfl
   have w1:wc.cell? ⟨w.heap.size,1,none⟩=some (.slice d.ba d.bn d.bc):=by rw[aBP _ _ _ _ _ _ HK2.out];rfl
   generalize t.ba=ba at *;go_wp2
   go_loopw [8,10,51] (fun l _ i wr=>∃(m:Nat),m≤t.bn∧i=.int .i64 m∧l=.int .i64 (mF t.d.blocks m)∧Hid (wT d.bn t.d.blocks m)∧wr=wc) (fun _ _ i _=>t.bn-(intOf i).toNat)
   case atStart=>exact⟨0,by omega,rfl,rfl,fun j hj=>absurd hj (by omega),rfl⟩
   case round=>
    obtain⟨m,hm,rfl,rfl,HR,rfl⟩:=hrel;by_cases hlt:m<t.bn
    ·obtain⟨bb,ob,rfl,hc,hw1,hw2⟩:=(HI.out.ext HB2.out).2.2 m hlt;have hmx:m<t.d.blocks.length:=by rw[HLn.out];exact hlt
     have hlast:I64 (mF t.d.blocks m):=by
      unfold mF
      split
      ·unfold I64;omega
      ·obtain⟨_,_,_,_,h1,h2⟩:=(HI.out).2.2 (m-1) (by omega);exact⟨h1,h2⟩
     have HLA:Hid (m=0∧mF t.d.blocks m= -1∨m≠0∧mF t.d.blocks m=t.d.blocks.getD (m-1) 0):=by
      unfold mF;by_cases e:m=0
      ·exact .inl ⟨e,by simp[e]⟩
      ·exact .inr ⟨e,by simp[e]⟩
     have HNX:Hid (mF t.d.blocks (m+1)=t.d.blocks.getD m 0):=by simp[Hid,mF]
     have HRS:Hid (iN d.bn t.d.blocks=true→(0≤t.d.blocks.getD m 0∧t.d.blocks.getD m 0<d.bn)∧mF t.d.blocks m<t.d.blocks.getD m 0):=fun h=>by
      have h1:=(oJ _ _).1 h m hmx;refine⟨h1.1,?_⟩;rcases HLA.out with ⟨h2,h3⟩|⟨h2,h3⟩
      ·rw[h3];omega
      ·rw[h3];exact h1.2.resolve_left h2
     have HRN:Hid (0≤t.d.blocks.getD m 0→t.d.blocks.getD m 0<d.bn→mF t.d.blocks m<t.d.blocks.getD m 0→wT d.bn t.d.blocks (m+1)):=fun h1 h2 h3 j hj=>by
      by_cases e:j=m
      ·subst e;refine⟨⟨h1,h2⟩,?_⟩;rcases HLA.out with ⟨h4,h5⟩|⟨h4,h5⟩
       ·exact .inl h4
       ·rw[h5] at h3;exact .inr h3
      ·exact HR.out j (by omega)
     have hl1: -1≤mF t.d.blocks m:=by
      rcases HLA.out with ⟨h4,h5⟩|⟨h4,h5⟩
      ·omega
      ·rw[h5];have:=(HR.out (m-1) (by omega)).1;omega
     obtain⟨hla1,hla2⟩:=hlast;clear hmx HLA HR;generalize t.d.blocks.getD m 0=x at *;generalize mF t.d.blocks m=la at *;by_cases h1:x≤la
     ·have HF:Hid (iN d.bn t.d.blocks=false):=by
       rw[Hid,Bool.eq_false_iff];intro h;have:=(HRS.out h).2;omega
      go_wp2
      go_ret
      exact⟨(congrArg (fun b=>Ending.returned (Value.bool b)) (HE.out.trans HF.out)).symm,HB2.out⟩
     ·by_cases h2:x<(d.bn:Int)
      ·have HR2:=aBO (HRN.out (by omega) h2 (by omega));go_wp2
       go_roundw
       case rel=>exact⟨m+1,by omega,by go_num,by rw[HNX.out],HR2,trivial⟩
       case measure=>simp[intOf];omega
      ·have HF:Hid (iN d.bn t.d.blocks=false):=by
        rw[Hid,Bool.eq_false_iff];intro h;have:=(HRS.out h).1;omega
       go_wp2
       go_ret
       exact⟨(congrArg (fun b=>Ending.returned (Value.bool b)) (HE.out.trans HF.out)).symm,HB2.out⟩
    ·obtain rfl:m=t.bn:=by omega
     have HF:Hid (iN d.bn t.d.blocks=true):=(oJ _ _).2 (by rw[HLn.out];exact HR.out);clear HR;generalize mF t.d.blocks t.bn=la at *;go_wp2
     go_ret
     exact⟨(congrArg (fun b=>Ending.returned (Value.bool b)) (HE.out.trans HF.out)).symm,HB2.out⟩
end
end Go.Proofs.YtblhmdhfhaencaaGreat
