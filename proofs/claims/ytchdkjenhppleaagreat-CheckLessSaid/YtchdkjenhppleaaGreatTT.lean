/-
 Tile:what must hold of a tile.
-/
import Derived.Test.YtchdkjenhppleaaGreatA0
import Derived.Test.YtchdkjenhppleaaGreatTR
import Derived.Test.YtchdkjenhppleaaGreatInsR
import Derived.Test.YtchdkjenhppleaaGreatTQ
import Derived.Test.YtchdkjenhppleaaGreatKD
namespace Go.Proofs.YtchdkjenhppleaaGreat
set_option linter.unusedSimpArgs false
set_option linter.unusedVariables false
set_option linter.unusedSectionVars false
set_option maxRecDepth 100000
set_option maxHeartbeats 40000000
section
open Go.RowKit Go.Shelf
attribute [local go_sem] Oper.semAt_some iB fS gP fH
theorem LX(l:List Int)(x:Int):decide (0<=idx l x)=l.contains x:=by
 have h:=rF l x
 by_cases hx:x∈l
 .have h2:¬idx l x<0:=λh3=>h.1 h3 hx;simp[hx];omega
 .have h2:=h.2 hx;simp[hx];omega
theorem ll(t:eW)(e:List Nat):xG t e=true->∃x,e= [x]:=by
 match e with
 | []=>simp[xG]
 | [x]=>exact λ_=>⟨x,rfl⟩
 |_ :: _ :: _=>simp[xG]
abbrev UB(t:lI):Value:=.agg #[.int .i64 t.d.kind,.int .i64 t.d.parent,.slice t.ba t.bn t.bc]
theorem YB(d:lX)(ts:List fC)(t:lI)(f:Nat->Bool)(w:World)(hok:lP w d ts)(hg:qC ts=true)(hcf:nI f)(hI:fR w t.ba t.bn t.d.blocks)(hki:I64 t.d.kind)
  (hbs:∀x∈t.d.blocks,0<=x/\x<d.bn) (hf:∀b l,iR f=b :: l->b<d.bn):
  Calls Tryz.prog 166 #[gX d,UB t,.agg (eV f)] w λe w'=>e=.returned (.bool (iN ts t.d f))/\Below w.heap.size w w':=by
 have HOK:=ac hok
 have HG:=ac hg
 have HCF:=ac hcf
 have HI:=ac hI
 have HBS:=ac hbs
 have HF:=ac hf
 obtain⟨hk1,hk2⟩:=hki
 clear hok hg hcf hI hbs hf
 go_enter Tryz.func166,Tryz.ntmps166
 go_upto_region 1 with (fail)
 obtain⟨W,hW⟩:∃W,W=((w.alloc (oD d)).alloc (AX t)).alloc (jZ f):=⟨_,rfl⟩
 rw[<-hW]
 have hk:W.heap[w.heap.size]? =some (oD d):=by rw[hW,aJ _ _ _ (by simp;omega),aJ _ _ _ (by simp)];exact ai _ _
 have ht:W.heap[w.heap.size+1]? =some (AX t):=by rw[hW,aJ _ _ _ (by simp)];exact fM _ _ _ (by simp)
 have hs:W.heap[w.heap.size+1+1]? =some (jZ f):=by rw[hW,fM _ _ _ (by simp)]
 have hB:Below w.heap.size w W:=by rw[hW];exact((eD _ _).alloc (by simp) _).alloc (by simp;omega) _
 have HK:=ac hk
 have HT:=ac ht
 have HS:=ac hs
 have HB:=ac hB
 clear hW hk ht hs hB
 go_upto_region 2 with (first
  |(refine ay (o:=⟨some 9,.load 201 _,_,_,_,_⟩) rfl 201 _ rfl w.heap.size rfl 201 _ (0,0) _ HK.out aS rfl eX ?_)
  |(refine ay (o:=⟨some 10,.load 227 _,_,_,_,_⟩) rfl 227 _ rfl (w.heap.size+1+1) rfl 227 _ (0,0) _ HS.out bg rfl (by rw[fA];exact fD) ?_)
  |(go_at_call 171
    refine(QE d ts f W (HOK.out.ext HB.out) HG.out).mono ?_;rintro e w2 ⟨ev,rfl,ho,hb⟩;obtain⟨ea,ec,rfl⟩:=ho.form;have HE:=ac ho.ints;have HK2:=ac (eB hb HK.out);have HT2:=ac (eB hb HT.out);have HS2:=ac (eB hb HS.out);have HB2:=ac (eA HB.out hb);have hec:=ho.cap;have hel:(eR (fF ts f)).length=(fF ts f).length:=(by simp[eR])
    rw[hel] at hec HE|-
    clear ho hb hel))
 have hel2:(fF ts f).length<=200:=bP (bY _ _) (JC f)
 clear HK HT HS HB
 go_cut [8] (λs8 wr=>s8=.bool (xG t.d (fF ts f))/\Hid (wr.heap[w.heap.size]? =some (oD d))/\Hid (wr.heap[w.heap.size+1]? =some (AX t))/\Hid (wr.heap[w.heap.size+1+1]? =some (jZ f))/\Hid (fR wr ea (fF ts f).length (eR (fF ts f)))/\Hid (Below w.heap.size w wr))
 case first=>
  have kB:∀n:eH w2,n.val.cell? ⟨w.heap.size+1,2,none⟩=some (.slice t.ba t.bn t.bc):=λn=>eN n.ext (cR HT2.out rfl);by_cases h1:(fF ts f).length=1
  .obtain⟨x,hx⟩:∃x,fF ts f= [x]:=by
    match h:fF ts f with
    | []=>rw[h] at h1;simp at h1
    | [x]=>exact⟨x,rfl⟩
    |_ :: _ :: _=>rw[h] at h1;simp at h1
   obtain⟨b,o,rfl,hc,_⟩:=HE.out.2.2 0 (by omega);have hx0:(eR (fF ts f)).getD 0 0=(x:Int):=by rw[hx];rfl
   rw[hx0] at hc;have kE:∀n:eH w2,n.val.cell? ⟨b,o,none⟩=some (.int .i64 (x:Int)):=λn=>eN n.ext hc;have HO:Hid (xG t.d (fF ts f)=decide (0<=idx t.d.blocks (x:Int))):=by
    rw[hx,Hid,LX];simp[xG]
   have heq:((((fF ts f).length:Nat):Int)==1)=true:=by simp[h1]
   have hlt:0<(fF ts f).length:=by omega
   clear hx hx0 hc h1;refine lE (by kernel_rfl) (by kernel_rfl) ?_
   repeat (go_big_quiet_step (first
    |(go_at_call 87;exact FU (mV t.ba t.bn t.bc t.d.blocks _ _ (HI.out.ext (eA HB2.out (eH.ext _)))))))
   refine ar ?_;intro _ hw';obtain⟨n,rfl⟩:=hw';go_wp2
   go_meet
   exact⟨by rw[HO.out],eB n.ext HK2.out,eB n.ext HT2.out,eB n.ext HS2.out,HE.out.ext n.ext,eA HB2.out n.ext⟩
  .have hne:((((fF ts f).length:Nat):Int)==1)=false:=by simp;omega
   have HO:Hid (xG t.d (fF ts f)=false):=by
    rw[Hid];simp[xG,h1]
   refine lE (by kernel_rfl) (by kernel_rfl) ?_
   repeat (go_big_quiet_step (fail))
   refine ar ?_;intro _ hw';obtain⟨n,rfl⟩:=hw';go_wp2
   go_meet
   exact⟨by rw[HO.out],eB n.ext HK2.out,eB n.ext HT2.out,eB n.ext HS2.out,HE.out.ext n.ext,eA HB2.out n.ext⟩
 case rest=>
  obtain⟨rfl,HW,HT,HS,HE2,HB⟩:=hcut;have hkc:=cK 0 HT.out rfl;clear HE HK2 HT2 HS2 HB2;by_cases h3:t.d.kind=3
  .have e3:(t.d.kind==3)=true:=by simp[h3]
   have HR:Hid (iN ts t.d f=(decide (1<(fF ts f).length)&&iS ts f)):=by simp[Hid,iN,h3]
   clear h3;by_cases hl:1<(fF ts f).length
   .have d1:decide ((1:Int)<((fF ts f).length:Int))=true:=by simp;omega
    have d2:decide (1<(fF ts f).length)=true:=by simpa using hl
    rw[d2,cJ] at HR
    go_wp2_with (first
     |(refine sK (o:=⟨some 37,.load 201 _,_,_,_,_⟩) (by rfl) 201 _ rfl w.heap.size rfl 201 _ (0,0) _ HW.out aS rfl eX ?_)
     |(refine sK (o:=⟨some 38,.load 227 _,_,_,_,_⟩) (by rfl) 227 _ rfl (w.heap.size+1+1) rfl 227 _ (0,0) _ HS.out bg rfl (by rw[fA];exact fD) ?_)
     |(go_at_call 172
       refine(yP d ts f wc (HOK.out.ext HB.out) HG.out HCF.out HF.out).mono ?_;rintro e w3 ⟨rfl,hb3⟩;have HB3:=ac (eA HB.out hb3)
       clear hb3))
    go_ret
    exact⟨(aL (λb=>Ending.returned (Value.bool b)) HR.out).symm,HB3.out⟩
   .have d1:decide ((1:Int)<((fF ts f).length:Int))=false:=by simp;omega
    have d2:decide (1<(fF ts f).length)=false:=by simpa using hl
    rw[d2,dL] at HR;go_wp2
    go_ret
    exact⟨(aL (λb=>Ending.returned (Value.bool b)) HR.out).symm,HB.out⟩
  .have e3:(t.d.kind==3)=false:=by simpa using h3
   by_cases h2:t.d.kind=2
   .have e2:(t.d.kind==2)=true:=by simp[h2]
    have HR:Hid (iN ts t.d f=(xG t.d (fF ts f)&&iS ts f&& !wG ts t.d.blocks (vQ f ((fF ts f).headD 0)))):=by simp[Hid,iN,h2]
    clear h3 h2;cases ho:xG t.d (fF ts f) with
    |false=>
     rw[ho,dL,dL] at HR;clear ho
     go_wp2_with (fail)
     refine lE (by kernel_rfl) (by kernel_rfl) ?_
     repeat (first
      |go_big_quiet_skip
      |(refine eP (o:=⟨some 43,.load 201 _,_,_,_,_⟩) (by rfl) 201 _ rfl w.heap.size rfl 201 #[.slice d.pa d.pn d.pc,.slice d.ba d.bn d.bc,.slice d.ta d.bn d.tc,.slice d.fa d.bn d.fc] (0,0) _ (by rintro _ ⟨n,rfl⟩;exact eB n.ext HW.out) aS rfl eX ?_;simp only[zJ,zG,zH,zI])
      |(refine eP (o:=⟨some 44,.load 227 _,_,_,_,_⟩) (by rfl) 227 _ rfl (w.heap.size+1+1) rfl 227 (eV f) (0,0) _ (by rintro _ ⟨n,rfl⟩;exact eB n.ext HS.out) bg rfl (by rw[fA];exact fD) ?_;simp only[zJ,zG,zH,zI])
      |go_big_quiet_step (fail))
     refine ar ?_;intro _ hw';obtain⟨n,rfl⟩:=hw';go_wp2
     go_ret
     exact⟨(aL (λb=>Ending.returned (Value.bool b)) HR.out).symm,eA HB.out n.ext⟩
    |true=>
     obtain⟨x,hx⟩:=ll _ _ ho;obtain⟨b,o,rfl,hc,_⟩:=HE2.out.2.2 0 (by rw[hx];simp);have hxm:x∈fF ts f:=by rw[hx];simp
     have hx2:x<200:=DW f x (bO.1 hxm).1;clear hxm;rw[ho,cJ,show(fF ts f).headD 0=x by rw[hx];rfl] at HR;have hx0:(eR (fF ts f)).getD 0 0=(x:Int):=by rw[hx];rfl
     rw[hx0] at hc;have kE:∀n:eH wc,n.val.cell? ⟨b,o,none⟩=some (.int .i64 (x:Int)):=λn=>eN n.ext hc;have kB:∀n:eH wc,n.val.cell? ⟨w.heap.size+1,2,none⟩=some (.slice t.ba t.bn t.bc):=λn=>eN n.ext (cR HT.out rfl);have hlt:0<(fF ts f).length:=by rw[hx];simp
     clear ho hx hx0 hc
     have HTG:Hid (∀n:eH wc,Calls Tryz.prog 172 #[gX d,.agg (eV f)] n.val λe w''=>e=.returned (.bool (iS ts f))/\∃m:eH wc,w''=m.val):=
      λn=>oM (yP d ts f _ (HOK.out.ext (eA HB.out n.ext)) HG.out HCF.out HF.out)
     cases htg:iS ts f with
     |false=>
      rw[htg,dL] at HR;rw[htg] at HTG;clear htg
      go_wp2_with (fail)
      refine lE (by kernel_rfl) (by kernel_rfl) ?_
      repeat (first
       |go_big_quiet_skip
       |(refine eP (o:=⟨some 43,.load 201 _,_,_,_,_⟩) (by rfl) 201 _ rfl w.heap.size rfl 201 #[.slice d.pa d.pn d.pc,.slice d.ba d.bn d.bc,.slice d.ta d.bn d.tc,.slice d.fa d.bn d.fc] (0,0) _ (by rintro _ ⟨n,rfl⟩;exact eB n.ext HW.out) aS rfl eX ?_;simp only[zJ,zG,zH,zI])
       |(refine eP (o:=⟨some 44,.load 227 _,_,_,_,_⟩) (by rfl) 227 _ rfl (w.heap.size+1+1) rfl 227 (eV f) (0,0) _ (by rintro _ ⟨n,rfl⟩;exact eB n.ext HS.out) bg rfl (by rw[fA];exact fD) ?_;simp only[zJ,zG,zH,zI])
       |go_big_quiet_step (first
        |(go_at_call 172;exact HTG.out _)))
      refine ar ?_;intro _ hw';obtain⟨n,rfl⟩:=hw';go_wp2
      go_ret
      exact⟨(aL (λb=>Ending.returned (Value.bool b)) HR.out).symm,eA HB.out n.ext⟩
     |true=>
      rw[htg,cJ] at HR;rw[htg] at HTG;clear htg
      go_wp2_with (fail)
      refine lE (by kernel_rfl) (by kernel_rfl) ?_
      repeat (first
       |go_big_quiet_skip
       |(refine eP (o:=⟨some 43,.load 201 _,_,_,_,_⟩) (by rfl) 201 _ rfl w.heap.size rfl 201 #[.slice d.pa d.pn d.pc,.slice d.ba d.bn d.bc,.slice d.ta d.bn d.tc,.slice d.fa d.bn d.fc] (0,0) _ (by rintro _ ⟨n,rfl⟩;exact eB n.ext HW.out) aS rfl eX ?_;simp only[zJ,zG,zH,zI])
       |(refine eP (o:=⟨some 44,.load 227 _,_,_,_,_⟩) (by rfl) 227 _ rfl (w.heap.size+1+1) rfl 227 (eV f) (0,0) _ (by rintro _ ⟨n,rfl⟩;exact eB n.ext HS.out) bg rfl (by rw[fA];exact fD) ?_;simp only[zJ,zG,zH,zI])
       |(refine eP (o:=⟨some 48,.load 201 _,_,_,_,_⟩) (by rfl) 201 _ rfl w.heap.size rfl 201 #[.slice d.pa d.pn d.pc,.slice d.ba d.bn d.bc,.slice d.ta d.bn d.tc,.slice d.fa d.bn d.fc] (0,0) _ (by rintro _ ⟨n,rfl⟩;exact eB n.ext HW.out) aS rfl eX ?_;simp only[zJ,zG,zH,zI])
       |(refine eP (o:=⟨some 51,.load 227 _,_,_,_,_⟩) (by rfl) 227 _ rfl (w.heap.size+1+1) rfl 227 (eV f) (0,0) _ (by rintro _ ⟨n,rfl⟩;exact eB n.ext HS.out) bg rfl (by rw[fA];exact fD) ?_;simp only[zJ,zG,zH,zI])
       |go_big_quiet_step (first
        |(go_at_call 172;exact HTG.out _)
        |(go_at_call 174;exact oM (SV f x hx2 _))
        |(go_at_call 173;exact oM (AG d ts (vQ f x) t.ba t.bn t.bc t.d.blocks _ (HI.out.ext (eA HB.out (eH.ext _))) HBS.out (HOK.out.ext (eA HB.out (eH.ext _))) HG.out (SU HCF.out x)))))
      refine ar ?_;intro _ hw';obtain⟨n,rfl⟩:=hw';go_wp2
      go_ret
      exact⟨(aL (λb=>Ending.returned (Value.bool b)) HR.out).symm,eA HB.out n.ext⟩
   .have e2:(t.d.kind==2)=false:=by simpa using h2
    by_cases h4:t.d.kind=4
    .have e4:(t.d.kind==4)=true:=by simp[h4]
     have HR:Hid (iN ts t.d f=(xG t.d (fF ts f)&& !wG ts t.d.blocks f)):=by simp[Hid,iN,h4]
     clear h3 h2 h4;cases ho:xG t.d (fF ts f) with
     |true=>
      rw[ho,cJ] at HR;clear ho;have hc2:=cK 2 HT.out rfl
      go_wp2_with (first
       |(refine ay (o:=⟨some 61,.load 201 _,_,_,_,_⟩) rfl 201 _ rfl w.heap.size rfl 201 _ (0,0) _ HW.out aS rfl eX ?_)
       |(refine ay (o:=⟨some 64,.load 227 _,_,_,_,_⟩) rfl 227 _ rfl (w.heap.size+1+1) rfl 227 _ (0,0) _ HS.out bg rfl (by rw[fA];exact fD) ?_)
       |(go_at_call 173
         refine(AG d ts f t.ba t.bn t.bc t.d.blocks wc (HI.out.ext HB.out) HBS.out (HOK.out.ext HB.out) HG.out HCF.out).mono ?_;rintro e w3 ⟨rfl,hb3⟩;have HB3:=ac (eA HB.out hb3)
         clear hb3))
      go_ret
      exact⟨(aL (λb=>Ending.returned (Value.bool b)) HR.out).symm,HB3.out⟩
     |false=>
      rw[ho,dL] at HR;clear ho;go_wp2
      go_ret
      exact⟨(aL (λb=>Ending.returned (Value.bool b)) HR.out).symm,HB.out⟩
    .have e4:(t.d.kind==4)=false:=by simpa using h4
     by_cases h1:t.d.kind=1
     .have e1:(t.d.kind==1)=true:=by simp[h1]
      have HR:Hid (iN ts t.d f= !wG ts t.d.blocks f):=by simp[Hid,iN,h1]
      clear h3 h2 h4 h1;have hc2:=cK 2 HT.out rfl
      go_wp2_with (first
       |(refine ay (o:=⟨some 61,.load 201 _,_,_,_,_⟩) rfl 201 _ rfl w.heap.size rfl 201 _ (0,0) _ HW.out aS rfl eX ?_)
       |(refine ay (o:=⟨some 64,.load 227 _,_,_,_,_⟩) rfl 227 _ rfl (w.heap.size+1+1) rfl 227 _ (0,0) _ HS.out bg rfl (by rw[fA];exact fD) ?_)
       |(go_at_call 173
         refine(AG d ts f t.ba t.bn t.bc t.d.blocks wc (HI.out.ext HB.out) HBS.out (HOK.out.ext HB.out) HG.out HCF.out).mono ?_;rintro e w3 ⟨rfl,hb3⟩;have HB3:=ac (eA HB.out hb3)
         clear hb3))
      go_ret
      exact⟨(aL (λb=>Ending.returned (Value.bool b)) HR.out).symm,HB3.out⟩
     .have e1:(t.d.kind==1)=false:=by simpa using h1
      have HR:Hid (iN ts t.d f=false):=by simp[Hid,iN,h1,h2,h3,h4]
      clear h3 h2 h4 h1;go_wp2
      go_ret
      exact⟨(aL (λb=>Ending.returned (Value.bool b)) HR.out).symm,HB.out⟩
end
end Go.Proofs.YtchdkjenhppleaaGreat
