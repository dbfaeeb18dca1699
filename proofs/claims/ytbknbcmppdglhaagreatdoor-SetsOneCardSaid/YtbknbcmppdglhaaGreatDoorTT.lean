/-
 Tile:what must hold of a tile.
-/
import Derived.Test.YtbknbcmppdglhaaGreatDoorA0
import Derived.Test.YtbknbcmppdglhaaGreatDoorTR
import Derived.Test.YtbknbcmppdglhaaGreatDoorTK
import Derived.Test.YtbknbcmppdglhaaGreatDoorER
namespace Go.Proofs.YtbknbcmppdglhaaGreatDoor
set_option linter.unusedSimpArgs false
set_option linter.unusedVariables false
set_option linter.unusedSectionVars false
set_option maxRecDepth 100000
set_option maxHeartbeats 40000000
section
open Go.RowKit Go.Shelf
attribute [local go_sem] Oper.semAt_some iF gH gS fX
theorem SS(l:List Int)(x:Int):decide (0<=idx l x)=l.contains x:=by
 have h:=vJ l x
 by_cases hx:x∈l
 .have h2:¬idx l x<0:=λh3=>h.1 h3 hx;simp[hx];omega
 .have h2:=h.2 hx;simp[hx];omega
theorem zy(t:fT)(e:List Nat):AX t e=true->∃x,e= [x]:=by
 match e with
 | []=>simp[AX]
 | [x]=>exact λ_=>⟨x,rfl⟩
 |_ :: _ :: _=>simp[AX]
abbrev j9(t:iN):Value:=.agg #[.int .i64 t.d.kind,.int .i64 t.d.parent,.slice t.ba t.bn t.bc]
theorem qj(d:lJ)(ts:List fS)(t:iN)(f:Nat->Bool)(w:World)(hok:mQ w d ts)(hg:tH ts=true)(hcf:iV f)(hI:iJ w t.ba t.bn t.d.blocks)(hki:I64 t.d.kind)
  (hbs:∀x∈t.d.blocks,0<=x/\x<d.bn) (hf:∀b l,gQ f=b :: l->b<d.bn):
  Calls Tryz.prog 69 #[jJ d,j9 t,.agg (gK f)] w λe w'=>e=.returned (.bool (kQ ts t.d f))/\Below w.heap.size w w':=by
 have HOK:=ac hok
 have HG:=ac hg
 have HCF:=ac hcf
 have HI:=ac hI
 have HBS:=ac hbs
 have HF:=ac hf
 obtain⟨hk1,hk2⟩:=hki
 clear hok hg hcf hI hbs hf
 go_enter Tryz.func69,Tryz.ntmps69
 go_upto_region 1 with (fail)
 obtain⟨W,hW⟩:∃W,W=((w.alloc (qM d)).alloc (FP t)).alloc (jY f):=⟨_,rfl⟩
 rw[<-hW]
 have hk:W.heap[w.heap.size]? =some (qM d):=by rw[hW,aG _ _ _ (by simp;omega),aG _ _ _ (by simp)];exact ae _ _
 have ht:W.heap[w.heap.size+1]? =some (FP t):=by rw[hW,aG _ _ _ (by simp)];exact iT _ _ _ (by simp)
 have hs:W.heap[w.heap.size+1+1]? =some (jY f):=by rw[hW,iT _ _ _ (by simp)]
 have hB:Below w.heap.size w W:=by rw[hW];exact((fD _ _).alloc (by simp) _).alloc (by simp;omega) _
 have HK:=ac hk
 have HT:=ac ht
 have HS:=ac hs
 have HB:=ac hB
 clear hW hk ht hs hB
 go_upto_region 2 with (first
  |(refine ay (o:=⟨some 9,.load 129 _,_,_,_,_⟩) rfl 129 _ rfl w.heap.size rfl 129 _ (0,0) _ HK.out aY rfl gG ?_)
  |(refine ay (o:=⟨some 10,.load 138 _,_,_,_,_⟩) rfl 138 _ rfl (w.heap.size+1+1) rfl 138 _ (0,0) _ HS.out aL rfl (by rw[fO];exact gF) ?_)
  |(go_at_call 150
    refine(GS d ts f W (HOK.out.ext HB.out) HG.out).mono ?_;rintro e w2 ⟨ev,rfl,ho,hb⟩;obtain⟨ea,ec,rfl⟩:=ho.form;have HE:=ac ho.ints;have HK2:=ac (fB hb HK.out);have HT2:=ac (fB hb HT.out);have HS2:=ac (fB hb HS.out);have HB2:=ac (fC HB.out hb);have hec:=ho.cap;have hel:(fN (fV ts f)).length=(fV ts f).length:=(by simp[fN])
    rw[hel] at hec HE|-
    clear ho hb hel))
 have hel2:(fV ts f).length<=200:=aT (bX _ _) (EY f)
 clear HK HT HS HB
 go_cut [8] (λs8 wr=>s8=.bool (AX t.d (fV ts f))/\Hid (wr.heap[w.heap.size]? =some (qM d))/\Hid (wr.heap[w.heap.size+1]? =some (FP t))/\Hid (wr.heap[w.heap.size+1+1]? =some (jY f))/\Hid (iJ wr ea (fV ts f).length (fN (fV ts f)))/\Hid (Below w.heap.size w wr))
 case first=>
  have kB:∀n:fL w2,n.val.cell? ⟨w.heap.size+1,2,none⟩=some (.slice t.ba t.bn t.bc):=λn=>fZ n.ext (cR HT2.out rfl);by_cases h1:(fV ts f).length=1
  .obtain⟨x,hx⟩:∃x,fV ts f= [x]:=by
    match h:fV ts f with
    | []=>rw[h] at h1;simp at h1
    | [x]=>exact⟨x,rfl⟩
    |_ :: _ :: _=>rw[h] at h1;simp at h1
   obtain⟨b,o,rfl,hc,_⟩:=HE.out.2.2 0 (by omega);have hx0:(fN (fV ts f)).getD 0 0=(x:Int):=by rw[hx];rfl
   rw[hx0] at hc;have kE:∀n:fL w2,n.val.cell? ⟨b,o,none⟩=some (.int .i64 (x:Int)):=λn=>fZ n.ext hc;have HO:Hid (AX t.d (fV ts f)=decide (0<=idx t.d.blocks (x:Int))):=by
    rw[hx,Hid,SS];simp[AX]
   have heq:((((fV ts f).length:Nat):Int)==1)=true:=by simp[h1]
   have hlt:0<(fV ts f).length:=by omega
   clear hx hx0 hc h1;refine jH (by kernel_rfl) (by kernel_rfl) ?_
   repeat (go_big_quiet_step (first
    |(go_at_call 161;exact MM (qB t.ba t.bn t.bc t.d.blocks _ _ (HI.out.ext (fC HB2.out (fL.ext _)))))))
   refine aq ?_;intro _ hw';obtain⟨n,rfl⟩:=hw';go_wp2
   go_meet
   exact⟨by rw[HO.out],fB n.ext HK2.out,fB n.ext HT2.out,fB n.ext HS2.out,HE.out.ext n.ext,fC HB2.out n.ext⟩
  .have hne:((((fV ts f).length:Nat):Int)==1)=false:=by simp;omega
   have HO:Hid (AX t.d (fV ts f)=false):=by
    rw[Hid];simp[AX,h1]
   refine jH (by kernel_rfl) (by kernel_rfl) ?_
   repeat (go_big_quiet_step (fail))
   refine aq ?_;intro _ hw';obtain⟨n,rfl⟩:=hw';go_wp2
   go_meet
   exact⟨by rw[HO.out],fB n.ext HK2.out,fB n.ext HT2.out,fB n.ext HS2.out,HE.out.ext n.ext,fC HB2.out n.ext⟩
 case rest=>
  obtain⟨rfl,HW,HT,HS,HE2,HB⟩:=hcut;have hkc:=cK 0 HT.out rfl;clear HE HK2 HT2 HS2 HB2;by_cases h3:t.d.kind=3
  .have e3:(t.d.kind==3)=true:=by simp[h3]
   have HR:Hid (kQ ts t.d f=(decide (1<(fV ts f).length)&&kU ts f)):=by simp[Hid,kQ,h3]
   clear h3;by_cases hl:1<(fV ts f).length
   .have d1:decide ((1:Int)<((fV ts f).length:Int))=true:=by simp;omega
    have d2:decide (1<(fV ts f).length)=true:=by simpa using hl
    rw[d2,dg] at HR
    go_wp2_with (first
     |(refine nY (o:=⟨some 37,.load 129 _,_,_,_,_⟩) (by rfl) 129 _ rfl w.heap.size rfl 129 _ (0,0) _ HW.out aY rfl gG ?_)
     |(refine nY (o:=⟨some 38,.load 138 _,_,_,_,_⟩) (by rfl) 138 _ rfl (w.heap.size+1+1) rfl 138 _ (0,0) _ HS.out aL rfl (by rw[fO];exact gF) ?_)
     |(go_at_call 162
       refine(DS d ts f wc (HOK.out.ext HB.out) HG.out HCF.out HF.out).mono ?_;rintro e w3 ⟨rfl,hb3⟩;have HB3:=ac (fC HB.out hb3)
       clear hb3))
    go_ret
    exact⟨(bh (λb=>Ending.returned (Value.bool b)) HR.out).symm,HB3.out⟩
   .have d1:decide ((1:Int)<((fV ts f).length:Int))=false:=by simp;omega
    have d2:decide (1<(fV ts f).length)=false:=by simpa using hl
    rw[d2,dZ] at HR;go_wp2
    go_ret
    exact⟨(bh (λb=>Ending.returned (Value.bool b)) HR.out).symm,HB.out⟩
  .have e3:(t.d.kind==3)=false:=by simpa using h3
   by_cases h2:t.d.kind=2
   .have e2:(t.d.kind==2)=true:=by simp[h2]
    have HR:Hid (kQ ts t.d f=(AX t.d (fV ts f)&&kU ts f&& !wX ts t.d.blocks (iU f ((fV ts f).headD 0)))):=by simp[Hid,kQ,h2]
    clear h3 h2;cases ho:AX t.d (fV ts f) with
    |false=>
     rw[ho,dZ,dZ] at HR;clear ho
     go_wp2_with (fail)
     refine jH (by kernel_rfl) (by kernel_rfl) ?_
     repeat (first
      |go_big_quiet_skip
      |(refine fW (o:=⟨some 43,.load 129 _,_,_,_,_⟩) (by rfl) 129 _ rfl w.heap.size rfl 129 #[.slice d.pa d.pn d.pc,.slice d.ba d.bn d.bc,.slice d.ta d.bn d.tc,.slice d.fa d.bn d.fc] (0,0) _ (by rintro _ ⟨n,rfl⟩;exact fB n.ext HW.out) aY rfl gG ?_;simp only[zJ,zG,zH,zI])
      |(refine fW (o:=⟨some 44,.load 138 _,_,_,_,_⟩) (by rfl) 138 _ rfl (w.heap.size+1+1) rfl 138 (gK f) (0,0) _ (by rintro _ ⟨n,rfl⟩;exact fB n.ext HS.out) aL rfl (by rw[fO];exact gF) ?_;simp only[zJ,zG,zH,zI])
      |go_big_quiet_step (fail))
     refine aq ?_;intro _ hw';obtain⟨n,rfl⟩:=hw';go_wp2
     go_ret
     exact⟨(bh (λb=>Ending.returned (Value.bool b)) HR.out).symm,fC HB.out n.ext⟩
    |true=>
     obtain⟨x,hx⟩:=zy _ _ ho;obtain⟨b,o,rfl,hc,_⟩:=HE2.out.2.2 0 (by rw[hx];simp);have hxm:x∈fV ts f:=by rw[hx];simp
     have hx2:x<200:=uF f x (bI.1 hxm).1;clear hxm;rw[ho,dg,show(fV ts f).headD 0=x by rw[hx];rfl] at HR;have hx0:(fN (fV ts f)).getD 0 0=(x:Int):=by rw[hx];rfl
     rw[hx0] at hc;have kE:∀n:fL wc,n.val.cell? ⟨b,o,none⟩=some (.int .i64 (x:Int)):=λn=>fZ n.ext hc;have kB:∀n:fL wc,n.val.cell? ⟨w.heap.size+1,2,none⟩=some (.slice t.ba t.bn t.bc):=λn=>fZ n.ext (cR HT.out rfl);have hlt:0<(fV ts f).length:=by rw[hx];simp
     clear ho hx hx0 hc
     have HTG:Hid (∀n:fL wc,Calls Tryz.prog 162 #[jJ d,.agg (gK f)] n.val λe w''=>e=.returned (.bool (kU ts f))/\∃m:fL wc,w''=m.val):=
      λn=>oL (DS d ts f _ (HOK.out.ext (fC HB.out n.ext)) HG.out HCF.out HF.out)
     cases htg:kU ts f with
     |false=>
      rw[htg,dZ] at HR;rw[htg] at HTG;clear htg
      go_wp2_with (fail)
      refine jH (by kernel_rfl) (by kernel_rfl) ?_
      repeat (first
       |go_big_quiet_skip
       |(refine fW (o:=⟨some 43,.load 129 _,_,_,_,_⟩) (by rfl) 129 _ rfl w.heap.size rfl 129 #[.slice d.pa d.pn d.pc,.slice d.ba d.bn d.bc,.slice d.ta d.bn d.tc,.slice d.fa d.bn d.fc] (0,0) _ (by rintro _ ⟨n,rfl⟩;exact fB n.ext HW.out) aY rfl gG ?_;simp only[zJ,zG,zH,zI])
       |(refine fW (o:=⟨some 44,.load 138 _,_,_,_,_⟩) (by rfl) 138 _ rfl (w.heap.size+1+1) rfl 138 (gK f) (0,0) _ (by rintro _ ⟨n,rfl⟩;exact fB n.ext HS.out) aL rfl (by rw[fO];exact gF) ?_;simp only[zJ,zG,zH,zI])
       |go_big_quiet_step (first
        |(go_at_call 162;exact HTG.out _)))
      refine aq ?_;intro _ hw';obtain⟨n,rfl⟩:=hw';go_wp2
      go_ret
      exact⟨(bh (λb=>Ending.returned (Value.bool b)) HR.out).symm,fC HB.out n.ext⟩
     |true=>
      rw[htg,dg] at HR;rw[htg] at HTG;clear htg
      go_wp2_with (fail)
      refine jH (by kernel_rfl) (by kernel_rfl) ?_
      repeat (first
       |go_big_quiet_skip
       |(refine fW (o:=⟨some 43,.load 129 _,_,_,_,_⟩) (by rfl) 129 _ rfl w.heap.size rfl 129 #[.slice d.pa d.pn d.pc,.slice d.ba d.bn d.bc,.slice d.ta d.bn d.tc,.slice d.fa d.bn d.fc] (0,0) _ (by rintro _ ⟨n,rfl⟩;exact fB n.ext HW.out) aY rfl gG ?_;simp only[zJ,zG,zH,zI])
       |(refine fW (o:=⟨some 44,.load 138 _,_,_,_,_⟩) (by rfl) 138 _ rfl (w.heap.size+1+1) rfl 138 (gK f) (0,0) _ (by rintro _ ⟨n,rfl⟩;exact fB n.ext HS.out) aL rfl (by rw[fO];exact gF) ?_;simp only[zJ,zG,zH,zI])
       |(refine fW (o:=⟨some 48,.load 129 _,_,_,_,_⟩) (by rfl) 129 _ rfl w.heap.size rfl 129 #[.slice d.pa d.pn d.pc,.slice d.ba d.bn d.bc,.slice d.ta d.bn d.tc,.slice d.fa d.bn d.fc] (0,0) _ (by rintro _ ⟨n,rfl⟩;exact fB n.ext HW.out) aY rfl gG ?_;simp only[zJ,zG,zH,zI])
       |(refine fW (o:=⟨some 51,.load 138 _,_,_,_,_⟩) (by rfl) 138 _ rfl (w.heap.size+1+1) rfl 138 (gK f) (0,0) _ (by rintro _ ⟨n,rfl⟩;exact fB n.ext HS.out) aL rfl (by rw[fO];exact gF) ?_;simp only[zJ,zG,zH,zI])
       |go_big_quiet_step (first
        |(go_at_call 162;exact HTG.out _)
        |(go_at_call 151;exact oL (KF f x hx2 _))
        |(go_at_call 163;exact oL (ER d ts (iU f x) t.ba t.bn t.bc t.d.blocks _ (HI.out.ext (fC HB.out (fL.ext _))) HBS.out (HOK.out.ext (fC HB.out (fL.ext _))) HG.out (uJ HCF.out x)))))
      refine aq ?_;intro _ hw';obtain⟨n,rfl⟩:=hw';go_wp2
      go_ret
      exact⟨(bh (λb=>Ending.returned (Value.bool b)) HR.out).symm,fC HB.out n.ext⟩
   .have e2:(t.d.kind==2)=false:=by simpa using h2
    by_cases h4:t.d.kind=4
    .have e4:(t.d.kind==4)=true:=by simp[h4]
     have HR:Hid (kQ ts t.d f=(AX t.d (fV ts f)&& !wX ts t.d.blocks f)):=by simp[Hid,kQ,h4]
     clear h3 h2 h4;cases ho:AX t.d (fV ts f) with
     |true=>
      rw[ho,dg] at HR;clear ho;have hc2:=cK 2 HT.out rfl
      go_wp2_with (first
       |(refine ay (o:=⟨some 61,.load 129 _,_,_,_,_⟩) rfl 129 _ rfl w.heap.size rfl 129 _ (0,0) _ HW.out aY rfl gG ?_)
       |(refine ay (o:=⟨some 64,.load 138 _,_,_,_,_⟩) rfl 138 _ rfl (w.heap.size+1+1) rfl 138 _ (0,0) _ HS.out aL rfl (by rw[fO];exact gF) ?_)
       |(go_at_call 163
         refine(ER d ts f t.ba t.bn t.bc t.d.blocks wc (HI.out.ext HB.out) HBS.out (HOK.out.ext HB.out) HG.out HCF.out).mono ?_;rintro e w3 ⟨rfl,hb3⟩;have HB3:=ac (fC HB.out hb3)
         clear hb3))
      go_ret
      exact⟨(bh (λb=>Ending.returned (Value.bool b)) HR.out).symm,HB3.out⟩
     |false=>
      rw[ho,dZ] at HR;clear ho;go_wp2
      go_ret
      exact⟨(bh (λb=>Ending.returned (Value.bool b)) HR.out).symm,HB.out⟩
    .have e4:(t.d.kind==4)=false:=by simpa using h4
     by_cases h1:t.d.kind=1
     .have e1:(t.d.kind==1)=true:=by simp[h1]
      have HR:Hid (kQ ts t.d f= !wX ts t.d.blocks f):=by simp[Hid,kQ,h1]
      clear h3 h2 h4 h1;have hc2:=cK 2 HT.out rfl
      go_wp2_with (first
       |(refine ay (o:=⟨some 61,.load 129 _,_,_,_,_⟩) rfl 129 _ rfl w.heap.size rfl 129 _ (0,0) _ HW.out aY rfl gG ?_)
       |(refine ay (o:=⟨some 64,.load 138 _,_,_,_,_⟩) rfl 138 _ rfl (w.heap.size+1+1) rfl 138 _ (0,0) _ HS.out aL rfl (by rw[fO];exact gF) ?_)
       |(go_at_call 163
         refine(ER d ts f t.ba t.bn t.bc t.d.blocks wc (HI.out.ext HB.out) HBS.out (HOK.out.ext HB.out) HG.out HCF.out).mono ?_;rintro e w3 ⟨rfl,hb3⟩;have HB3:=ac (fC HB.out hb3)
         clear hb3))
      go_ret
      exact⟨(bh (λb=>Ending.returned (Value.bool b)) HR.out).symm,HB3.out⟩
     .have e1:(t.d.kind==1)=false:=by simpa using h1
      have HR:Hid (kQ ts t.d f=false):=by simp[Hid,kQ,h1,h2,h3,h4]
      clear h3 h2 h4 h1;go_wp2
      go_ret
      exact⟨(bh (λb=>Ending.returned (Value.bool b)) HR.out).symm,HB.out⟩
end
end Go.Proofs.YtbknbcmppdglhaaGreatDoor
