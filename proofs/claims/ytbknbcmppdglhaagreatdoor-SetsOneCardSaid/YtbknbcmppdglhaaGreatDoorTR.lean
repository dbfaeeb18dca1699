/-
 Tile:Fits,Own,Entries.
-/
import Derived.Test.YtbknbcmppdglhaaGreatDoorA0
import Derived.Test.YtbknbcmppdglhaaGreatDoorTI
import Derived.Test.YtbknbcmppdglhaaGreatDoorTJ
import Derived.Test.YtbknbcmppdglhaaGreatDoorTK
namespace Go.Proofs.YtbknbcmppdglhaaGreatDoor
set_option linter.unusedSimpArgs false
set_option linter.unusedVariables false
set_option linter.unusedSectionVars false
set_option maxRecDepth 100000
set_option maxHeartbeats 40000000
section
open Go.RowKit Go.Shelf
attribute [local go_sem] Oper.semAt_some iF gH gS fX
abbrev TT:Obj:=.cells #[tB,tB,tB,tB] 129
theorem EO(pa:Option Addr)(pn pc:Nat)(ba:Option Addr)(bn bc:Nat)(bs:List nA)(w:World)(h:lZ w ba bn bs):
  Calls Tryz.prog 266 #[mB pa pn pc ba bn bc] w λe w'=>e=.returned (.bool (jK (fY bs)))/\Below w.heap.size w w':=by
 have H:=ac h
 clear h
 go_enter Tryz.func266,Tryz.ntmps266
 go_upto_region 1 with (fail)
 obtain⟨W,hW⟩:∃W,W=w.alloc (gX pa pn pc ba bn bc):=⟨_,rfl⟩
 rw[<-hW]
 have hk0:W.heap[w.heap.size]? =some (gX pa pn pc ba bn bc):=by rw[hW];exact ae _ _
 have hB:Below w.heap.size w W:=by rw[hW];exact fD _ _
 have HK:=ac hk0
 have HB:=ac hB
 clear hW hk0 hB
 go_wp2_with (first
  |(refine ay (o:=⟨some 6,.load 25 _,_,_,_,_⟩) rfl 25 _ rfl w.heap.size rfl 25 _ (0,0) _ HK.out aJ rfl gE ?_)
  |(go_at_call 54
    refine(uD pa pn pc ba bn bc bs W (H.out.ext HB.out)).mono ?_;rintro e w2 ⟨cs,rfl,hcs,hall,hb,hokk⟩;have HB2:=ac (fC HB.out hb);have HCS:=ac hcs;have HALL:=ac hall
    clear hb hokk hcs hall)
  |(refine aP rfl 129 _ _ rfl w2.heap.size cs rfl rfl 129 _ (ae w2 TT) (by rw[HCS.out];exact gG) (by rw[HCS.out];rfl) HALL.out ?_))
 go_ret
 exact⟨rfl,aX (HB2.out.alloc HB2.out.size _) HB2.out.size _⟩
def yu(ts:List fS)(l:List fT)(n:Nat)(w:World)(e:Ending)(w':World):Prop:=
 ∃v en,e=.returned (.tuple #[v,.int .i64 en])/\Below w.heap.size w w'/\(jK ts=false->v=tB/\en=2)/\(jK ts=true->uN l n=false->v=tB/\en=12)/\
  (jK ts=true->uN l n=true->en=0/\∃g c,v=.slice (some ⟨g,0,none⟩) n c/\gD w' w.heap.size v (yJ l n))
theorem wR{ts:List fS}(h:jK ts=true):tH ts=true:=by simp only[jK,aB] at h;exact h.1
theorem tu(pa:Option Addr)(pn pc:Nat)(ba:Option Addr)(bn bc:Nat)(bs:List nA)(a:Option Addr)(n c:Nat)(ls:List iN)(w:World)(h:lZ w ba bn bs)(ht:iY w a n ls):
  Calls Tryz.prog 267 #[mB pa pn pc ba bn bc,.slice a n c] w (yu (fY bs) (fI ls) bn w):=by
 have H:=ac h
 have HT:=ac ht
 clear h ht
 go_enter Tryz.func267,Tryz.ntmps267
 go_upto_region 1 with (fail)
 obtain⟨W,hW⟩:∃W,W=w.alloc (gX pa pn pc ba bn bc):=⟨_,rfl⟩
 rw[<-hW]
 have hk0:W.heap[w.heap.size]? =some (gX pa pn pc ba bn bc):=by rw[hW];exact ae _ _
 have hB:Below w.heap.size w W:=by rw[hW];exact fD _ _
 have HK:=ac hk0
 have HB:=ac hB
 clear hW hk0 hB
 cases hf:jK (fY bs) with
 |false=>
  have HF:=ac hf;clear hf
  go_wp2_with (first
   |(refine ay (o:=⟨some 10,.load 25 _,_,_,_,_⟩) rfl 25 _ rfl w.heap.size rfl 25 _ (0,0) _ HK.out aJ rfl gE ?_)
   |(go_at_call 54
     refine(uD pa pn pc ba bn bc bs W (H.out.ext HB.out)).mono ?_;rintro e w2 ⟨cs,rfl,hcs,hall,hb,hokk⟩;rw[HF.out];have HB2:=ac (fC HB.out hb);have HCS:=ac hcs;have HALL:=ac hall
     clear hb hokk hcs hall)
   |(refine aP rfl 129 _ _ rfl w2.heap.size cs rfl rfl 129 _ (ae w2 TT) (by rw[HCS.out];exact gG) (by rw[HCS.out];rfl) HALL.out ?_))
  exact aR (v:=.tuple #[tB,.int .i64 2]) (by simp[results,Tryz.results267,go_sem,Act.put]) rfl ⟨_,_,rfl,aX (HB2.out.alloc HB2.out.size _) HB2.out.size _,λ_=>⟨rfl,rfl⟩,(λh=>by rw[HF.out] at h;cases h),(λh=>by rw[HF.out] at h;cases h)⟩
 |true=>
  have HF:=ac hf;have hgood:=(lO _).1 (wR hf);have hbn:(fY bs).length=bn:=by rw[lA];exact H.out.1.1
  have hbn1:1<=bn:=by rw[<-hbn];exact hgood.1.1
  have hbn2:bn<=200:=by rw[<-hbn];exact hgood.1.2
  clear hf hgood hbn
  go_upto_region 4 with (first
   |(refine ay (o:=⟨some 10,.load 25 _,_,_,_,_⟩) rfl 25 _ rfl w.heap.size rfl 25 _ (0,0) _ HK.out aJ rfl gE ?_)
   |(go_at_call 54
     refine(uD pa pn pc ba bn bc bs W (H.out.ext HB.out)).mono ?_;rintro e w2 ⟨cs,rfl,hcs,hall,hb,hokk⟩;rw[HF.out];obtain⟨ta,tc,fa,fc,hcv,hwk⟩:=hokk HF.out;injection hcv with hcv;subst hcv;have HB2:=ac (fC HB.out hb);have HWK:=ac hwk
     clear hb hokk hcs hall hwk)
   |(refine aP rfl 129 _ _ rfl w2.heap.size #[.slice pa pn pc,.slice ba bn bc,.slice ta bn tc,.slice fa bn fc] rfl rfl 129 _ (ae w2 TT) gG rfl rfl ?_))
  obtain⟨W3,hW3⟩:∃W3,W3=w2.alloc (qM ⟨pa,pn,pc,ba,bn,bc,ta,tc,fa,fc⟩):=⟨_,rfl⟩
  rw[<-hW3];have hw3:W3.heap[w2.heap.size]? =some (qM ⟨pa,pn,pc,ba,bn,bc,ta,tc,fa,fc⟩):=by rw[hW3];exact ae _ _
  have HW3:=ac hw3;have HB3':Below w2.heap.size w2 W3:=by rw[hW3];exact fD _ _
  have HB3:=ac (fC HB2.out HB3');have HWK3:=ac (HWK.out.ext HB3');clear hW3 hw3 HB3' HWK HB2
  go_upto_region 5 with (first
   |(refine ay (o:=⟨some 16,.load 129 _,_,_,_,_⟩) rfl 129 _ rfl w2.heap.size rfl 129 _ (0,0) _ HW3.out aY rfl gG ?_)
   |(go_at_call 67
     refine(lk ⟨pa,pn,pc,ba,bn,bc,ta,tc,fa,fc⟩ hbn1 hbn2 a n c ls W3 (HT.out.ext HB3.out)).mono ?_;rintro e w4 ⟨v,rfl,hb4,ho1,ho2⟩;have HB4:=ac (fC HB3.out hb4);have HO1:=ac ho1;have HO2:=ac ho2;have hsz:=HB3.out.size
     clear hb4 ho1 ho2))
  cases hob:uN (fI ls) bn with
  |false=>
   have hv:v=tB:=HO2.out hob;subst hv;have HOB:=ac hob;clear hob HO1 HO2;have hq:=λw n c n' c'=>dX (P:=Tryz.prog) w 22 3 none n c n' c' be;go_wp2;exact aR (v:=.tuple #[tB,.int .i64 12]) (by simp[results,Tryz.results267,go_sem,Act.put]) rfl ⟨_,_,rfl,HB4.out,(λh=>by rw[HF.out] at h;cases h),λ_ _=>⟨rfl,rfl⟩,(λ_ h=>by rw[HOB.out] at h;cases h)⟩
  |true=>
   obtain⟨g,cc,rfl,ho⟩:=HO1.out hob;have HOB:=ac hob;have HO:=ac ho;clear hob HO1 HO2 ho;have hq:=λw n c n' c'=>dX (P:=Tryz.prog) w 22 3 (some ⟨g,0,none⟩) n c n' c' be;go_wp2;exact aR (v:=.tuple #[.slice (some ⟨g,0,none⟩) bn cc,.int .i64 0]) (by simp[results,Tryz.results267,go_sem,Act.put]) rfl ⟨_,_,rfl,HB4.out,(λh=>by rw[HF.out] at h;cases h),(λ_ h=>by rw[HOB.out] at h;cases h),λ_ _=>⟨rfl,g,cc,rfl,HO.out.mono hsz⟩⟩
end

section
open Go.RowKit Go.Shelf
attribute [local go_sem] Oper.semAt_some iF gH gS fX
theorem qg(w:World)(f:Nat->Bool)(b:Nat)(hb:b<200):(Instr.index 138 (.agg (gK f)) (.int .i64 (b:Int))).run Tryz.prog w=.ok (.bool (f b)) w:=by
 have hz:(Go.sizeOf 4).run Tryz.prog w=.ok 1 w:=by kernel_rfl
 have hb2:(0:Int)<=(b:Int)/\(b:Int)<((200:Nat):Int):=by omega
 have h1:=EU (gK f) b _ w (tL f b hb)
 simp only[Instr.index,asIntOf,b7,dw,b8,bT (w:=w) aL,aM hb2,hz]
 simpa using h1
theorem f8(d:lJ)(ts:List fS)(f:Nat->Bool)(P S:Nat)(x:Nat)(hx:x<200)(W:World)(hP:W.heap[P]? =some (qM d))(hS:W.heap[S]? =some (jY f))(hok:mQ W d ts)(hg:tH ts=true)(hcf:iV f)(hf:x<d.bn):
  Calls Tryz.prog 229 (#[.int .i64 (x:Int)]++ #[.pointer (some ⟨P,0,none⟩),.pointer (some ⟨S,0,none⟩)]) W λe W'=>e=.returned (.bool (iH ts x f x))/\Below W.heap.size W W':=by
 show Calls Tryz.prog 229 #[.int .i64 (x:Int),.pointer (some ⟨P,0,none⟩),.pointer (some ⟨S,0,none⟩)] W _
 have HP:=ac hP
 have HS:=ac hS
 have HOK:=ac hok
 have HG:=ac hg
 have HF:=ac hf
 have HCF:=ac hcf
 clear hP hS hok hg hf hcf
 have hix:=λw=>qg w (iH ts x f) x hx
 go_enter Tryz.func229,Tryz.ntmps229
 go_wp2_with (first
  |(refine ay (o:=⟨some 5,.load 129 _,_,_,_,_⟩) rfl 129 _ rfl P rfl 129 _ (0,0) _ HP.out aY rfl gG ?_)
  |(refine ay (o:=⟨some 7,.load 138 _,_,_,_,_⟩) rfl 138 _ rfl S rfl 138 _ (0,0) _ HS.out aL rfl (by rw[fO];exact gF) ?_)
  |(go_at_call 149
    refine(KG d ts x f W hx HOK.out HG.out HCF.out λ_=>HF.out).mono ?_;rintro e w2 ⟨rfl,hb⟩;have HB:=ac hb
    clear hb))
 go_ret
 exact⟨rfl,HB.out⟩
theorem SV(args:Array Value)(w:World):(callFunc 229 args).run Tryz.prog w=.ok (.enter 229 args) w:=dK Tryz.func229 (by kernel_rfl) rfl args w
theorem ER(d:lJ)(ts:List fS)(f:Nat->Bool)(a:Option Addr)(n c:Nat)(bs:List Int)(w:World)(hI:iJ w a n bs)(hbs:∀x∈bs,0<=x/\x<d.bn)(hok:mQ w d ts)(hg:tH ts=true)(hf:iV f):
  Calls Tryz.prog 163 #[jJ d,.slice a n c,.agg (gK f)] w λe w'=>e=.returned (.bool (wX ts bs f))/\Below w.heap.size w w':=by
 have HI:=ac hI
 have HBS:=ac hbs
 have HOK:=ac hok
 have HG:=ac hg
 have HF:=ac hf
 clear hI hbs hok hg hf
 go_enter Tryz.func163,Tryz.ntmps163
 go_wp2_with (
  (go_at_call 216
   refine(nZ 229 #[.pointer (some ⟨w.heap.size,0,none⟩),.pointer (some ⟨w.heap.size+1,0,none⟩)] SV (λz=>iH ts z.toNat f z.toNat) a n c bs _ (λz W hz hb=>?_) (HI.out.ext ((fD _ _).alloc (by simp) _))).mono ?_
   .have hz2:=HBS.out z hz;have hbn:=HOK.out.2.1;obtain⟨q,rfl⟩:∃q:Nat,z=(q:Int):=⟨z.toNat,by omega⟩
    refine f8 d ts f w.heap.size (w.heap.size+1) q (by omega) W (fB hb ?_) (fB hb (iT _ _ _ (by simp))) (HOK.out.ext (fC ((fD _ _).alloc (by simp) _) hb)) HG.out HF.out (by omega);rw[aG _ _ _ (by simp)];exact ae _ _
   rintro e w2 ⟨rfl,hb⟩;have HB:=ac hb
   clear hb))
 go_ret
 exact⟨rfl,fC ((fD _ _).alloc (by simp) _) HB.out⟩
def ToJ(w:World)(d:lJ)(f:Nat->Bool)(W:World):Prop:=
 W.heap[w.heap.size]? =some (qM d)/\W.heap[w.heap.size+1]? =some (jY f)/\W.heap[w.heap.size+1+1]? =some (.cells #[.bool false] 4 (0,0))/\W.heap[w.heap.size+1+1+1]? =some (.cells #[.pointer (some ⟨w.heap.size+1,0,none⟩)] 245 (0,0))/\Below w.heap.size w W
theorem ToJ.steady{w:World}{d:lJ}{f:Nat->Bool}{D:Nat}(hD:w.heap.size<=D):fG D (ToJ w d f):=by
 unfold ToJ
 exact(fG.block _ _ rfl).and ((fG.block _ _ rfl).and ((fG.block _ _ rfl).and ((fG.block _ _ rfl).and (fG.below (aj _) hD))))
theorem DS(d:lJ)(ts:List fS)(f:Nat->Bool)(w:World)(hok:mQ w d ts)(hg:tH ts=true)(hcf:iV f)(hf:∀b l,gQ f=b :: l->b<d.bn):
  Calls Tryz.prog 162 #[jJ d,.agg (gK f)] w λe w'=>e=.returned (.bool (kU ts f))/\Below w.heap.size w w':=by
 refine(bu (n:=0)).1 ?_
 refine cu Tryz.func162 rfl trivial ?_
 simp only[Tryz.ntmps162,bd,bk,bx,Nat.reduceAdd,Nat.reduceSub,bF,bG,bV,bN,bD,bU]
 have HOK:=ac hok
 have HG:=ac hg
 have HF:=ac hf
 have HCF:=ac hcf
 have hdn:d.bn<=200:=hok.2.1
 clear hok hg hcf hf
 gi_wp2_with (gi_at_call 64;refine(bu.2 (sW _ _)).mono ?_;rintro e w' ⟨rfl,rfl⟩)
 refine sC (ps:=#[7]) (gf:=159) (lb:=#[.pointer (some ⟨w.heap.size+1+1+1,0,none⟩)]) (enc:=rU) (l:=gQ f) rfl pE _ (qL f (w.heap.size+1+1+1) (w.heap.size+1)) (λ_=>rfl)
  (λdn r W=>Hid (dn= []/\ToJ w d f W)) (λc W=>c=.ret/\W.heap[w.heap.size+1+1]? =some (.cells #[.bool (kU ts f)] 4 (0,0))/\Below w.heap.size w W)
  (λdn r=>(fG.pure _ _).and (ToJ.steady (by simp;omega))) (λc=>(fG.pure _ _).and ((fG.block _ _ rfl).and (fG.below (aj _) (by simp;omega)))) (λdn r W h=>⟨cR h.out.2.2.2.2.1 rfl,h.out.2.2.1⟩) ?start ?round ?done ?stop
 case start=>
  refine⟨rfl,?_,?_,?_,?_,?_⟩
  .rw[aG _ _ _ (by simp;omega),aG _ _ _ (by simp;omega),aG _ _ _ (by simp)];exact ae _ _
  .rw[aG _ _ _ (by simp),aG _ _ _ (by simp)];exact iT _ _ _ (by simp)
  .rw[aG _ _ _ (by simp)];exact iT _ _ _ (by simp)
  .exact iT _ _ _ (by simp)
  .exact(((fD _ _).alloc (by simp) _).alloc (by simp;omega) _).alloc (by simp;omega) _
 case round=>
  rintro lp dn x r W0 hd hJ;unfold rU
  gi_wp2
  refine⟨gC.refl _,hJ,?_⟩;clear hJ lp W0;rintro lp W0 hJ;obtain⟨rfl,j1,j2,j3,j4,jb⟩:=hJ.out;have hxl:x<200:=uF f x (by rw[hd];simp);have HXB:Hid (f x=true->x<d.bn):=λ_=>HF.out x r hd;have HE:Hid (kU ts f=eqS (iH ts x f) f):=by
   have:gQ f=x :: r:=hd;simp only[Hid,kU,this]
  have HW:=ac j1;have HS:=ac j2;have HR:=ac j3;have HBW:=ac jb;clear hJ j1 j2 j3 j4 jb hd;refine wpIn_block ?_;refine wpIn_seq ?_;refine xL 6 [some 8,some 9,some 10,some 11,some 12,some 13] (by kernel_rfl) (by kernel_rfl) (by repeat (first|exact gZ|refine iK ?_|refine hU ?_)) (by kernel_rfl) (jZ [.val (jJ d),.val (.int .i64 (x:Int)),.val (.agg (gK f)),.val (.agg (gK (iH ts x f))),.val (.agg (gK f)),.val (.bool (eqS (iH ts x f) f))]) (jX ?_) ?_ ?_
  .intro k hk;simp only[aS,bO,cX] at hk;rcases hk with rfl|rfl|rfl|rfl|rfl|rfl<;>try exact trivial
  .intro i hi ν lo hi' w1 K hB hD hK;have hcase:i=0\/i=1\/i=2\/i=3\/i=4\/i=5:=by omega
   clear hi;rcases hcase with rfl|rfl|rfl|rfl|rfl|rfl
   .clear hD;refine fF rfl rfl ?_;simp only[zA,zB,zC,zD,zE,zF,zJ,zK,zG,zH,zI] at hK|-;refine cy 129 _ rfl w.heap.size rfl 129 _ (0,0) _ (fB hB HW.out) aY rfl gG ?_;exact hK _ _ (ag _ _) rfl
   .clear hD;refine fF rfl rfl ?_;simp only[zA,zB,zC,zD,zE,zF,zJ,zK,zG,zH,zI] at hK|-;go_simp;exact hK _ _ (ag _ _) rfl
   .clear hD;refine fF rfl rfl ?_;simp only[zA,zB,zC,zD,zE,zF,zJ,zK,zG,zH,zI] at hK|-;refine cy 138 _ rfl (w.heap.size+1) rfl 138 _ (0,0) _ (fB hB HS.out) aL rfl (by rw[fO];exact gF) ?_;exact hK _ _ (ag _ _) rfl
   .have e0:ν 0=(jJ d):=hD 0 (by kernel_rfl);have e1:ν 1=(.int .i64 (x:Int)):=hD 1 (by kernel_rfl);have e2:ν 2=(.agg (gK f)):=hD 2 (by kernel_rfl);clear hD;refine fF rfl rfl ?_;simp only[zA,zB,zC,zD,zE,zF,zJ,zK,zG,zH,zI,e0,e1,e2] at hK|-;go_simp;refine(KG d ts x f w1 (by omega) (HOK.out.ext (fC HBW.out hB)) HG.out HCF.out HXB.out).mono ?_;rintro e w3 ⟨rfl,hb3⟩;exact hK _ _ hb3 rfl
   .clear hD;refine fF rfl rfl ?_;simp only[zA,zB,zC,zD,zE,zF,zJ,zK,zG,zH,zI] at hK|-;refine cy 138 _ rfl (w.heap.size+1) rfl 138 _ (0,0) _ (fB hB HS.out) aL rfl (by rw[fO];exact gF) ?_;exact hK _ _ (ag _ _) rfl
   .have e3:ν 3=(.agg (gK (iH ts x f))):=hD 3 (by kernel_rfl);have e4:ν 4=(.agg (gK f)):=hD 4 (by kernel_rfl);clear hD;refine fF rfl rfl ?_;simp only[zA,zB,zC,zD,zE,zF,zJ,zK,zG,zH,zI,e3,e4] at hK|-;have heq:=FJ w1 (iH ts x f) f;go_simp;exact hK _ _ (ag _ _) rfl
  .intro ν lo hi w1 hB hS hI hD;have e0:ν 0=(jJ d):=hS 0 (by omega);have e1:ν 1=(.int .i64 (x:Int)):=hS 1 (by omega);have e2:ν 2=(.agg (gK f)):=hS 2 (by omega);have e3:ν 3=(.agg (gK (iH ts x f))):=hS 3 (by omega);have e4:ν 4=(.agg (gK f)):=hS 4 (by omega);have e5:ν 5=(.bool (eqS (iH ts x f) f)):=hS 5 (by omega);clear hS;simp only[am,aw,zA,zB,zC,zD,zE,zF,zJ,zK,zG,zH,zI,e0,e1,e2,e3,e4,e5];have HB1:=ac hB;clear hI hD e0 e1 e2 e3 e4 e5;have hr1:=fB HB1.out HR.out;obtain⟨hc1,hf1⟩:=cz 0 hr1 rfl;have hl1:=fE hr1;have HR1:=ac hr1;clear hr1 hB;go_wp2;refine wpIn_ret ?_;have hst:=aC w1 (w.heap.size+1+1) 0 _ _ (.bool (eqS (iH ts x f) f)) HR1.out;exact⟨(gC.ext HB1.out).trans (gC.setCell _ _ _),rfl,by rw[HE.out];simpa using hst,(fC HBW.out HB1.out).setCell (by simp;omega) _⟩
 case done=>
  rintro D W hD hJ hK;obtain⟨hl,j1,j2,j3,j4,jb⟩:=hJ.out;have HE:Hid (kU ts f=true):=by simp only[Hid,kU,hl]
  obtain⟨hc1,hf1⟩:=cz 0 j3 rfl;have hl1:=fE j3;have HB:=ac jb;have HJ3:=ac j3;clear hJ j1 j2 j3 j4 jb hl
  gi_wp2
  have hDP:D≠w.heap.size+1+1:=by simp at hD;omega
  have g:=fU W (w.heap.size+1+1) 0 (.bool true);have hK2:=fQ g hK (by simp;omega);have hb2:Below w.heap.size w (W.setCell ⟨w.heap.size+1+1,0,none⟩ (.bool true)):=HB.out.setCell (by simp;omega) _;have hv2:(W.setCell ⟨w.heap.size+1+1,0,none⟩ (.bool true)).heap[w.heap.size+1+1]? =some (.cells #[.bool true] 4 (0,0)):=by
   have:=aC W (w.heap.size+1+1) 0 _ _ (.bool true) HJ3.out;simpa using this
  generalize W.setCell ⟨w.heap.size+1+1,0,none⟩ (.bool true)=W2 at *;have hb3:=(fG.below (n₀:=w.heap.size) (B:=w.heap.size) (w₀:=w) (aj _) (aj _)).put (.deferred none) (l:=D) hb2 (by simp at hD;omega) hK2 rfl;have hv3:(W2.putObj D (.deferred none)).heap[w.heap.size+1+1]? =some (.cells #[.bool true] 4 (0,0)):=(bo (by omega)).trans hv2;have hc3:=cK 0 hv3 rfl;refine⟨by simp,.inl ⟨_,_,rfl,cM hK2,?_⟩⟩;exact⟨.bool true,by simp[results,Tryz.results162,go_sem,hc3],by rw[HE.out],hb3⟩
 case stop=>
  rintro D c W hD ⟨rfl,hv,hb⟩ hK;have hv2:(W.putObj D (.deferred none)).heap[w.heap.size+1+1]? =some (.cells #[.bool (kU ts f)] 4 (0,0)):=(bo (by simp at hD;omega)).trans hv;have hb2:=(fG.below (n₀:=w.heap.size) (B:=w.heap.size) (w₀:=w) (aj _) (aj _)).put (.deferred none) (l:=D) hb (by simp at hD;omega) hK rfl;have hc:=cK 0 hv2 rfl
  gi_wp2
  refine⟨by simp,.inl ⟨_,_,rfl,cM hK,?_⟩⟩;exact⟨.bool (kU ts f),by simp[results,Tryz.results162,go_sem,hc],rfl,hb2⟩
end
end Go.Proofs.YtbknbcmppdglhaaGreatDoor
