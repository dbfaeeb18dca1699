/-
 The document's answer to layer 17:Entries.
-/
import Derived.Test.YtblhmdhfhaencaaGreatRM
import Derived.Test.YtblhmdhfhaencaaGreatVA
import Derived.Test.YtblhmdhfhaencaaGreatTW
import Derived.Test.YtblhmdhfhaencaaGreatTL
import Derived.Test.YtblhmdhfhaencaaGreatDF
import Derived.Test.YtblhmdhfhaencaaGreatTU
namespace Go.Proofs.YtblhmdhfhaencaaGreat
set_option linter.unusedSimpArgs false
set_option linter.unusedVariables false
set_option linter.unusedSectionVars false
set_option maxRecDepth 100000
set_option maxHeartbeats 40000000
section
open Go.RowKit Go.Shelf
attribute [local go_sem] Oper.semAt_some cT bM cC bG
def CY(ts:List aT)(l:List bI)(k:Int):List Int:=if bU ts=true then aO (aM ts (ofS (fK l k))) else []
def UE(ts:List aT)(l:List bI)(n:Nat):List Int:=if bU ts=true∧lU l n=true then nL l n else []
def XZ(ts:List aT)(l:List bI)(n:Nat):Int:=if bU ts=true then if lU l n=true then 0 else 12 else 2
def YC(ts:List aT)(l:List bI)(n:Nat)(w:World)(e:Ending)(w':World):Prop:=∃v,e=.returned (.tuple #[v,.int .i64 (XZ ts l n)])∧Below w.heap.size w w'∧bN w' w.heap.size v (UE ts l n)
theorem AZ.g{ts:List aT}{l:List bI}{n:Nat}{w:World}{e:Ending}{w':World}(h:AZ ts l n w e w'):YC ts l n w e w':=by
 obtain⟨v,en,rfl,hb,h1,h2,h3⟩:=h
 unfold YC XZ UE
 cases hf:bU ts with
 |false=>obtain⟨rfl,rfl⟩:=h1 hf;exact⟨_,rfl,hb,by simpa using bN.nil _ _⟩
 |true=>
  cases ho:lU l n with
  |false=>obtain⟨rfl,rfl⟩:=h2 hf ho;exact⟨_,rfl,hb,by simpa using bN.nil _ _⟩
  |true=>obtain⟨rfl,g,c,rfl,h4⟩:=h3 hf ho;exact⟨_,rfl,hb,by simpa using h4⟩
theorem BB.g{ts:List aT}{l:List bI}{n:Nat}{w:World}{e:Ending}{w':World}(h:BB ts l n w e w'):YC ts l n w e w':=by
 obtain⟨v,en,rfl,hb,h1,h2,h3⟩:=h
 unfold YC XZ UE
 cases hf:bU ts with
 |false=>obtain⟨rfl,rfl⟩:=h1 hf;exact⟨_,rfl,hb,by simpa using bN.nil _ _⟩
 |true=>
  cases ho:lU l n with
  |false=>obtain⟨rfl,rfl⟩:=h2 hf ho;exact⟨_,rfl,hb,by simpa using bN.nil _ _⟩
  |true=>obtain⟨rfl,h4⟩:=h3 hf ho;exact⟨_,rfl,hb,by simpa using h4⟩
def ZQ(ts:List aT)(l:List bI)(k:Int)(w:World)(e:Ending)(w':World):Prop:=∃v,e=.returned v∧Below w.heap.size w w'∧bN w' w.heap.size v (CY ts l k)
theorem BA.g{ts:List aT}{l:List bI}{k:Int}{w:World}{e:Ending}{w':World}(h:BA ts l k w e w'):ZQ ts l k w e w':=by
 obtain⟨v,rfl,hb,h1,h2⟩:=h
 unfold ZQ CY
 cases hf:bU ts with
 |false=>obtain rfl:=h1 hf;exact⟨_,rfl,hb,by simpa using bN.nil _ _⟩
 |true=>exact⟨_,rfl,hb,by simpa using h2 hf⟩
theorem PC(pa:Option Addr)(pn pc:Nat)(ba:Option Addr)(bn bc:Nat)(bs:List gS)(a:Option Addr)(n c:Nat)(ls:List bK)(k:Int)(w:World)(h:dU w ba bn bs)(ht:cM w a n ls)(hk:I64 k)(hT:gZ (aJ ls)≤1000000):
  Calls Tryz.prog 47 #[dX pa pn pc ba bn bc,.slice a n c,.int .i64 k] w (ZQ (aG bs) (aJ ls) k w):=by
 have H:=aBO h
 have HT:=aBO ht
 have HKI:=aBO hk
 have HTOT:=aBO hT
 clear h ht hk hT
 go_enter Tryz.func47,Tryz.ntmps47
 go_upto_region 1 with (fail)
 obtain⟨W,hW⟩:∃W,W=w.alloc (bO pa pn pc ba bn bc):=⟨_,rfl⟩
 rw[←hW]
 have hk0:W.heap[w.heap.size]? =some (bO pa pn pc ba bn bc):=by rw[hW];exact aBS _ _
 have hB:Below w.heap.size w W:=by rw[hW];exact aD _ _
 have HK:=aBO hk0
 have HB:=aBO hB
 clear hW hk0 hB
 cases hf:bU (aG bs) with
 |false=>
  have HF:=aBO hf;clear hf
  go_wp2_with (first
   |(refine wpList_load_row (o:=⟨some 7,.load 25 _,_,_,_,_⟩) rfl 25 _ rfl w.heap.size rfl 25 _ (0,0) _ HK.out Tryz.underlying25 rfl aS ?_)
   |(go_at_call 41
     refine(kX pa pn pc ba bn bc bs W (H.out.ext HB.out)).mono ?_;rintro e w2 ⟨rfl,hb⟩;rw[HF.out];have HB2:=aBO (aA HB.out hb)
     clear hb))
  go_ret
  exact⟨_,rfl,HB2.out,by unfold CY;rw[HF.out];exact bN.nil _ _⟩
 |true=>
  have HF:=aBO hf;clear hf
  go_upto_region 3 with (first
   |(refine wpList_load_row (o:=⟨some 7,.load 25 _,_,_,_,_⟩) rfl 25 _ rfl w.heap.size rfl 25 _ (0,0) _ HK.out Tryz.underlying25 rfl aS ?_)
   |(go_at_call 41
     refine(kX pa pn pc ba bn bc bs W (H.out.ext HB.out)).mono ?_;rintro e w2 ⟨rfl,hb⟩;rw[HF.out];have HB2:=aBO (aA HB.out hb);have HK2:=aBO (aB hb HK.out)
     clear hb))
  refine dL 6 [some 10,some 11,some 12,some 13,some 14,some 15] (by kernel_rfl) (by kernel_rfl) (dV [.val (dX pa pn pc ba bn bc),.val (.slice a n c),.val (.int .i64 k),(.any fun v lo hi W=>∃al cl,v=.slice al (fK (aJ ls) k).length cl∧bN W lo v (fK (aJ ls) k)),.val (.agg (aQ (ofS (fK (aJ ls) k)))),(.any fun v lo hi W=>bN W lo v (aO (aM (aG bs) (ofS (fK (aJ ls) k)))))]) (dN ?_) ?_ ?_
  ·intro k hk;simp only[List.mem_cons,List.not_mem_nil,or_false] at hk;rcases hk with rfl|rfl|rfl|rfl|rfl|rfl
   ·exact trivial
   ·exact trivial
   ·exact trivial
   ·intro v lo hi w w' hb ⟨al,cl,e,ho⟩;exact⟨al,cl,e,ho.ext hb⟩
   ·exact trivial
   ·intro v lo hi w w' hb ho;exact ho.ext hb
  ·intro i hi ν lo hi' w1 K hB hD hK;have hcase:i=0∨i=1∨i=2∨i=3∨i=4∨i=5:=by omega
   clear hi;rcases hcase with rfl|rfl|rfl|rfl|rfl|rfl
   ·clear hD;refine aC rfl rfl ?_;simp only[zA,zB,zC,zD,zE,zF,zJ,zK,zG,zH,zI] at hK⊢;refine wp_load_row 25 _ rfl w.heap.size rfl 25 _ (0,0) _ (aB hB HK2.out) Tryz.underlying25 rfl aS ?_;exact hK _ _ (aBQ _ _) rfl
   ·clear hD;refine aC rfl rfl ?_;simp only[zA,zB,zC,zD,zE,zF,zJ,zK,zG,zH,zI] at hK⊢;go_simp;exact hK _ _ (aBQ _ _) rfl
   ·clear hD;refine aC rfl rfl ?_;simp only[zA,zB,zC,zD,zE,zF,zJ,zK,zG,zH,zI] at hK⊢;go_simp;exact hK _ _ (aBQ _ _) rfl
   ·have e1:=hD 1 (by kernel_rfl)
    replace e1:ν 1=(.slice a n c):=e1
    have e2:=hD 2 (by kernel_rfl)
    replace e2:ν 2=(.int .i64 k):=e2
    clear hD;refine aC rfl rfl ?_;simp only[zA,zB,zC,zD,zE,zF,zJ,zK,zG,zH,zI,e1,e2] at hK⊢;go_simp;refine(uP a n c ls k w1 (HT.out.ext (aA HB2.out hB)) HKI.out HTOT.out).mono ?_;rintro e w3 ⟨v,rfl,ho,hb3⟩;obtain⟨al,cl,rfl⟩:=ho.form;exact hK _ _ hb3 ⟨al,cl,rfl,ho⟩
   ·have e3:=hD 3 (by kernel_rfl);unfold dV at e3;simp only[List.getD_cons_zero,List.getD_cons_succ,gG] at e3;clear hD;refine aC rfl rfl ?_;simp only[zA,zB,zC,zD,zE,zF,zJ,zK,zG,zH,zI] at hK⊢;obtain⟨al,cl,e3',ho3⟩:=e3;simp only[e3'] at hK⊢;rw[e3'] at ho3;go_simp;refine(yB al _ cl (fK (aJ ls) k) w1 ho3.ints).mono ?_;rintro e w3 ⟨rfl,hb3⟩;exact hK _ _ hb3 rfl
   ·have e0:=hD 0 (by kernel_rfl)
    replace e0:ν 0=(dX pa pn pc ba bn bc):=e0
    have e4:=hD 4 (by kernel_rfl)
    replace e4:ν 4=(.agg (aQ (ofS (fK (aJ ls) k)))):=e4
    clear hD;refine aC rfl rfl ?_;simp only[zA,zB,zC,zD,zE,zF,zJ,zK,zG,zH,zI,e0,e4] at hK⊢;go_simp;refine(pH pa pn pc ba bn bc bs (ofS (fK (aJ ls) k)) w1 (H.out.ext (aA HB2.out hB)) (kF HF.out)).mono ?_;rintro e w3 ⟨v,rfl,ho,hb3⟩;exact hK _ _ hb3 ho
  ·intro ν lo hi w1 hB hS hI hD;have e0:ν 0=(dX pa pn pc ba bn bc):=hS 0 (by omega);have e1:ν 1=(.slice a n c):=hS 1 (by omega);have e2:ν 2=(.int .i64 k):=hS 2 (by omega);have e3:=hS 3 (by omega);unfold dV at e3;simp only[List.getD_cons_zero,List.getD_cons_succ,gG] at e3;have e4:ν 4=(.agg (aQ (ofS (fK (aJ ls) k)))):=hS 4 (by omega);have hS5:=hS 5 (by omega);unfold dV at hS5;simp only[List.getD_cons_zero,List.getD_cons_succ,gG] at hS5;clear hS;simp only[List.drop_succ_cons,List.drop_zero,zA,zB,zC,zD,zE,zF,zJ,zK,zG,zH,zI,e0,e1,e2,e4];have e5:=hS5;have hl5:=hI 5 (by omega);have hsz3:=HB2.out.size;obtain⟨v5,hv5⟩:∃v5,v5=ν 5:=⟨_,rfl⟩
   rw[←hv5] at e5⊢;have HO:=aBO (e5.mono (base':=w.heap.size) (by omega));have HBE:=aBO (aA HB2.out hB);clear e5 hl5 hI hD hB hv5 e0 e1 e2 e4 hS5 hsz3;go_wp2
   go_ret
   exact⟨_,rfl,HBE.out,by unfold CY;rw[HF.out];exact HO.out⟩
end

section
open Go.RowKit
theorem yK(pa:Option Addr)(pn pc:Nat)(ba:Option Addr)(bn bc:Nat)(bs:List gS)(a:Option Addr)(n c:Nat)(ls:List bK)(k:Nat)(w:World)(h:dU w ba bn bs)(ht:cM w a n ls)(hk:k<n)(hT:gZ (aJ ls)≤1000000)(hg:fS (aG bs)=true)
  (hbs:∀x∈eW (aJ ls) k,0≤x∧x<bn) (hall:∀b,iH (aJ ls) k b=true→b<bn):
  Calls Tryz.prog 104 #[dX pa pn pc ba bn bc,.slice a n c,.int .i64 (k:Int)] w fun e w'=>e=.returned (.bool (dC (aG bs) ((aJ ls).getD k fC) (iH (aJ ls) k)))∧Below w.heap.size w w':=by
 have hn:=ht.1.2.1
 have hbn:bn≤200:=by have:=((cY _).1 hg).1.2;rw[dD,h.1.1] at this;exact this
 obtain⟨t,tb,tw,hlk,hok,rfl,_⟩:=ht.cells hk
 have htd:=iM ls k t hlk
 rw[eW,htd] at hbs
 rw[htd]
 have HLK:=aBO hlk
 have HBS:=aBO hbs
 have HALL:Hid (∀b,iH (aJ ls) k b=true→b<bn):=hall
 have HCF:Hid (cA (iH (aJ ls) k)):=AM _
 have H:=aBO h
 have HT:=aBO ht
 have HG:=aBO hg
 have HTOT:=aBO hT
 obtain⟨hI,hcap,hki,_⟩:=hok
 obtain⟨hk1,hk2⟩:=hki
 have HI:=aBO hI
 have hkn:(k:Int)<(n:Int):=by omega
 clear h ht hg hT hbs hall hlk htd hI
 go_enter Tryz.func104,Tryz.ntmps104
 go_upto_region 1 with (fail)
 obtain⟨W,hW⟩:∃W,W=w.alloc (bO pa pn pc ba bn bc):=⟨_,rfl⟩
 rw[←hW]
 have ho:W.heap[w.heap.size]? =some (bO pa pn pc ba bn bc):=by rw[hW];exact aBS _ _
 have hB:Below w.heap.size w W:=by rw[hW];exact aD _ _
 have HF0:=aBO ho
 have HB0:=aBO hB
 clear hW ho hB
 go_upto_region 2 with (first
  |(go_at_call 45
    refine(uP (some ⟨tb,tw,none⟩) n c ls (k:Int) W (HT.out.ext HB0.out) (by unfold I64;omega) HTOT.out).mono ?_;rintro e w2 ⟨v,rfl,ho,hb⟩;obtain⟨va,vc,rfl⟩:=ho.form;have HV:=aBO ho.ints;have HF1:=aBO (aB hb HF0.out);have HB1:=aBO (aA HB0.out hb)
    clear ho hb)
  |(go_at_call 108
    refine(yB va _ vc _ w2 HV.out).mono ?_;rintro e w3 ⟨rfl,hb⟩;have HF2:=aBO (aB hb HF1.out);have HB2:=aBO (aA HB1.out hb)
    clear hb HF1 HB1)
  |(refine wpList_store_row rfl 107 _ _ rfl w3.heap.size (aQ (ofS (fK (aJ ls) (k:Int)))) rfl rfl 107 _ (aBS w3 (.cells Tryz.zeroCells107 107)) (by rw[aF];exact aV) rfl (dE _) ?_))
 obtain⟨P,hP⟩:∃P,P=w3.heap.size:=⟨_,rfl⟩
 obtain⟨W4,hW4⟩:∃W4,W4=(w3.alloc (.cells Tryz.zeroCells107 107)).setRow w3.heap.size (aQ (ofS (fK (aJ ls) (k:Int)))):=⟨_,rfl⟩
 rw[←hW4]
 have hs4:W4.heap[P]? =some (bY (iH (aJ ls) k)):=by rw[hW4,hP];exact setRow_heap _ _ _ _ _ _ (aBS w3 (.cells Tryz.zeroCells107 107))
 have hlf:=aN HF2.out
 have hf4:W4.heap[w.heap.size]? =some (bO pa pn pc ba bn bc):=by rw[hW4,setRow_other _ _ _ _ (by omega),aBR _ _ _ hlf];exact HF2.out
 have hb4:Below w.heap.size w W4:=by rw[hW4];exact below_setRow (HB2.out.alloc HB2.out.size _) HB2.out.size _
 have hPw:w.heap.size<P:=by omega
 have hP4:=aN hs4
 rw[←hP]
 have HS:=aBO hs4
 have HF:=aBO hf4
 have HB:=aBO hb4
 clear hW4 hs4 hf4 hb4 HF2 HB2 HV HF0 HB0 hlf hP
 generalize hse:iH (aJ ls) k=s at*
 have HSE:=aBO hse
 clear hse
 go_upto_region 3 with (first
  |(refine wpList_load_row (o:=⟨some 15,.load 25 _,_,_,_,_⟩) rfl 25 _ rfl w.heap.size rfl 25 _ (0,0) _ HF.out Tryz.underlying25 rfl aS ?_)
  |(refine wpList_load_row (o:=⟨some 16,.load 107 _,_,_,_,_⟩) rfl 107 _ rfl P rfl 107 _ (0,0) _ HS.out Tryz.underlying107 rfl (by rw[aF];exact aV) ?_)
  |(go_at_call 107
    refine(pH pa pn pc ba bn bc bs s W4 (H.out.ext HB.out) HG.out).mono ?_;rintro e w5 ⟨ev,rfl,ho,hb⟩;obtain⟨ea,ec,rfl⟩:=ho.form;have HE:=aBO ho.ints;have HF5:=aBO (aB hb HF.out);have HS5:=aBO (aB hb HS.out);have HB5:=aBO (aA HB.out hb);have hP5:P<w5.heap.size:=Nat.lt_of_lt_of_le hP4 hb.size;have hec:=ho.cap;have hel:(aO (aM (aG bs) s)).length=(aM (aG bs) s).length:=(by simp[aO])
    rw[hel] at hec HE⊢
    clear ho hb hel))
 have hel2:(aM (aG bs) s).length≤200:=aCD (List.length_filter_le _ _) (pY s)
 clear HF HS HB hP4
 go_cut [9] (fun s9 wr=>s9=.bool (nG t.d (aM (aG bs) s))∧Hid (wr.heap[w.heap.size]? =some (bO pa pn pc ba bn bc))∧Hid (wr.heap[P]? =some (bY s))∧Hid (dY wr ea (aM (aG bs) s).length (aO (aM (aG bs) s)))∧Hid (Below w.heap.size w wr)∧P<wr.heap.size)
 case first=>
  obtain⟨t',tb',tw',hlk',hok',et,c0,c1,c2⟩:=(HT.out.ext HB5.out).cells hk;injection et with et;injection et with et1 et2 _;subst et1 et2;rw[HLK.out] at hlk';injection hlk' with hlk';subst hlk';clear hok' c0 c1;have kB:∀n':aY w5,n'.val.cell? ⟨tb,tw+k*3+2,none⟩=some (.slice t.ba t.bn t.bc):=fun n'=>aH n'.ext c2;clear c2;by_cases h1:(aM (aG bs) s).length=1
  ·obtain⟨x,hx⟩:∃x,aM (aG bs) s= [x]:=by
    match h:aM (aG bs) s with
    | []=>rw[h] at h1;simp at h1
    | [x]=>exact⟨x,rfl⟩
    |_ :: _ :: _=>rw[h] at h1;simp at h1
   obtain⟨b,o,rfl,hc,_⟩:=HE.out.2.2 0 (by omega);have hx0:(aO (aM (aG bs) s)).getD 0 0=(x:Int):=by rw[hx];rfl
   rw[hx0] at hc;have kE:∀n':aY w5,n'.val.cell? ⟨b,o,none⟩=some (.int .i64 (x:Int)):=fun n'=>aH n'.ext hc;have HO:Hid (nG t.d (aM (aG bs) s)=t.d.blocks.contains (x:Int)):=by
    rw[hx,Hid];simp[nG]
   have heq:((((aM (aG bs) s).length:Nat):Int)==1)=true:=by simp[h1]
   have hlt:0<(aM (aG bs) s).length:=by omega
   clear hx hx0 hc h1;refine bB (by kernel_rfl) (by kernel_rfl) ?_
   repeat (first
    |go_big_quiet_skip
    |go_big_quiet_step (first
     |(go_at_call 165;exact sC (SZ t.ba t.bn t.bc t.d.blocks _ _ (HI.out.ext (aA HB5.out (aY.ext _)))))))
   refine wpQuiet_nil ?_;intro _ hw';obtain⟨n',rfl⟩:=hw';go_wp2
   go_meet
   exact⟨by rw[HO.out];simp,aB n'.ext HF5.out,aB n'.ext HS5.out,HE.out.ext n'.ext,aA HB5.out n'.ext,Nat.lt_of_lt_of_le hP5 n'.ext.size⟩
  ·have hne:((((aM (aG bs) s).length:Nat):Int)==1)=false:=by simp;omega
   have HO:Hid (nG t.d (aM (aG bs) s)=false):=by
    rw[Hid];simp[nG,h1]
   refine bB (by kernel_rfl) (by kernel_rfl) ?_
   repeat (first
    |go_big_quiet_skip
    |go_big_quiet_step (fail))
   refine wpQuiet_nil ?_;intro _ hw';obtain⟨n',rfl⟩:=hw';go_wp2
   go_meet
   exact⟨by rw[HO.out],aB n'.ext HF5.out,aB n'.ext HS5.out,HE.out.ext n'.ext,aA HB5.out n'.ext,Nat.lt_of_lt_of_le hP5 n'.ext.size⟩
 case rest=>
  obtain⟨rfl,HF,HS,HE2,HB,hPc⟩:=hcut;obtain⟨t',tb',tw',hlk',hok',et,c0,c1,c2⟩:=(HT.out.ext HB.out).cells hk;injection et with et;injection et with et1 et2 _;subst et1 et2;rw[HLK.out] at hlk';injection hlk' with hlk';subst hlk';clear hok' c1 HE HF5 HS5 HB5 hP5;have qf:∀w',(∃n:aY wc,w'=n.val)→w'.heap[w.heap.size]? =some (bO pa pn pc ba bn bc):=fun w' ⟨n,e⟩=>by rw[e];exact aB n.ext HF.out
  have qs:∀w',(∃n:aY wc,w'=n.val)→w'.heap[P]? =some (bY s):=fun w' ⟨n,e⟩=>by rw[e];exact aB n.ext HS.out
  have kB:∀n':aY wc,n'.val.cell? ⟨tb,tw+k*3+2,none⟩=some (.slice t.ba t.bn t.bc):=fun n'=>aH n'.ext c2
  have HRG:Hid (∀n':aY wc,Calls Tryz.prog 166 #[dX pa pn pc ba bn bc,.slice t.ba t.bn t.bc,.agg (aQ s)] n'.val fun e w''=>e=.returned (.bool (iD (aG bs) t.d.blocks s))∧∃m:aY wc,w''=m.val):=
   fun n'=>cG (BK pa pn pc ba bn bc bs t.ba t.bn t.bc t.d.blocks s n'.val (H.out.ext (aA HB.out n'.ext)) HG.out HCF.out HALL.out (HI.out.ext (aA HB.out n'.ext)) (fun x hx=>by have:=HBS.out x hx;omega))
  by_cases h1:t.d.kind=1
  ·have e1:(t.d.kind==1)=true:=by simp[h1]
   have HR:Hid (dC (aG bs) t.d s= !iD (aG bs) t.d.blocks s):=by simp[Hid,dC,h1]
   clear h1;go_wp2;refine bB (by kernel_rfl) (by kernel_rfl) ?_
   repeat (first
    |go_big_quiet_skip
    |(refine aW (o:=⟨some 39,.load 25 _,_,_,_,_⟩) (by rfl) 25 _ rfl w.heap.size rfl 25 #[.slice pa pn pc,.slice ba bn bc] (0,0) _ qf Tryz.underlying25 rfl aS ?_;simp only[zJ,zG,zH,zI])
    |(refine aW (o:=⟨some 45,.load 107 _,_,_,_,_⟩) (by rfl) 107 _ rfl P rfl 107 _ (0,0) _ qs Tryz.underlying107 rfl (by rw[aF];exact aV) ?_;simp only[zJ,zG,zH,zI])
    |go_big_quiet_step (first
     |(go_at_call 166;exact HRG.out _)))
   refine wpQuiet_nil ?_;intro _ hw';obtain⟨n',rfl⟩:=hw';go_wp2
   go_ret
   exact⟨by rw[HSE.out,HR.out];rfl,aA HB.out n'.ext⟩
  ·have e1:(t.d.kind==1)=false:=by simpa using h1
   by_cases h2:t.d.kind=2
   ·have e2:(t.d.kind==2)=true:=by simp[h2]
    have HR:Hid (dC (aG bs) t.d s=(nG t.d (aM (aG bs) s)&&cU (aG bs) s&& !iD (aG bs) t.d.blocks (bW s ((aM (aG bs) s).headD 0)))):=by simp[Hid,dC,h2]
    clear h1 h2 HRG;cases ho:nG t.d (aM (aG bs) s) with
    |false=>
     rw[ho,Bool.false_and,Bool.false_and] at HR;clear ho;go_wp2
     go_ret
     exact⟨by rw[HSE.out,HR.out];rfl,HB.out⟩
    |true=>
     obtain⟨x,hx⟩:=QJ _ _ ho;obtain⟨b,o,rfl,hc,_⟩:=HE2.out.2.2 0 (by rw[hx];simp);have hxm:x∈aM (aG bs) s:=by rw[hx];simp
     have hx2:x<200:=mZ s x (List.mem_filter.1 hxm).1;clear hxm;rw[ho,Bool.true_and,show(aM (aG bs) s).headD 0=x by rw[hx];rfl] at HR;have hx0:(aO (aM (aG bs) s)).getD 0 0=(x:Int):=by rw[hx];rfl
     rw[hx0] at hc;have hlt:0<(aM (aG bs) s).length:=by rw[hx];simp
     have hc0:wc.cell? ⟨b,o,none⟩=some (.int .i64 (x:Int)):=hc;have HCE:=aBO hc0;have HK0:=aBO c0;have HK2:=aBO c2;clear ho hx hx0 hc hc0 c2 qf qs kB
     go_upto_region 11 with (first
      |(refine wpList_load_row (o:=⟨some 52,.load 107 _,_,_,_,_⟩) rfl 107 _ rfl P rfl 107 _ (0,0) _ HS.out Tryz.underlying107 rfl (by rw[aF];exact aV) ?_)
      |(refine wpList_store_row rfl 107 _ _ rfl wc.heap.size (aQ s) rfl rfl 107 _ (aBS wc (.cells Tryz.zeroCells107 107)) (by rw[aF];exact aV) rfl (dE _) ?_))
     obtain⟨P2,hP2⟩:∃P2,P2=wc.heap.size:=⟨_,rfl⟩
     obtain⟨W6,hW6⟩:∃W6,W6=(wc.alloc (.cells Tryz.zeroCells107 107)).setRow wc.heap.size (aQ s):=⟨_,rfl⟩
     rw[←hW6];have hs6:W6.heap[P2]? =some (bY s):=by rw[hW6,hP2];exact setRow_heap _ _ _ _ _ _ (aBS wc (.cells Tryz.zeroCells107 107))
     have hb6:Below wc.heap.size wc W6:=by rw[hW6];exact below_setRow (aD _ _) (aBV _) _
     rw[←hP2];have hPP:wc.heap.size≤P2:=by omega
     clear hP2;have hc6:=aH hb6 HCE.out;have hcs:=cX hs6 x hx2;have hcf:=gC hs6 x;have HS7:=aBO (kC (b:=false) hs6 hx2 (EO s x));have HB7:Hid (Below wc.heap.size wc (W6.setCell ⟨P2,x,none⟩ (.bool false))):=hb6.setCell hPP _;clear hs6 hb6 hW6 HCE;go_upto_region 12 with (fail)
     generalize W6.setCell ⟨P2,x,none⟩ (.bool false)=W7 at *;have qf:∀w',(∃n:aY W7,w'=n.val)→w'.heap[w.heap.size]? =some (bO pa pn pc ba bn bc):=fun w' ⟨n,e⟩=>by rw[e];exact aB n.ext (aB HB7.out HF.out)
     have qs:∀w',(∃n:aY W7,w'=n.val)→w'.heap[P]? =some (bY s):=fun w' ⟨n,e⟩=>by rw[e];exact aB n.ext (aB HB7.out HS.out)
     have qr:∀w',(∃n:aY W7,w'=n.val)→w'.heap[P2]? =some (bY (bW s x)):=fun w' ⟨n,e⟩=>by rw[e];exact aB n.ext HS7.out
     have kB:∀n':aY W7,n'.val.cell? ⟨tb,tw+k*3+2,none⟩=some (.slice t.ba t.bn t.bc):=fun n'=>aH n'.ext (aH HB7.out HK2.out);have HBB:Hid (∀n':aY W7,Below w.heap.size w n'.val):=fun n'=>aA HB.out (aA HB7.out n'.ext)
     have HTG:Hid (∀n':aY W7,Calls Tryz.prog 167 #[dX pa pn pc ba bn bc,.agg (aQ s)] n'.val fun e w''=>e=.returned (.bool (cU (aG bs) s))∧∃m:aY W7,w''=m.val):=
      fun n'=>cG (sA pa pn pc ba bn bc bs s n'.val (H.out.ext (HBB.out n')) HG.out HCF.out HALL.out)
     have HRG:Hid (∀n':aY W7,Calls Tryz.prog 166 #[dX pa pn pc ba bn bc,.slice t.ba t.bn t.bc,.agg (aQ (bW s x))] n'.val fun e w''=>e=.returned (.bool (iD (aG bs) t.d.blocks (bW s x)))∧∃m:aY W7,w''=m.val):=
      fun n'=>cG (BK pa pn pc ba bn bc bs t.ba t.bn t.bc t.d.blocks (bW s x) n'.val (H.out.ext (HBB.out n')) HG.out (jQ HCF.out x) (fun b hb=>HALL.out b (by simp[bW] at hb;exact hb.2)) (HI.out.ext (HBB.out n')) (fun x hx=>by have:=HBS.out x hx;omega))
     clear hc6 hcs hcf;cases htg:cU (aG bs) s with
     |false=>
      rw[htg,Bool.false_and] at HR;rw[htg] at HTG;clear htg;refine bB (by kernel_rfl) (by kernel_rfl) ?_
      repeat (first
       |go_big_quiet_skip
       |(refine aW (o:=⟨some 57,.load 25 _,_,_,_,_⟩) (by rfl) 25 _ rfl w.heap.size rfl 25 #[.slice pa pn pc,.slice ba bn bc] (0,0) _ qf Tryz.underlying25 rfl aS ?_;simp only[zJ,zG,zH,zI])
       |(refine aW (o:=⟨some 58,.load 107 _,_,_,_,_⟩) (by rfl) 107 _ rfl P rfl 107 _ (0,0) _ qs Tryz.underlying107 rfl (by rw[aF];exact aV) ?_;simp only[zJ,zG,zH,zI])
       |go_big_quiet_step (first
        |(go_at_call 167;exact HTG.out _)))
      refine wpQuiet_nil ?_;intro _ hw';obtain⟨n',rfl⟩:=hw';go_wp2
      go_ret
      exact⟨by rw[HSE.out,HR.out];rfl,HBB.out n'⟩
     |true=>
      rw[htg,Bool.true_and] at HR;rw[htg] at HTG;clear htg;refine bB (by kernel_rfl) (by kernel_rfl) ?_
      repeat (first
       |go_big_quiet_skip
       |(refine aW (o:=⟨some 57,.load 25 _,_,_,_,_⟩) (by rfl) 25 _ rfl w.heap.size rfl 25 #[.slice pa pn pc,.slice ba bn bc] (0,0) _ qf Tryz.underlying25 rfl aS ?_;simp only[zJ,zG,zH,zI])
       |(refine aW (o:=⟨some 58,.load 107 _,_,_,_,_⟩) (by rfl) 107 _ rfl P rfl 107 _ (0,0) _ qs Tryz.underlying107 rfl (by rw[aF];exact aV) ?_;simp only[zJ,zG,zH,zI])
       |(refine aW (o:=⟨some 61,.load 25 _,_,_,_,_⟩) (by rfl) 25 _ rfl w.heap.size rfl 25 #[.slice pa pn pc,.slice ba bn bc] (0,0) _ qf Tryz.underlying25 rfl aS ?_;simp only[zJ,zG,zH,zI])
       |(refine aW (o:=⟨some 67,.load 107 _,_,_,_,_⟩) (by rfl) 107 _ rfl P2 rfl 107 _ (0,0) _ qr Tryz.underlying107 rfl (by rw[aF];exact aV) ?_;simp only[zJ,zG,zH,zI])
       |go_big_quiet_step (first
        |(go_at_call 167;exact HTG.out _)
        |(go_at_call 166;exact HRG.out _)))
      refine wpQuiet_nil ?_;intro _ hw';obtain⟨n',rfl⟩:=hw';go_wp2
      go_ret
      exact⟨by rw[HSE.out,HR.out];rfl,HBB.out n'⟩
   ·have e2:(t.d.kind==2)=false:=by simpa using h2
    by_cases h3:t.d.kind=3
    ·have e3:(t.d.kind==3)=true:=by simp[h3]
     have HR:Hid (dC (aG bs) t.d s=(decide (1<(aM (aG bs) s).length)&&cU (aG bs) s)):=by simp[Hid,dC,h3]
     clear h1 h2 h3 HRG qf qs kB;by_cases hl:1<(aM (aG bs) s).length
     ·have d1:decide ((1:Int)<((aM (aG bs) s).length:Int))=true:=by simp;omega
      have d2:decide (1<(aM (aG bs) s).length)=true:=by simpa using hl
      rw[d2,Bool.true_and] at HR
      go_wp2_with (first
       |(refine bS (o:=⟨some 77,.load 25 _,_,_,_,_⟩) (by rfl) 25 _ rfl w.heap.size rfl 25 _ (0,0) _ HF.out Tryz.underlying25 rfl aS ?_)
       |(refine bS (o:=⟨some 78,.load 107 _,_,_,_,_⟩) (by rfl) 107 _ rfl P rfl 107 _ (0,0) _ HS.out Tryz.underlying107 rfl (by rw[aF];exact aV) ?_)
       |(go_at_call 167
         refine(sA pa pn pc ba bn bc bs s wc (H.out.ext HB.out) HG.out HCF.out HALL.out).mono ?_;rintro e w6 ⟨rfl,hb6⟩;have HB6:=aBO (aA HB.out hb6)
         clear hb6))
      go_ret
      exact⟨by rw[HSE.out,HR.out];rfl,HB6.out⟩
     ·have d1:decide ((1:Int)<((aM (aG bs) s).length:Int))=false:=by simp;omega
      have d2:decide (1<(aM (aG bs) s).length)=false:=by simpa using hl
      rw[d2,Bool.false_and] at HR;go_wp2
      go_ret
      exact⟨by rw[HSE.out,HR.out];rfl,HB.out⟩
    ·have e3:(t.d.kind==3)=false:=by simpa using h3
     by_cases h4:t.d.kind=4
     ·have e4:(t.d.kind==4)=true:=by simp[h4]
      have HR:Hid (dC (aG bs) t.d s=(nG t.d (aM (aG bs) s)&& !iD (aG bs) t.d.blocks s)):=by simp[Hid,dC,h4]
      clear h1 h2 h3 h4;cases ho:nG t.d (aM (aG bs) s) with
      |true=>
       rw[ho,Bool.true_and] at HR;clear ho;go_wp2;refine bB (by kernel_rfl) (by kernel_rfl) ?_
       repeat (first
        |go_big_quiet_skip
        |(refine aW (o:=⟨some 85,.load 25 _,_,_,_,_⟩) (by rfl) 25 _ rfl w.heap.size rfl 25 #[.slice pa pn pc,.slice ba bn bc] (0,0) _ qf Tryz.underlying25 rfl aS ?_;simp only[zJ,zG,zH,zI])
        |(refine aW (o:=⟨some 91,.load 107 _,_,_,_,_⟩) (by rfl) 107 _ rfl P rfl 107 _ (0,0) _ qs Tryz.underlying107 rfl (by rw[aF];exact aV) ?_;simp only[zJ,zG,zH,zI])
        |go_big_quiet_step (first
         |(go_at_call 166;exact HRG.out _)))
       refine wpQuiet_nil ?_;intro _ hw';obtain⟨n',rfl⟩:=hw';go_wp2
       go_ret
       exact⟨by rw[HSE.out,HR.out];rfl,aA HB.out n'.ext⟩
      |false=>
       rw[ho,Bool.false_and] at HR;clear ho;go_wp2;refine bB (by kernel_rfl) (by kernel_rfl) ?_
       repeat (first
        |go_big_quiet_skip
        |go_big_quiet_step (fail))
       refine wpQuiet_nil ?_;intro _ hw';obtain⟨n',rfl⟩:=hw';go_wp2
       go_ret
       exact⟨by rw[HSE.out,HR.out];rfl,aA HB.out n'.ext⟩
     ·have e4:(t.d.kind==4)=false:=by simpa using h4
      have HR:Hid (dC (aG bs) t.d s=false):=by simp[Hid,dC,h1,h2,h3,h4]
      clear h1 h2 h3 h4;go_wp2
      go_ret
      exact⟨by rw[HSE.out,HR.out];rfl,HB.out⟩
end
end Go.Proofs.YtblhmdhfhaencaaGreat
