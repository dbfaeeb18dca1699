/-
 Tile:Right.
-/
import Derived.Test.YtnmkjliioogbgaaGreatDoorTR
import Derived.Test.YtnmkjliioogbgaaGreatDoorTT
import Derived.Test.YtnmkjliioogbgaaGreatDoorTU
import Derived.Test.YtnmkjliioogbgaaGreatDoorTH
namespace Go.Proofs.YtnmkjliioogbgaaGreatDoor
set_option linter.unusedSimpArgs false
set_option linter.unusedVariables false
set_option linter.unusedSectionVars false
set_option maxRecDepth 100000
set_option maxHeartbeats 40000000
section
open Go.RowKit Go.Shelf
attribute [local go_sem] Oper.semAt_some wide_fn wide_depth wide_fnR wide_depthR
theorem listS_least{f:Nat→Bool}{b:Nat}{l:List Nat}(h:listS f=b :: l){x:Nat}(hx:x∈listS f):b≤x:=by
 have hp:(listS f).Pairwise (· < ·):=List.pairwise_lt_range.filter _
 rw[h] at hp hx
 rcases List.mem_cons.1 hx with rfl|hx
 ·exact Nat.le_refl _
 ·have:=(List.pairwise_cons.1 hp).1 x hx;omega
theorem mis_no{l:List TileD}{k:Nat}(h:misB l k=false):(l.getD k zTile).blocks.length≠0:=by
 simp only[misB,Bool.or_eq_false_iff] at h
 have:=h.1.2
 simpa using this
theorem stands_facts{n:Nat}{l:List TileD}{k:Nat}(hk:k<l.length)(hp:parentsB l=true)(hn:n≤200)(h:standsB n l k=true):
  (∀x∈(l.getD k zTile).blocks,0≤x∧x<n)∧∀b r,listS (setK l k)=b :: r→b<n:=by
 rw[stands_mis,Bool.and_eq_true] at h
 have h1:=mis_no (by simpa using h.1)
 have h2:=(rising_iff _ _).1 h.2
 have h3:∀x∈(l.getD k zTile).blocks,0≤x∧x<n:=fun x hx=>by
  obtain⟨i,hi,rfl⟩:=List.getElem_of_mem hx;have:=(h2 i hi).1;rw[List.getD_eq_getElem?_getD (l:=(l.getD k zTile).blocks),List.getElem?_eq_getElem hi] at this;exact this
 refine⟨h3,fun b r hb=>?_⟩
 obtain⟨x,r',hx⟩:∃x r',(l.getD k zTile).blocks=x :: r':=by
  cases e:(l.getD k zTile).blocks with
  |nil=>rw[e] at h1;simp at h1
  |cons x r'=>exact⟨x,r',rfl⟩
 have hx1:=h3 x (by rw[hx];simp)
 have hm:x∈allL l k:=(mem_allL l k hk hp x).2 ⟨k,hk,descB_self l k,by rw[blkL,hx];simp⟩
 have hs:setK l k x.toNat=true:=by
  simp only[setK,ofS,Bool.and_eq_true,decide_eq_true_eq];refine⟨by omega,?_⟩;rw[show((x.toNat:Nat):Int)=x by omega];simpa using hm
 have:=listS_least hb ((mem_listS (of_canon _) _).2 hs)
 omega
theorem tright_any(pa:Option Addr)(pn pc:Nat)(ba:Option Addr)(bn bc:Nat)(bs:List BlkH)(a:Option Addr)(n c:Nat)(ls:List TileR)(w:World)(h:BlksOK w ba bn bs)(ht:TilesOK w a n ls)(hT:totL (tdOf ls)≤1000000):
  Calls Tryz.prog 42 #[funcV pa pn pc ba bn bc,.slice a n c] w fun e w'=>e=.returned (.bool (rightB (tsOf bs) (tdOf ls)))∧Below w.heap.size w w':=by
 have hn:=ht.1.2.1
 have HLN:=Lib.hid ht.1.1
 have H:=Lib.hid h
 have HT:=Lib.hid ht
 have HTOT:=Lib.hid hT
 clear h ht hT
 go_enter Tryz.func42,Tryz.ntmps42
 go_upto_region 1 with (fail)
 obtain⟨W,hW⟩:∃W,W=w.alloc (funcO pa pn pc ba bn bc):=⟨_,rfl⟩
 rw[←hW]
 have hk0:W.heap[w.heap.size]? =some (funcO pa pn pc ba bn bc):=by rw[hW];exact heap_alloc_new _ _
 have hB:Below w.heap.size w W:=by rw[hW];exact ext_alloc _ _
 have HK:=Lib.hid hk0
 have HB:=Lib.hid hB
 clear hW hk0 hB
 cases hf:fitsB (tsOf bs) with
 |false=>
  have HE:Hid (rightB (tsOf bs) (tdOf ls)=false):=by simp[Hid,rightB,hf]
  have HF:=Lib.hid hf;clear hf
  go_wp2_with (first
   |(refine wpList_load_row (o:=⟨some 10,.load 40 _,_,_,_,_⟩) rfl 40 _ rfl w.heap.size rfl 40 _ (0,0) _ HK.out Tryz.underlying40 rfl size_func ?_)
   |(go_at_call 55
     refine(over_any pa pn pc ba bn bc bs W (H.out.ext HB.out)).mono ?_;rintro e w2 ⟨cs,rfl,hcs,hall,hb,hokk⟩;rw[HF.out];have HB2:=Lib.hid (ext_trans HB.out hb);have HCS:=Lib.hid hcs;have HALL:=Lib.hid hall
     clear hb hokk hcs hall)
   |(refine wpList_store_row rfl 133 _ _ rfl w2.heap.size cs rfl rfl 133 _ (heap_alloc_new w2 walkZ) (by rw[HCS.out];exact size_walk) (by rw[HCS.out];rfl) HALL.out ?_))
  go_ret
  exact⟨(congrArg (fun b=>Ending.returned (Value.bool b)) HE.out).symm,below_setRow (HB2.out.alloc HB2.out.size _) HB2.out.size _⟩
 |true=>
  have HF:=Lib.hid hf;have hgood:=(goodB_iff _).1 (fits_good hf);have hbn:(tsOf bs).length=bn:=by rw[tsOf_len];exact H.out.1.1
  have hbn1:1≤bn:=by rw[←hbn];exact hgood.1.1
  have hbn2:bn≤200:=by rw[←hbn];exact hgood.1.2
  have HBN:Hid (bn≤200):=hbn2;have HTL:Hid ((tsOf bs).length=bn):=hbn;clear hf hgood hbn
  go_upto_region 2 with (first
   |(refine wpList_load_row (o:=⟨some 10,.load 40 _,_,_,_,_⟩) rfl 40 _ rfl w.heap.size rfl 40 _ (0,0) _ HK.out Tryz.underlying40 rfl size_func ?_)
   |(go_at_call 55
     refine(over_any pa pn pc ba bn bc bs W (H.out.ext HB.out)).mono ?_;rintro e w2 ⟨cs,rfl,hcs,hall,hb,hokk⟩;rw[HF.out];obtain⟨ta,tc,fa,fc,hcv,hwk⟩:=hokk HF.out;injection hcv with hcv;subst hcv;have HB2:=Lib.hid (ext_trans HB.out hb);have HWK:=Lib.hid hwk
     clear hb hokk hcs hall hwk)
   |(refine wpList_store_row rfl 133 _ _ rfl w2.heap.size #[.slice pa pn pc,.slice ba bn bc,.slice ta bn tc,.slice fa bn fc] rfl rfl 133 _ (heap_alloc_new w2 walkZ) size_walk rfl rfl ?_))
  obtain⟨W3,hW3⟩:∃W3,W3=w2.alloc (walkO ⟨pa,pn,pc,ba,bn,bc,ta,tc,fa,fc⟩):=⟨_,rfl⟩
  rw[←hW3];have hw3:W3.heap[w2.heap.size]? =some (walkO ⟨pa,pn,pc,ba,bn,bc,ta,tc,fa,fc⟩):=by rw[hW3];exact heap_alloc_new _ _
  have HW3:=Lib.hid hw3;have HB3':Below w2.heap.size w2 W3:=by rw[hW3];exact ext_alloc _ _
  have HB3:=Lib.hid (ext_trans HB2.out HB3');have HWK3:=Lib.hid (HWK.out.ext HB3');have hPW:w.heap.size≤w2.heap.size:=HB2.out.size;clear hW3 hw3 HB3' HWK HB2;generalize w2.heap.size=PW at *;by_cases hl:n≤200
  ·have dl:decide ((n:Int)>200)=false:=by simp;omega
   have dl2:decide ((200:Int)<(n:Int))=false:=by simp;omega
   cases hpar:parentsB (tdOf ls) with
   |false=>
    have HE:Hid (rightB (tsOf bs) (tdOf ls)=false):=by simp[Hid,rightB,hpar]
    have HPAR:=Lib.hid hpar;clear hpar
    go_wp2_with (go_at_call 56
                 refine(parents_any a n c ls W3 (HT.out.ext HB3.out)).mono ?_;rintro e w4 ⟨rfl,hb4⟩;rw[HPAR.out];have HB4:=Lib.hid (ext_trans HB3.out hb4)
                 clear hb4)
    go_ret
    exact⟨(congrArg (fun b=>Ending.returned (Value.bool b)) HE.out).symm,HB4.out⟩
   |true=>
    have HPAR:=Lib.hid hpar;clear hpar
    go_upto_region 4 with (go_at_call 56
                           refine(parents_any a n c ls W3 (HT.out.ext HB3.out)).mono ?_;rintro e w4 ⟨rfl,hb4⟩;rw[HPAR.out];have HB4:=Lib.hid (ext_trans HB3.out hb4);have HW4:=Lib.hid (block_ext hb4 HW3.out);have HWK4:=Lib.hid (HWK3.out.ext hb4)
                           clear hb4)
    clear HW3 HWK3 HB3
    go_upto_region 5 with (first
     |(refine wpList_load_row (o:=⟨some 26,.load 133 _,_,_,_,_⟩) rfl 133 _ rfl PW rfl 133 _ (0,0) _ HW4.out Tryz.underlying133 rfl size_walk ?_)
     |(go_at_call 57
       refine(own_any ⟨pa,pn,pc,ba,bn,bc,ta,tc,fa,fc⟩ hbn1 hbn2 a n c ls w4 (HT.out.ext HB4.out)).mono ?_;rintro e w5 ⟨v,rfl,hb5,ho1,ho2⟩;have HB5:=Lib.hid (ext_trans HB4.out hb5);have HW5:=Lib.hid (block_ext hb5 HW4.out);have HWK5:=Lib.hid (HWK4.out.ext hb5);have HO1:=Lib.hid ho1;have HO2:=Lib.hid ho2
       clear hb5 ho1 ho2))
    clear HW4 HWK4 HB4;cases hob:ownB (tdOf ls) bn with
    |false=>
     have hv:v=.slice none 0 0:=HO2.out hob;subst hv;have HE:Hid (rightB (tsOf bs) (tdOf ls)=false):=by simp[Hid,rightB,HTL.out,hob]
     clear hob HO1 HO2;have hq:=fun w n c n' c'=>Lib.run_eql_slice_nil (P:=Tryz.prog) w 22 3 none n c n' c' Tryz.underlying22;go_wp2
     go_ret
     exact⟨(congrArg (fun b=>Ending.returned (Value.bool b)) HE.out).symm,HB5.out⟩
    |true=>
     obtain⟨g,cc,rfl,ho⟩:=HO1.out hob;have HOB:=Lib.hid hob;obtain⟨b0,o0,e0,hc0,_⟩:=ho.ints.2.2 0 (by omega);injection e0 with e0;injection e0 with e1 e2;subst e1 e2;have hv0:(ownL (tdOf ls) bn).getD 0 0=(ownF (tdOf ls) 0:Int):=by
      have:(List.range bn)[0]? =some 0:=by rw[List.getElem?_range (by omega)]
      simp[ownL,List.getD_eq_getElem?_getD,this]
     rw[hv0] at hc0;clear hob HO1 HO2 ho hv0;have hq:=fun w n c n' c'=>Lib.run_eql_slice_nil (P:=Tryz.prog) w 22 3 (some ⟨g,0,none⟩) n c n' c' Tryz.underlying22;by_cases hz:ownF (tdOf ls) 0=0
     ·rw[hz] at hc0;have HZ:=Lib.hid hz;clear hz;go_wp2
      go_loopw [8,39] (fun _ i wr=>∃(k:Nat),k≤n∧i=.int .i64 k∧Hid (∀j,j<k→(standsB bn (tdOf ls) j&&holdsB (tsOf bs) ((tdOf ls).getD j zTile) (setK (tdOf ls) j))=true)∧Hid (wr.heap[PW]? =some (walkO ⟨pa,pn,pc,ba,bn,bc,ta,tc,fa,fc⟩))∧Hid (WalkOK wr ⟨pa,pn,pc,ba,bn,bc,ta,tc,fa,fc⟩ (tsOf bs))∧Hid (Below w.heap.size w wr)) (fun _ i _=>n-(intOf i).toNat)
      case atStart=>exact⟨0,by omega,rfl,fun j hj=>absurd hj (by omega),HW5,HWK5,HB5⟩
      case round=>
       obtain⟨k,hk,rfl,HR,HW4,HWK4,HB4⟩:=hrel;have HB50:=HB5;clear HB5 HW5 HWK5 hc0;by_cases hlt:k<n
       ·have hkl:k<(tdOf ls).length:=by rw[tdOf_len,HLN.out];exact hlt
        obtain⟨t,b,o,hlk,⟨hI,hcap,hI1,hI2⟩,rfl,c0,c1,c2⟩:=(HT.out.ext HB4.out).cells hlt;have htd:=tdOf_at ls k t hlk;have C0:=Lib.hid c0;have C1:=Lib.hid c1;have C2:=Lib.hid c2;have HKD:Hid (I64 t.d.kind):=hI1;have HNO:Hid ((standsB bn (tdOf ls) k&&holdsB (tsOf bs) t.d (setK (tdOf ls) k))=false→rightB (tsOf bs) (tdOf ls)=false):=fun h=>by
         rw[Bool.eq_false_iff];intro h2;simp only[rightB,Bool.and_eq_true,List.all_eq_true,List.mem_range] at h2;have h3:=h2.2 k hkl;rw[htd,HTL.out] at h3;rw[h3.1,h3.2] at h;cases h
        have HYES:Hid ((standsB bn (tdOf ls) k&&holdsB (tsOf bs) t.d (setK (tdOf ls) k))=true→Hid (∀j,j<k+1→(standsB bn (tdOf ls) j&&holdsB (tsOf bs) ((tdOf ls).getD j zTile) (setK (tdOf ls) j))=true)):=fun h j hj=>by
         by_cases e:j=k
         ·subst e;rw[htd];exact h
         ·exact HR.out j (by omega)
        clear c0 c1 c2 hlk hI1 hI2 hcap HR;cases hst:standsB bn (tdOf ls) k with
        |false=>
         have HE:=Lib.hid (HNO.out (by rw[hst];rfl));have HSTD:=Lib.hid hst;have HSQ:Hid (∀n':ExtW wr,Calls Tryz.prog 58 #[walkV ⟨pa,pn,pc,ba,bn,bc,ta,tc,fa,fc⟩,.slice (some ⟨b,o,none⟩) n c,.int .i64 (k:Int)] n'.val fun e w''=>e=.returned (.bool false)∧∃m:ExtW wr,w''=m.val):=fun n'=>by
          have:=stands_any ⟨pa,pn,pc,ba,bn,bc,ta,tc,fa,fc⟩ HBN.out (some ⟨b,o,none⟩) n c ls k n'.val (HT.out.ext (ext_trans HB4.out n'.ext)) hlt HPAR.out;rw[HSTD.out] at this;exact quiet_ext this
         clear hst htd hI;go_upto_region 10 with (fail)
         refine region_ext (by kernel_rfl) (by kernel_rfl) ?_
         repeat (first
          |go_big_quiet_skip
          |(refine wpQuiet_load_row (o:=⟨some 42,.load 133 _,_,_,_,_⟩) (by rfl) 133 _ rfl PW rfl 133 #[.slice pa pn pc,.slice ba bn bc,.slice ta bn tc,.slice fa bn fc] (0,0) _ (by rintro _ ⟨n,rfl⟩;exact block_ext n.ext HW4.out) Tryz.underlying133 rfl size_walk ?_;simp only[zJ,zG,zH,zI])
          |go_big_quiet_step (first
           |(go_at_call 58;exact HSQ.out _)))
         refine wpQuiet_nil ?_;intro _ hw';obtain⟨n',rfl⟩:=hw';go_wp2
         go_ret
         exact⟨(congrArg (fun b=>Ending.returned (Value.bool b)) HE.out).symm,ext_trans HB4.out n'.ext⟩
        |true=>
         have hsf:=stands_facts hkl HPAR.out HBN.out hst;rw[htd] at hsf;have HBLK:=Lib.hid hsf.1;have HLE:=Lib.hid hsf.2;have HIN:=Lib.hid hI;have HSTD:=Lib.hid hst;clear hst htd hI hsf;go_upto_region 10 with (fail)
         refine region_free 18 [some 42,some 43,some 44,some 45,some 46,some 47,some 48,some 49,some 50,some 51,some 52,some 53,some 54,some 55,some 56,some 57,some 58,some 59] (by kernel_rfl) (by kernel_rfl) (specB [.val (walkV ⟨pa,pn,pc,ba,bn,bc,ta,tc,fa,fc⟩),.val (.slice (some ⟨b,o,none⟩) n c),.val (.int .i64 (k:Int)),.val (.bool true),.val (.bool false),.val (.bool false),.val (walkV ⟨pa,pn,pc,ba,bn,bc,ta,tc,fa,fc⟩),.val (.slice (some ⟨b,o,none⟩) n c),.val (.int .i64 (k:Int)),.val (.pointer (some ⟨b,o+k*3,none⟩)),.val (tileV t),.val (.slice (some ⟨b,o,none⟩) n c),.val (.int .i64 (k:Int)),(.any fun v lo hi W=>∃al cl,v=.slice al (allL (tdOf ls) (k:Int)).length cl∧OwnI W lo v (allL (tdOf ls) (k:Int))),.val (.agg (setA (setK (tdOf ls) k))),.val (.bool (holdsB (tsOf bs) t.d (setK (tdOf ls) k))),.val (.bool (!holdsB (tsOf bs) t.d (setK (tdOf ls) k))),.val (.bool (!holdsB (tsOf bs) t.d (setK (tdOf ls) k)))]) (specB_mono ?_) ?_ ?_
         ·intro k hk;simp only[List.mem_cons,List.not_mem_nil,or_false] at hk;rcases hk with rfl|rfl|rfl|rfl|rfl|rfl|rfl|rfl|rfl|rfl|rfl|rfl|rfl|rfl|rfl|rfl|rfl|rfl
          ·exact trivial
          ·exact trivial
          ·exact trivial
          ·exact trivial
          ·exact trivial
          ·exact trivial
          ·exact trivial
          ·exact trivial
          ·exact trivial
          ·exact trivial
          ·exact trivial
          ·exact trivial
          ·exact trivial
          ·intro v lo hi w w' hb ⟨al,cl,e,ho⟩;exact⟨al,cl,e,ho.ext hb⟩
          ·exact trivial
          ·exact trivial
          ·exact trivial
          ·exact trivial
         ·intro i hi ν lo hi' w1 K hB hD hK;have hcase:i=0∨i=1∨i=2∨i=3∨i=4∨i=5∨i=6∨i=7∨i=8∨i=9∨i=10∨i=11∨i=12∨i=13∨i=14∨i=15∨i=16∨i=17:=by omega
          clear hi;rcases hcase with rfl|rfl|rfl|rfl|rfl|rfl|rfl|rfl|rfl|rfl|rfl|rfl|rfl|rfl|rfl|rfl|rfl|rfl
          ·clear hD;refine wpOp_atK rfl rfl ?_;simp only[zA,zB,zC,zD,zE,zF,zJ,zK,zG,zH,zI] at hK⊢;refine wp_load_row 133 _ rfl PW rfl 133 _ (0,0) _ (block_ext hB HW4.out) Tryz.underlying133 rfl size_walk ?_;exact hK _ _ (Below.refl _ _) rfl
          ·clear hD;refine wpOp_atK rfl rfl ?_;simp only[zA,zB,zC,zD,zE,zF,zJ,zK,zG,zH,zI] at hK⊢;go_simp;exact hK _ _ (Below.refl _ _) rfl
          ·clear hD;refine wpOp_atK rfl rfl ?_;simp only[zA,zB,zC,zD,zE,zF,zJ,zK,zG,zH,zI] at hK⊢;go_simp;exact hK _ _ (Below.refl _ _) rfl
          ·have e0:=hD 0 (by kernel_rfl)
           replace e0:ν 0=(walkV ⟨pa,pn,pc,ba,bn,bc,ta,tc,fa,fc⟩):=e0
           have e1:=hD 1 (by kernel_rfl)
           replace e1:ν 1=(.slice (some ⟨b,o,none⟩) n c):=e1
           have e2:=hD 2 (by kernel_rfl)
           replace e2:ν 2=(.int .i64 (k:Int)):=e2
           clear hD;refine wpOp_atK rfl rfl ?_;simp only[zA,zB,zC,zD,zE,zF,zJ,zK,zG,zH,zI,e0,e1,e2] at hK⊢;go_simp;refine(stands_any ⟨pa,pn,pc,ba,bn,bc,ta,tc,fa,fc⟩ HBN.out (some ⟨b,o,none⟩) n c ls k w1 (HT.out.ext (ext_trans HB4.out hB)) hlt HPAR.out).mono ?_;rintro e w3 ⟨rfl,hb3⟩;rw[HSTD.out];exact hK _ _ hb3 rfl
          ·have e3:=hD 3 (by kernel_rfl)
           replace e3:ν 3=(.bool true):=e3
           clear hD;refine wpOp_atK rfl rfl ?_;simp only[zA,zB,zC,zD,zE,zF,zJ,zK,zG,zH,zI,e3] at hK⊢;go_simp;exact hK _ _ (Below.refl _ _) rfl
          ·have e3:=hD 3 (by kernel_rfl)
           replace e3:ν 3=(.bool true):=e3
           have e4:=hD 4 (by kernel_rfl)
           replace e4:ν 4=(.bool false):=e4
           clear hD;refine wpOp_atK rfl rfl ?_;simp only[zA,zB,zC,zD,zE,zF,zJ,zK,zG,zH,zI,e3,e4] at hK⊢;go_simp;exact hK _ _ (Below.refl _ _) rfl
          ·have e5:=hD 5 (by kernel_rfl)
           replace e5:ν 5=(.bool false):=e5
           clear hD;simp only[zA,zB,zC,zD,zE,zF,zJ,zK,zG,zH,zI,e5] at hK⊢;refine wpOp_atW rfl (by rfl) ?_;refine wp_load_row 133 _ rfl PW rfl 133 _ (0,0) _ (block_ext hB HW4.out) Tryz.underlying133 rfl size_walk ?_;exact hK _ _ (Below.refl _ _) rfl
          ·have e5:=hD 5 (by kernel_rfl)
           replace e5:ν 5=(.bool false):=e5
           clear hD;simp only[zA,zB,zC,zD,zE,zF,zJ,zK,zG,zH,zI,e5] at hK⊢;refine wpOp_atW rfl (by rfl) ?_;go_simp;exact hK _ _ (Below.refl _ _) rfl
          ·have e5:=hD 5 (by kernel_rfl)
           replace e5:ν 5=(.bool false):=e5
           clear hD;simp only[zA,zB,zC,zD,zE,zF,zJ,zK,zG,zH,zI,e5] at hK⊢;refine wpOp_atW rfl (by rfl) ?_;go_simp;exact hK _ _ (Below.refl _ _) rfl
          ·have e5:=hD 5 (by kernel_rfl)
           replace e5:ν 5=(.bool false):=e5
           have e7:=hD 7 (by kernel_rfl)
           replace e7:ν 7=(.slice (some ⟨b,o,none⟩) n c):=e7
           have e8:=hD 8 (by kernel_rfl)
           replace e8:ν 8=(.int .i64 (k:Int)):=e8
           clear hD;simp only[zA,zB,zC,zD,zE,zF,zJ,zK,zG,zH,zI,e5,e7,e8] at hK⊢;refine wpOp_atW rfl (by rfl) ?_;go_simp;exact hK _ _ (Below.refl _ _) rfl
          ·have e5:=hD 5 (by kernel_rfl)
           replace e5:ν 5=(.bool false):=e5
           have e9:=hD 9 (by kernel_rfl)
           replace e9:ν 9=(.pointer (some ⟨b,o+k*3,none⟩)):=e9
           clear hD;simp only[zA,zB,zC,zD,zE,zF,zJ,zK,zG,zH,zI,e5,e9] at hK⊢;refine wpOp_atW rfl (by rfl) ?_;have c0':=cell_ext hB C0.out;have c1':=cell_ext hB C1.out;have c2':=cell_ext hB C2.out;go_simp;exact hK _ _ (Below.refl _ _) rfl
          ·have e5:=hD 5 (by kernel_rfl)
           replace e5:ν 5=(.bool false):=e5
           clear hD;simp only[zA,zB,zC,zD,zE,zF,zJ,zK,zG,zH,zI,e5] at hK⊢;refine wpOp_atW rfl (by rfl) ?_;go_simp;exact hK _ _ (Below.refl _ _) rfl
          ·have e5:=hD 5 (by kernel_rfl)
           replace e5:ν 5=(.bool false):=e5
           clear hD;simp only[zA,zB,zC,zD,zE,zF,zJ,zK,zG,zH,zI,e5] at hK⊢;refine wpOp_atW rfl (by rfl) ?_;go_simp;exact hK _ _ (Below.refl _ _) rfl
          ·have e5:=hD 5 (by kernel_rfl)
           replace e5:ν 5=(.bool false):=e5
           have e11:=hD 11 (by kernel_rfl)
           replace e11:ν 11=(.slice (some ⟨b,o,none⟩) n c):=e11
           have e12:=hD 12 (by kernel_rfl)
           replace e12:ν 12=(.int .i64 (k:Int)):=e12
           clear hD;simp only[zA,zB,zC,zD,zE,zF,zJ,zK,zG,zH,zI,e5,e11,e12] at hK⊢;refine wpOp_atW rfl (by rfl) ?_;go_simp;refine(all_any (some ⟨b,o,none⟩) n c ls (k:Int) w1 (HT.out.ext (ext_trans HB4.out hB)) (by unfold I64;omega) HTOT.out).mono ?_;rintro e w3 ⟨v,rfl,ho,hb3⟩;obtain⟨al,cl,rfl⟩:=ho.form;exact hK _ _ hb3 ⟨al,cl,rfl,ho⟩
          ·have e5:=hD 5 (by kernel_rfl)
           replace e5:ν 5=(.bool false):=e5
           have e13:=hD 13 (by kernel_rfl);unfold specB at e13;simp only[List.getD_cons_zero,List.getD_cons_succ,specK] at e13;clear hD;simp only[zA,zB,zC,zD,zE,zF,zJ,zK,zG,zH,zI,e5] at hK⊢;refine wpOp_atW rfl (by rfl) ?_;obtain⟨al,cl,e13',ho3⟩:=e13;simp only[e13'] at hK⊢;rw[e13'] at ho3;go_simp;refine(of_any al _ cl (allL (tdOf ls) (k:Int)) w1 ho3.ints).mono ?_;rintro e w3 ⟨rfl,hb3⟩;exact hK _ _ hb3 rfl
          ·have e5:=hD 5 (by kernel_rfl)
           replace e5:ν 5=(.bool false):=e5
           have e6:=hD 6 (by kernel_rfl)
           replace e6:ν 6=(walkV ⟨pa,pn,pc,ba,bn,bc,ta,tc,fa,fc⟩):=e6
           have e10:=hD 10 (by kernel_rfl)
           replace e10:ν 10=(tileV t):=e10
           have e14:=hD 14 (by kernel_rfl)
           replace e14:ν 14=(.agg (setA (setK (tdOf ls) k))):=e14
           clear hD;simp only[zA,zB,zC,zD,zE,zF,zJ,zK,zG,zH,zI,e5,e6,e10,e14] at hK⊢;refine wpOp_atW rfl (by rfl) ?_;go_simp;refine(holds_any ⟨pa,pn,pc,ba,bn,bc,ta,tc,fa,fc⟩ (tsOf bs) t (setK (tdOf ls) k) w1 (HWK4.out.ext hB) (fits_good HF.out) (of_canon _) (HIN.out.ext hB) HKD.out HBLK.out HLE.out).mono ?_;rintro e w3 ⟨rfl,hb3⟩;exact hK _ _ hb3 rfl
          ·have e5:=hD 5 (by kernel_rfl)
           replace e5:ν 5=(.bool false):=e5
           have e15:=hD 15 (by kernel_rfl)
           replace e15:ν 15=(.bool (holdsB (tsOf bs) t.d (setK (tdOf ls) k))):=e15
           clear hD;simp only[zA,zB,zC,zD,zE,zF,zJ,zK,zG,zH,zI,e5,e15] at hK⊢;refine wpOp_atW rfl (by rfl) ?_;go_simp;exact hK _ _ (Below.refl _ _) rfl
          ·have e5:=hD 5 (by kernel_rfl)
           replace e5:ν 5=(.bool false):=e5
           have e16:=hD 16 (by kernel_rfl)
           replace e16:ν 16=(.bool (!holdsB (tsOf bs) t.d (setK (tdOf ls) k))):=e16
           clear hD;refine wpOp_atK rfl rfl ?_;simp only[zA,zB,zC,zD,zE,zF,zJ,zK,zG,zH,zI,e5,e16] at hK⊢;go_simp;exact hK _ _ (Below.refl _ _) rfl
         ·intro ν lo hi w1 hB hS hI hD;have e0:ν 0=(walkV ⟨pa,pn,pc,ba,bn,bc,ta,tc,fa,fc⟩):=hS 0 (by omega);have e1:ν 1=(.slice (some ⟨b,o,none⟩) n c):=hS 1 (by omega);have e2:ν 2=(.int .i64 (k:Int)):=hS 2 (by omega);have e3:ν 3=(.bool true):=hS 3 (by omega);have e4:ν 4=(.bool false):=hS 4 (by omega);have e5:ν 5=(.bool false):=hS 5 (by omega);have e6:ν 6=(walkV ⟨pa,pn,pc,ba,bn,bc,ta,tc,fa,fc⟩):=hS 6 (by omega);have e7:ν 7=(.slice (some ⟨b,o,none⟩) n c):=hS 7 (by omega);have e8:ν 8=(.int .i64 (k:Int)):=hS 8 (by omega);have e9:ν 9=(.pointer (some ⟨b,o+k*3,none⟩)):=hS 9 (by omega);have e10:ν 10=(tileV t):=hS 10 (by omega);have e11:ν 11=(.slice (some ⟨b,o,none⟩) n c):=hS 11 (by omega);have e12:ν 12=(.int .i64 (k:Int)):=hS 12 (by omega);have e13:=hS 13 (by omega);unfold specB at e13;simp only[List.getD_cons_zero,List.getD_cons_succ,specK] at e13;have e14:ν 14=(.agg (setA (setK (tdOf ls) k))):=hS 14 (by omega);have e15:ν 15=(.bool (holdsB (tsOf bs) t.d (setK (tdOf ls) k))):=hS 15 (by omega);have e16:ν 16=(.bool (!holdsB (tsOf bs) t.d (setK (tdOf ls) k))):=hS 16 (by omega);have e17:ν 17=(.bool (!holdsB (tsOf bs) t.d (setK (tdOf ls) k))):=hS 17 (by omega);clear hS;simp only[List.drop_succ_cons,List.drop_zero,zA,zB,zC,zD,zE,zF,zJ,zK,zG,zH,zI,e0,e1,e2,e3,e4,e5,e6,e7,e8,e9,e10,e11,e12,e14,e15,e16,e17];have HB5:=Lib.hid (ext_trans HB4.out hB);have HW5:=Lib.hid (block_ext hB HW4.out);have HWK5:=Lib.hid (HWK4.out.ext hB);clear hI hD hB e0 e1 e2 e3 e4 e5 e6 e7 e8 e9 e10 e11 e12 e13 e14 e15 e16 e17;cases hh:holdsB (tsOf bs) t.d (setK (tdOf ls) k) with
          |false=>
           have hE:=Lib.hid (HNO.out (by rw[HSTD.out,hh];rfl));simp only[hh,Bool.not_false];clear hh;go_wp2
           go_ret
           exact⟨(congrArg (fun b=>Ending.returned (Value.bool b)) hE.out).symm,HB5.out⟩
          |true=>
           have hE:=Lib.hid (HYES.out (by rw[HSTD.out,hh];rfl));simp only[hh,Bool.not_true];clear hh;go_wp2
           go_roundw
           case rel=>exact⟨k+1,by omega,by go_num,hE,HW5,HWK5,HB5⟩
           case measure=>simp[intOf];omega
       ·obtain rfl:k=n:=by omega
        have HE:Hid (rightB (tsOf bs) (tdOf ls)=true):=by
         have h1:∀k,k<(tdOf ls).length→standsB bn (tdOf ls) k=true∧holdsB (tsOf bs) ((tdOf ls).getD k zTile) (setK (tdOf ls) k)=true:=fun j hj=>by
          rw[tdOf_len,HLN.out] at hj;have:=HR.out j hj
          rwa [Bool.and_eq_true] at this
         simp only[Hid,rightB,Bool.and_eq_true,List.all_eq_true,List.mem_range,HTL.out,decide_eq_true_eq];exact⟨⟨⟨⟨⟨HF.out,by rw[tdOf_len,HLN.out];exact hl⟩,HPAR.out⟩,HOB.out⟩,by rw[HZ.out];rfl⟩,h1⟩
        clear HR;go_wp2
        go_ret
        exact⟨(congrArg (fun b=>Ending.returned (Value.bool b)) HE.out).symm,HB4.out⟩
     ·have HE:Hid (rightB (tsOf bs) (tdOf ls)=false):=by simp[Hid,rightB,hz]
      have dz:(((ownF (tdOf ls) 0:Nat):Int) != 0)=true:=by simpa using hz
      clear hz;go_wp2
      go_ret
      exact⟨(congrArg (fun b=>Ending.returned (Value.bool b)) HE.out).symm,HB5.out⟩
  ·have dl:decide ((n:Int)>200)=true:=by simp;omega
   have dl2:decide ((200:Int)<(n:Int))=true:=by simp;omega
   have HE:Hid (rightB (tsOf bs) (tdOf ls)=false):=by
    have:¬(tdOf ls).length≤200:=by rw[tdOf_len,HLN.out];exact hl
    simp[Hid,rightB,this]
   clear hl;go_wp2
   go_ret
   exact⟨(congrArg (fun b=>Ending.returned (Value.bool b)) HE.out).symm,HB3.out⟩
end
end Go.Proofs.YtnmkjliioogbgaaGreatDoor
