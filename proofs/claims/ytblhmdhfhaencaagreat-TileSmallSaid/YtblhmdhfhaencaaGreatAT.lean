/-
 The walk of intarsiakit.flatTiles:rows of records that lie apart. (Printed by gen_flat.py.)
-/
import Derived.Test.YtblhmdhfhaencaaGreatFlatRec
import Derived.Test.YtblhmdhfhaencaaGreatAI2
import Derived.Test.YtblhmdhfhaencaaGreatRU
import Derived.Test.YtblhmdhfhaencaaGreatTF
import Derived.Test.YtblhmdhfhaencaaGreatDF
import Derived.Test.YtblhmdhfhaencaaGreatQB
namespace Go.Proofs.YtblhmdhfhaencaaGreat
set_option linter.unusedSimpArgs false
set_option linter.unusedVariables false
set_option linter.unusedSectionVars false
set_option maxRecDepth 100000
set_option maxHeartbeats 40000000
section
open Go.RowKit
attribute [local go_sem] Oper.semAt_some cT bM cC bG
def eR(k i:Nat):List Value:= [.int .i64 0,.int .i64 (fI (k:Int) (i:Int)),.slice none 0 0]
theorem gJ(k i:Nat):(eR k i).length=3:=rfl
theorem wS(k i:Nat):(Tryz.prog.info? 76).map (·.size)=some (eR k i).length:=by rw[gJ];kernel_rfl
theorem PU(k i:Nat):(Tryz.prog.info? 76).map (·.size)=some (eR k i).toArray.size:=by rw[List.size_toArray];exact wS k i
abbrev lI(k i:Nat):Value:=.agg (eR k i).toArray
theorem lQ(k i:Nat)(w:World)(hk:k≤100000000)(hi:i≤100000000):
  Calls Tryz.prog 55 #[.int .i64 (k:Int),.int .i64 (i:Int)] w fun e w'=>e=.returned (lI k i)∧Below w.heap.size w w':=by
 go_enter Tryz.func55,Tryz.ntmps55
 go_wp2_with (first
  |(go_at_call 112;refine(iS _ _ _ (by omega) (by omega)).mono ?_;rintro e w' ⟨rfl,rfl⟩)
  |(refine eC rfl 76 _ _ rfl w.heap.size #[.int .i64 0,.int .i64 (fI (k:Int) (i:Int)),.slice none 0 0] rfl rfl 76 _ (aBS w _) (by kernel_rfl) rfl (by simp[Value.oneCell']) w.heap.size w (aD w _) (aBV _) ?_
    intro W3 hb3 X3;have HX:=aBO hb3;have j0:W3.cell? ⟨w.heap.size,0,none⟩=some (.int .i64 0):=by rw[aBP _ _ _ _ _ _ X3];rfl
    have j1:W3.cell? ⟨w.heap.size,1,none⟩=some (.int .i64 (fI (k:Int) (i:Int))):=by rw[aBP _ _ _ _ _ _ X3];rfl
    have j2:W3.cell? ⟨w.heap.size,2,none⟩=some (.slice none 0 0):=by rw[aBP _ _ _ _ _ _ X3];rfl
    clear hb3 X3))
 refine bodyPost_ret (v:=lI k i) (by simp[results,Tryz.results55,go_sem,j0,j1,j2,eR]) rfl ⟨rfl,HX.out⟩
theorem wC(k i:Nat)(w:World)(hk:k≤100000000)(hi:i≤100000000):
  Calls Tryz.prog 66 #[lI k i,lI k i] w fun e w'=>e=.returned (.bool true)∧Below w.heap.size w w':=by
 have h:jG w ⟨⟨0,fI (k:Int) (i:Int),[]⟩,none,0,0⟩:=⟨(bN.nil w 0).ints,aBV _,by unfold I64;constructor<;>simp,by show I64 (fI (k:Int) (i:Int));unfold I64 fI;omega⟩
 exact nO ⟨⟨0,fI (k:Int) (i:Int),[]⟩,none,0,0⟩ ⟨⟨0,fI (k:Int) (i:Int),[]⟩,none,0,0⟩ w rfl h h (by simp[kV])
theorem xH:(Tryz.prog.info? 76).map (fun i=>(i.zero,i.size,i.bytes))=some (some (.agg #[.int .i64 0,.int .i64 0,.slice none 0 0]),3,40):=by kernel_rfl
theorem BR:(Tryz.prog.info? 26).map (fun i=>(i.zero,i.size,i.bytes))=some (some (.slice none 0 0),1,24):=by kernel_rfl
theorem CA{ops:Array Oper}{rest:List Oper}{o:Oper}{a:Act}{w:World}{Q:Exit→Act→World→Prop}(hgd:o.guard=none)(x:Operand)(k i:Nat)(ho:o.op=.buildSlice 26 1 #[(0,x)])(hx:a.eval x=lI k i)
  (h:wpList Tryz.prog ops Q rest (a.put o.dst (.slice (some ⟨w.heap.size,0,none⟩) 1 1)) (w.alloc (.cells (eR k i).toArray 76))):wpList Tryz.prog ops Q (o :: rest) a w:=
 wpList_plain hgd fun K hK=>by
  obtain⟨ie,hie⟩:∃i,Tryz.prog.info? 76=some i:=Option.isSome_iff_exists.1 (by kernel_rfl);have hs:ie.size=3:=by
   have:(Tryz.prog.info? 76).map (·.size)=some 3:=by kernel_rfl
   rw[hie] at this;simpa using this
  obtain⟨z,hz⟩:∃z,ie.zero=some z:=by
   have:(Tryz.prog.info? 76).map (fun i=>i.zero.isSome)=some true:=by kernel_rfl
   rw[hie] at this;exact Option.isSome_iff_exists.1 (by simpa using this)
  refine wp_buildSlice _ 76 1 #[(0,x)] ho (eR k i).toArray ie z Tryz.underlying26 hie hz (by rw[hs];omega) (by rw[hs];omega) ?_ (hK _ _ h);simp only[List.map_toArray,List.map_cons,List.map_nil,hx];rw[hs];exact vS (eR k i) _ (gJ k i) (by simp)
theorem sU(k i:Nat):∀u∈eR k i,u.oneCell'=true:=by
 intro u hu
 simp only[eR,List.mem_cons,List.not_mem_nil,or_false] at hu
 rcases hu with rfl|rfl|rfl<;>rfl
theorem VC(n:Nat):∀u∈(madeCells #[.int .i64 0,.int .i64 0,.slice none 0 0] n).toList,u.oneCell'=true:=by
 intro u hu
 simp only[madeCells,Array.toList_map,List.mem_map] at hu
 obtain⟨j,_,rfl⟩:=hu
 have hm:j%3<3:=Nat.mod_lt _ (by omega)
 have hc:j%3=0∨j%3=1∨j%3=2:=by omega
 rcases hc with h|h|h<;>simp[h,Value.oneCell']
abbrev NL:=FA 76 26 3 eR
abbrev aAL:=FB 76 26 3 eR
abbrev RG:=FBi 76 26 3 eR
abbrev VA:=FD 76 26 3 eR
abbrev ZJ:=FDi 76 26 3 eR
theorem DO(a:Option Addr)(K c base:Nat)(rv:Nat→Value)(L:Nat→Nat)(w:World)(h:FIn 76 26 3 base K (.slice a K c) rv L w)(hK:K≤1000000)(hL:∀j,j<K→L j≤1000000)(hbase:base≤w.heap.size):
  Calls Tryz.prog 156 #[.slice a K c] w fun e w'=>e=.returned (.bool true)∧Chg (SB K rv) w w':=by
 have HS:=aBO h.sep
 have HL:=aBO hL
 have HF0:Hid (NL base K (.slice a K c) rv L w 0 0 w):=h.start
 clear h hL
 go_enter Tryz.func156,Tryz.ntmps156
 go_wp2
 go_loopw [3,4] (fun kk ii wr=>∃(k:Nat),k≤K∧kk=.int .i64 k∧Hid (NL base K (.slice a K c) rv L w k 0 wr)) (fun kk _ _=>K-(intOf kk).toNat)
 case atStart=>exact⟨0,by omega,rfl,HF0⟩
 case round=>
  obtain⟨k,hk,rfl,HF⟩:=hrel;by_cases hlt:k<K
  ·obtain⟨O,cO,e0,hO⟩:=HF.out.outs hlt;obtain⟨ar,cr,e1,hc1,hc2⟩:=HF.out.row hlt;simp only[Value.slice.injEq,true_and] at e0;obtain⟨rfl,rfl⟩:=e0;rw[e1] at hO;have hLk:=HL.out k hlt;have HE1:=aBO e1;clear e1;unfold maxLen at hc2;go_wp2
   go_loopw [4] (fun ii wr=>∃(i:Nat),i≤L k∧ii=.int .i64 i∧Hid (NL base K (.slice (some ⟨O,0,none⟩) K c) rv L w k i wr)) (fun ii _=>L k-(intOf ii).toNat)
   case atStart=>exact⟨0,by omega,rfl,HF⟩
   case round=>
    clear HF hO;obtain⟨i,hi,rfl,HF⟩:=hrel;obtain⟨O',cO',e0,hO⟩:=HF.out.outs hlt;simp only[Value.slice.injEq,true_and,Option.some.injEq,Addr.mk.injEq,and_true] at e0;obtain⟨rfl,rfl⟩:=e0;rw[HE1.out] at hO;obtain⟨V,hV⟩:∃V,V=wr:=⟨_,rfl⟩
    rw[←hV] at HF hO⊢;clear hV;by_cases hlt2:i<L k
    ·obtain⟨b,cap,e1,hcp1,hcp2,hth,hbl⟩:=HF.out.cellR hlt hlt2;have HE2:=aBO e1;have HTH:=aBO hth;rw[HE1.out] at e1;simp only[Value.slice.injEq,true_and] at e1;obtain⟨rfl,rfl⟩:=e1;have q0:∀n':aY V,n'.val.cell? ⟨O,k,none⟩=some (.slice (some ⟨b,0,none⟩) (L k) cr):=aY.cell hO;have HNE:Nonempty (aY V):=⟨⟨V,aBQ _ _⟩⟩
     go_upto_region 7 with (fail)
     clear hO hth;refine qK (fun w'=>∃n':aY V,w'=n'.val) [(0,7,some (7,true)),(8,1,some (9,false))] (by kernel_rfl) (by kernel_rfl) ⟨⟨_,bZ (aBQ _ _) 1⟩,rfl⟩ ?_;simp only[lW,List.take_succ_cons,List.take_zero,List.drop_succ_cons,List.drop_zero]
     repeat (go_big_quiet_step (fail))
     refine wpQuiet_nil ?_;refine dP rfl rfl ?_;go_simp;refine(lQ k i V.drew (by omega) (by omega)).mono ?_;rintro e w3 ⟨rfl,hb3⟩;have hb3:=nN hb3;refine⟨⟨⟨w3,hb3⟩,rfl⟩,?_⟩;have HF3:=aBO (HF.out.ext hb3);have hth3:w3.there b (i*3) (eR k i).toArray.size:=by
      rw[List.size_toArray,gJ];intro j hj;obtain⟨h1,h2⟩:=HTH.out j hj;obtain⟨u,hu⟩:=Option.isSome_iff_exists.1 h1;exact⟨by rw[aH hb3 hu];rfl,by rw[hb3.frozen (p:=⟨b,i*3+j,none⟩) hbl];exact h2⟩
     have HTH3:=aBO hth3;clear hb3 hth3 HTH
     repeat (go_big_quiet_step (fail))
     refine wpQuiet_nil ?_;refine dP rfl rfl ?_;refine wp_store_mid 76 _ _ rfl b (i*3) (eR k i).toArray rfl rfl HTH3.out (PU k i) (all_oneCell_toArray (sU k i)) ?_;refine NoPanic.normal ?_;simp only[cW];have HN:=aBO (HF3.out.storeR gJ (by decide) HS.out hlt hlt2 HE2.out);obtain⟨w4,hw4⟩:∃x,x=w3.setCells b (i*3) (eR k i):=⟨_,rfl⟩
     rw[←hw4] at HN⊢;clear hw4 q0;go_wp2
     go_roundw
     case rel=>exact⟨i+1,by omega,by go_num,HN⟩
     case measure=>simp[intOf];omega
    ·obtain rfl:i=L k:=by omega
     go_wp2
     go_roundw
     case rel=>exact⟨k+1,by omega,by go_num,HF.out.next⟩
     case measure=>simp[intOf];omega
  ·obtain rfl:k=K:=by omega
   obtain⟨i0,hi,hz0,hz1,hz2⟩:=info_parts (P:=Tryz.prog) BR
   go_wp2_with (first
    |(at_make
      refine wpList_make_full wr rfl _ _ 58 rfl base 26 i0 (.slice none 0 0) 1 Tryz.underlying58 hi hz0 hz1 .i64 .i64 _ _ k rfl rfl rfl rfl (by rw[hz2];omega) (by simp only[maxLen];omega) (by have:=HF.out.chg.size;omega) ?_;intro w3 hown3 hg3
      have HB0:=aBO (HF.out.made hg3 (by
       have e:(madeCells (Value.slice none 0 0).cells (k*1)).toList=List.replicate k (.slice none 0 0):=by
        have:(Value.slice none 0 0).cells= #[.slice none 0 0]:=rfl;rw[this,toList_madeCells_one,Nat.mul_one]
       rw[e] at hown3
       exact hown3))
      clear hown3 hg3))
   clear hi hz0 hz1 hz2;generalize wr.heap.size=G at *;clear HF HF0
   go_loopw [6,7,8] (fun kk gg ii wr=>∃(j:Nat) (gv:Nat→Value),j≤k∧kk=.int .i64 j∧Hid (aAL base k (.slice a k c) rv L w G j gv wr)) (fun kk _ _ _=>k-(intOf kk).toNat)
   case atStart=>exact⟨0,_,by omega,rfl,HB0⟩
   case round=>
    clear HB0;obtain⟨j,gv,hj,rfl,HF⟩:=hrel;by_cases hlt2:j<k
    ·obtain⟨O,cO,e0,hO,hG,hfz⟩:=HF.out.outs hlt2;obtain⟨ar,cr,e1,hc1,hc2⟩:=HF.out.row hlt2;simp only[Value.slice.injEq,true_and] at e0;obtain⟨rfl,rfl⟩:=e0;rw[e1] at hO;have hLk:=HL.out j hlt2;have HI0:=aBO (HF.out.start HS.out hlt2);rw[e1] at HI0;have HE1:=aBO e1;clear e1;unfold maxLen at hc2;go_wp2
     go_loopw [7,8] (fun gg ii wr=>∃(i:Nat),i≤64∧ii=.int .i64 i∧Hid (RG base k (.slice (some ⟨O,0,none⟩) k c) rv L w G j i gv gg wr)) (fun _ ii _=>64-(intOf ii).toNat)
     case atStart=>exact⟨0,by omega,rfl,HI0⟩
     case round=>
      clear HI0 HF hO hG hfz;obtain⟨i,hi,rfl,HI⟩:=hrel;obtain⟨O',cO',e0,hO,hG,hfz⟩:=HI.out.fb.outs hlt2;simp only[Value.slice.injEq,true_and,Option.some.injEq,Addr.mk.injEq,and_true] at e0;obtain⟨rfl,rfl⟩:=e0;rw[HE1.out] at hO;obtain⟨V,hV⟩:∃V,V=wr:=⟨_,rfl⟩
      rw[←hV] at HI hO hG hfz⊢;clear hV;by_cases hlt3:i<64
      ·have hcast:(L j:Int)+(i:Int)=((L j+i:Nat):Int):=by omega
       have HCA:=aBO hcast;clear hcast
       go_wp2_with (first
        |(go_at_call 55
          try rw[HCA.out]
          refine(lQ j (L j+i) V (by omega) (by omega)).mono ?_;rintro e w1 ⟨rfl,hb1⟩;have HI1:=aBO (HI.out.ext hb1);have hsz1:=hb1.size
          clear hb1)
        |((with_reducible show wpList _ _ _ (⟨some 67,_,_,_,_,_⟩ :: _) _ _);refine CA (o:=⟨some 67,.buildSlice _ _ _,_,_,_,_⟩) rfl _ j (L j+i) rfl rfl ?_)
        |(at_builtin
          refine iT rfl w1 (.tmp 57) (.tmp 67) 26 76 rfl base _ 3 40 Tryz.underlying26 xH rfl (by omega) u7 (L j+i) _ (eR j (L j+i)) rfl HI1.out.row w1.heap.size rfl rfl (gJ _ _) (sU _ _) (by simp only[maxLen];omega) (by omega) (by have:=HI1.out.fb.chg.size;omega) ?_;intro g cap w2 hown2 hg2 hat2 hkeep2;have HI2:Hid (RG base k (.slice (some ⟨O,0,none⟩) k c) rv L w G j (i+1) gv (.slice (some ⟨g,0,none⟩) (L j+i+1) cap) w2):=HI1.out.step (by decide) hlt2 hown2 hg2 rfl hat2 (by omega) hkeep2
          clear hown2 hat2 hg2 hkeep2))
       go_roundw
       case rel=>exact⟨i+1,by omega,by go_num,HI2⟩
       case measure=>simp[intOf];omega
      ·obtain rfl:i=64:=by omega
       obtain⟨ag,cg,eg⟩:=fH HI.out.row;subst eg;go_wp2
       go_roundw
       case rel=>exact⟨j+1,_,by omega,by go_num,HI.out.fin (by decide) hlt2⟩
       case measure=>simp[intOf];omega
    ·obtain rfl:j=k:=by omega
     clear hj hk hlt hlt2;obtain⟨V0,hV0⟩:∃V,V=wr:=⟨_,rfl⟩
     rw[←hV0] at HF⊢;clear hV0;go_wp2
     go_loopw [9,10] (fun kk ii wz=>∃(k:Nat),k≤j∧kk=.int .i64 k∧Hid (Below V0.heap.size V0 wz)) (fun kk _ _=>j-(intOf kk).toNat)
     case atStart=>exact⟨0,by omega,rfl,aBQ _ _⟩
     case round=>
      obtain⟨k,hk,rfl,HBk⟩:=hrel;by_cases hlt:k<j
      ·obtain⟨O,cO,e0,hO,hG,hfz⟩:=(HF.out.ext HBk.out).outs hlt;obtain⟨ar,cr,e1,hc1,hc2⟩:=HF.out.row hlt;simp only[Value.slice.injEq,true_and] at e0;obtain⟨rfl,rfl⟩:=e0;rw[if_pos hlt] at hG;rw[e1] at hO;obtain⟨ag,cg,eg⟩:=fH (HF.out.grow k hlt);rw[eg] at hG;have HE1:=aBO e1;have HEG:=aBO eg;clear e1 eg;have hLk:=HL.out k hlt;unfold maxLen at hc2;go_wp2
       go_loopw [10] (fun ii wz=>∃(i:Nat),i≤L k+64∧ii=.int .i64 i∧Hid (Below V0.heap.size V0 wz)) (fun ii _=>L k+64-(intOf ii).toNat)
       case atStart=>exact⟨0,by omega,rfl,HBk⟩
       case round=>
        obtain⟨i,hi,rfl,HBi⟩:=hrel;clear hO hG hfz HBk;obtain⟨O',cO',e0,hO,hG,hfz⟩:=(HF.out.ext HBi.out).outs hlt;simp only[Value.slice.injEq,true_and,Option.some.injEq,Addr.mk.injEq,and_true] at e0;obtain⟨rfl,rfl⟩:=e0;rw[if_pos hlt,HEG.out] at hG;rw[HE1.out] at hO;by_cases hlt2:i<L k+64
        ·have hgr:=(HF.out.ext HBi.out).grow k hlt;rw[HEG.out] at hgr;obtain⟨bg,rfl⟩:∃g,ag=some ⟨g,0,none⟩:=by
          obtain⟨g,c',e⟩:=eI hgr (by omega);injection e with e _ _;exact⟨g,e⟩
         have hrg:=zL (Z:= []) gJ (by rw[List.append_nil];exact hgr) (aBV _) hlt2;have HRG:=aBO hrg;clear hgr hrg;obtain⟨V,hV⟩:∃V,V=wr:=⟨_,rfl⟩
         rw[←hV] at hO hG HRG HBi⊢;clear hV;have q0:∀n':aY V,n'.val.cell? ⟨O,k,none⟩=some (.slice ar (L k) cr):=aY.cell hO;have q1:∀n':aY V,n'.val.cell? ⟨G,k,none⟩=some (.slice (some ⟨bg,0,none⟩) (L k+64) cg):=aY.cell hG;have QG:Hid (∀w',(∃n':aY V,w'=n'.val)→w'.rangeAt bg (i*3) (eR k i)):=fun w' ⟨n',e⟩=>by rw[e];exact fun j v hv=>aH n'.ext (HRG.out j v hv)
         have HNE:Nonempty (aY V):=⟨⟨V,aBQ _ _⟩⟩
         have HMK:Hid (∀n':aY V,Calls Tryz.prog 55 #[.int .i64 (k:Int),.int .i64 (i:Int)] n'.val fun e w''=>e=.returned (lI k i)∧∃m:aY V,w''=m.val):=fun n'=>cG (lQ k i n'.val (by omega) (by omega));have HSM:Hid (∀n':aY V,Calls Tryz.prog 66 #[lI k i,lI k i] n'.val fun e w''=>e=.returned (.bool true)∧∃m:aY V,w''=m.val):=fun n'=>cG (wC k i n'.val (by omega) (by omega));clear hfz HRG;by_cases hlt3:i<L k
         ·have hrr:=(HF.out.ext HBi.out).rows k hlt;rw[HE1.out] at hrr;obtain⟨br,rfl⟩:∃g,ar=some ⟨g,0,none⟩:=by
           obtain⟨g,c',e⟩:=eI hrr (by omega);injection e with e _ _;exact⟨g,e⟩
          have hrg:=zL (Z:= []) gJ (by rw[List.append_nil];exact hrr) (aBV _) hlt3;have HRR:=aBO hrg;have QR:Hid (∀w',(∃n':aY V,w'=n'.val)→w'.rangeAt br (i*3) (eR k i)):=fun w' ⟨n',e⟩=>by rw[e];exact fun j v hv=>aH n'.ext (HRR.out j v hv)
          clear hrr hrg HRR;have d1:decide (i<L k)=true:=by simpa using hlt3
          go_upto_region 24 with (fail)
          clear hO hG;refine bB (by kernel_rfl) (by kernel_rfl) ?_
          repeat (first
           |go_big_quiet_skip
           |((with_reducible show wpQuiet _ _ _ _ (⟨some 94,_,_,_,_,_⟩ :: _) _);refine aX (o:=⟨some 94,.load 76 _,_,_,_,_⟩) (by kernel_rfl) 76 _ rfl bg (i*3) rfl (eR k i) _ QG.out Tryz.underlying76 rfl (wS _ _) ?_;simp only[zJ,zG,zH,zI])
           |((with_reducible show wpQuiet _ _ _ _ (⟨some 115,_,_,_,_,_⟩ :: _) _);refine aX (o:=⟨some 115,.load 76 _,_,_,_,_⟩) (by kernel_rfl) 76 _ rfl br (i*3) rfl (eR k i) _ QR.out Tryz.underlying76 rfl (wS _ _) ?_;simp only[zJ,zG,zH,zI])
           |go_big_quiet_step (first|(go_at_call 55;exact HMK.out _)|(go_at_call 66;exact HSM.out _)))
          refine wpQuiet_nil ?_;rintro _ ⟨n',rfl⟩;have HB8:=aBO (aA HBi.out n'.ext);clear q0 q1 HMK HSM QG QR;go_wp2
          go_roundw
          case rel=>exact⟨i+1,by omega,by go_num,HB8⟩
          case measure=>simp[intOf];omega
         ·have d1:decide (i<L k)=false:=by simpa using hlt3
          go_upto_region 24 with (fail)
          clear hO hG;refine bB (by kernel_rfl) (by kernel_rfl) ?_
          repeat (first
           |go_big_quiet_skip
           |((with_reducible show wpQuiet _ _ _ _ (⟨some 94,_,_,_,_,_⟩ :: _) _);refine aX (o:=⟨some 94,.load 76 _,_,_,_,_⟩) (by kernel_rfl) 76 _ rfl bg (i*3) rfl (eR k i) _ QG.out Tryz.underlying76 rfl (wS _ _) ?_;simp only[zJ,zG,zH,zI])
           |go_big_quiet_step (first|(go_at_call 55;exact HMK.out _)|(go_at_call 66;exact HSM.out _)))
          refine wpQuiet_nil ?_;rintro _ ⟨n',rfl⟩;have HB8:=aBO (aA HBi.out n'.ext);clear q0 q1 HMK HSM QG;go_wp2
          go_roundw
          case rel=>exact⟨i+1,by omega,by go_num,HB8⟩
          case measure=>simp[intOf];omega
        ·obtain rfl:i=L k+64:=by omega
         go_wp2
         go_roundw
         case rel=>exact⟨k+1,by omega,by go_num,HBi⟩
         case measure=>simp[intOf];omega
      ·obtain rfl:k=j:=by omega
       have HD0:=aBO ((HF.out.ext HBk.out).toD);clear HF hk hlt HBk;obtain⟨i0,hi,hz0,hz1,hz2⟩:=info_parts (P:=Tryz.prog) xH;go_wp2
       go_loopw [11,12,13] (fun kk mm ii wz=>∃(j:Nat) (gl:Nat→Value),j≤k∧kk=.int .i64 j∧Hid (VA base k (.slice a k c) rv L w G j gl wz)) (fun kk _ _ _=>k-(intOf kk).toNat)
       case atStart=>exact⟨0,_,by omega,rfl,HD0⟩
       case round=>
        clear HD0;obtain⟨j,gl,hj,rfl,HD⟩:=hrel;by_cases hlt:j<k
        ·have hLk:=HL.out j hlt
         go_wp2_with (first
          |(at_make
            refine wpList_make_full wr rfl _ _ 26 rfl base 76 i0 (.agg #[.int .i64 0,.int .i64 0,.slice none 0 0]) 3 Tryz.underlying26 hi hz0 hz1 .i64 .i64 _ _ 64 rfl rfl rfl rfl (by rw[hz2];omega) (by simp only[maxLen];omega) (by have:=HD.out.chg.size;omega) ?_;intro w3 hown3 hg3;have HM0:=aBO (HD.out.made hg3 hown3 (VC _) (by omega))
            clear hown3 hg3))
         generalize wr.heap.size=M at*
         go_loopw [13] (fun ii wz=>∃(i:Nat),i≤64∧ii=.int .i64 i∧Hid (ZJ base k (.slice a k c) rv L w G j gl M wz)) (fun ii _=>64-(intOf ii).toNat)
         case atStart=>exact⟨0,by omega,rfl,HM0⟩
         case round=>
          clear HM0 HD;obtain⟨i,hi2,rfl,HM⟩:=hrel;obtain⟨V,hV⟩:∃V,V=wr:=⟨_,rfl⟩
          rw[←hV] at HM⊢;clear hV;by_cases hlt2:i<64
          ·have hcast:(j:Int)+(k:Int)=((j+k:Nat):Int):=by omega
           have HCA:=aBO hcast;clear hcast
           go_wp2_with (first
            |(go_at_call 55
              try rw[HCA.out]
              refine(lQ (j+k) i V (by omega) (by omega)).mono ?_;rintro e w1 ⟨rfl,hb1⟩;have HM1:=aBO (HM.out.ext hb1)
              have hth1:w1.there M (i*3) (eR (j+k) i).toArray.size:=(by
               obtain⟨Y,hY,_⟩:=HM1.out.many;rw[List.size_toArray,gJ]
               exact EI hY hlt2)
              have HTH1:=aBO hth1
              clear hb1 hth1)
            |((with_reducible show wpList _ _ _ (⟨none,_,_,_,_,_⟩ :: _) _ _);refine wpList_store_mid rfl 76 _ _ rfl M (i*3) (eR (j+k) i).toArray rfl rfl HTH1.out (PU _ _) (all_oneCell_toArray (sU _ _)) ?_))
           have HN:=aBO (HM1.out.setR (by decide) hlt2 (eR (j+k) i) (gJ _ _) (sU _ _))
           go_roundw
           case rel=>exact⟨i+1,by omega,by go_num,HN⟩
           case measure=>simp[intOf];omega
          ·obtain⟨O,cO,e0,hO,hG,hfz,_,_⟩:=HM.out.fd.outs hlt;obtain⟨ar,cr,e1,hc1,hc2⟩:=HM.out.fd.row hlt;simp only[Value.slice.injEq,true_and] at e0;obtain⟨rfl,rfl⟩:=e0;rw[e1] at hO;have hrow:=HM.out.fd.rows j hlt;rw[e1] at hrow;have HROW:=aBO hrow;have HE1:=aBO e1;clear e1 hrow;obtain⟨Y,hY,hY1⟩:=HM.out.many;have HY:=aBO hY;have HY1:=aBO hY1;clear hY hY1;unfold maxLen at hc2
           go_wp2_with (first
            |(at_builtin
              refine rZ rfl V (.tmp 148) (.tmp 149) 26 76 rfl base (.agg #[.int .i64 0,.int .i64 0,.slice none 0 0]) 3 40 Tryz.underlying26 xH rfl (by omega) (.slice ar (L j) cr) (L j) _ rfl HROW.out M 64 64 Y rfl HY.out HY1.out (by simp only[maxLen];omega) (by omega) (by have:=HM.out.fd.chg.size;omega) ?_;intro v2 w2 hown2 hg2 hat2 hkeep2;obtain⟨a2,c2,e2⟩:=fH hown2;subst e2;have hG2:w2.ownsRow base 26 1 (.slice (some ⟨G,0,none⟩) k k) k ((List.range k).map gl):=HM.out.fd.gs.kept hg2 (.inr (fun e=>gL HM.out.fd.gs HROW.out (by decide) G rfl e.symm));have hG3:=World.ownsRow.cellAt hG2 j (by omega);have hG4:=World.ownsRow.frozenAt hG2 j;have hlen:((List.range k).map gl).length=k:=by simp
              rw[aBU (by omega)] at hG3;obtain⟨ug,hug⟩:∃u,w2.cell? ⟨G,j,none⟩=some u:=⟨_,hG3⟩
              clear hG3;have HD2:Hid (VA base k (.slice (some ⟨O,0,none⟩) k c) rv L w G (j+1) (fun i=>if i=j then (.slice a2 (L j+64) c2) else gl i) (w2.setCell ⟨G,j,none⟩ (.slice a2 (L j+64) c2))):=by
               have e:=HE1.out;refine HM.out.fin (by decide) HS.out hlt hown2 (by rw[e];exact hg2) (by rw[e];exact hat2) (by rw[e];exact hkeep2)
              clear hown2 hg2 hat2 hkeep2 hG2 hlen))
           go_roundw
           case rel=>exact⟨j+1,_,by omega,by go_num,HD2⟩
           case measure=>simp[intOf];omega
        ·obtain rfl:j=k:=by omega
         clear hj hlt hi hz0 hz1 hz2;obtain⟨V0,hV0⟩:∃V,V=wr:=⟨_,rfl⟩
         rw[←hV0] at HD⊢;clear hV0;go_wp2
         go_loopw [14,15] (fun kk ii wz=>∃(k:Nat),k≤j∧kk=.int .i64 k∧Hid (Below V0.heap.size V0 wz)) (fun kk _ _=>j-(intOf kk).toNat)
         case atStart=>exact⟨0,by omega,rfl,aBQ _ _⟩
         case round=>
          obtain⟨k,hk,rfl,HBk⟩:=hrel;by_cases hlt:k<j
          ·obtain⟨O,cO,e0,hO,hG,hfz,_,_⟩:=(HD.out.ext HBk.out).outs hlt;obtain⟨ar,cr,e1,hc1,hc2⟩:=HD.out.row hlt;simp only[Value.slice.injEq,true_and] at e0;obtain⟨rfl,rfl⟩:=e0;rw[e1] at hO;obtain⟨Z,hZ⟩:=HD.out.grow k hlt;have HZ:=aBO hZ;obtain⟨ag,cg,eg⟩:=fH hZ;have HE1:=aBO e1;have HEG:=aBO eg;clear e1 eg hZ;have hLk:=HL.out k hlt;unfold maxLen at hc2;go_wp2
           go_loopw [15] (fun ii wz=>∃(i:Nat),i≤L k∧ii=.int .i64 i∧Hid (Below V0.heap.size V0 wz)) (fun ii _=>L k-(intOf ii).toNat)
           case atStart=>exact⟨0,by omega,rfl,HBk⟩
           case round=>
            obtain⟨i,hi2,rfl,HBi⟩:=hrel;clear hO hG hfz HBk;obtain⟨O',cO',e0,hO,hG,hfz,_,_⟩:=(HD.out.ext HBi.out).outs hlt;simp only[Value.slice.injEq,true_and,Option.some.injEq,Addr.mk.injEq,and_true] at e0;obtain⟨rfl,rfl⟩:=e0;rw[HE1.out] at hO;rw[HEG.out] at hG;by_cases hlt3:i<L k
            ·have hgr:=eU HZ.out HBi.out;rw[HEG.out] at hgr;obtain⟨bg,rfl⟩:∃g,ag=some ⟨g,0,none⟩:=by
              obtain⟨g,c',e⟩:=eI hgr (by omega);injection e with e _ _;exact⟨g,e⟩
             have hrg:=zL gJ hgr (by omega) hlt3;have hrr:=(HD.out.ext HBi.out).rows k hlt;rw[HE1.out] at hrr;obtain⟨br,rfl⟩:∃g,ar=some ⟨g,0,none⟩:=by
              obtain⟨g,c',e⟩:=eI hrr (by omega);injection e with e _ _;exact⟨g,e⟩
             have hrr2:=zL (Z:= []) gJ (by rw[List.append_nil];exact hrr) (aBV _) hlt3;have HRG:=aBO hrg;have HRR:=aBO hrr2;clear hgr hrg hrr hrr2;obtain⟨V,hV⟩:∃V,V=wr:=⟨_,rfl⟩
             rw[←hV] at hO hG HRG HRR HBi⊢;clear hV;have q0:∀n':aY V,n'.val.cell? ⟨O,k,none⟩=some (.slice (some ⟨br,0,none⟩) (L k) cr):=aY.cell hO;have q1:∀n':aY V,n'.val.cell? ⟨G,k,none⟩=some (.slice (some ⟨bg,0,none⟩) (L k+64) cg):=aY.cell hG;have QG:Hid (∀w',(∃n':aY V,w'=n'.val)→w'.rangeAt bg (i*3) (eR k i)):=fun w' ⟨n',e⟩=>by rw[e];exact fun j v hv=>aH n'.ext (HRG.out j v hv)
             have QR:Hid (∀w',(∃n':aY V,w'=n'.val)→w'.rangeAt br (i*3) (eR k i)):=fun w' ⟨n',e⟩=>by rw[e];exact fun j v hv=>aH n'.ext (HRR.out j v hv)
             have HNE:Nonempty (aY V):=⟨⟨V,aBQ _ _⟩⟩
             have HMK:Hid (∀n':aY V,Calls Tryz.prog 55 #[.int .i64 (k:Int),.int .i64 (i:Int)] n'.val fun e w''=>e=.returned (lI k i)∧∃m:aY V,w''=m.val):=fun n'=>cG (lQ k i n'.val (by omega) (by omega));have HSM:Hid (∀n':aY V,Calls Tryz.prog 66 #[lI k i,lI k i] n'.val fun e w''=>e=.returned (.bool true)∧∃m:aY V,w''=m.val):=fun n'=>cG (wC k i n'.val (by omega) (by omega));clear hfz HRG HRR;go_upto_region 41 with (fail)
             clear hO hG;refine bB (by kernel_rfl) (by kernel_rfl) ?_
             repeat (first
              |go_big_quiet_skip
              |((with_reducible show wpQuiet _ _ _ _ (⟨some 173,_,_,_,_,_⟩ :: _) _);refine aX (o:=⟨some 173,.load 76 _,_,_,_,_⟩) (by kernel_rfl) 76 _ rfl br (i*3) rfl (eR k i) _ QR.out Tryz.underlying76 rfl (wS _ _) ?_;simp only[zJ,zG,zH,zI])
              |((with_reducible show wpQuiet _ _ _ _ (⟨some 186,_,_,_,_,_⟩ :: _) _);refine aX (o:=⟨some 186,.load 76 _,_,_,_,_⟩) (by kernel_rfl) 76 _ rfl bg (i*3) rfl (eR k i) _ QG.out Tryz.underlying76 rfl (wS _ _) ?_;simp only[zJ,zG,zH,zI])
              |go_big_quiet_step (first|(go_at_call 55;exact HMK.out _)|(go_at_call 66;exact HSM.out _)))
             refine wpQuiet_nil ?_;rintro _ ⟨n',rfl⟩;have HB8:=aBO (aA HBi.out n'.ext);clear q0 q1 HMK HSM QG QR;go_wp2
             go_roundw
             case rel=>exact⟨i+1,by omega,by go_num,HB8⟩
             case measure=>simp[intOf];omega
            ·obtain rfl:i=L k:=by omega
             go_wp2
             go_roundw
             case rel=>exact⟨k+1,by omega,by go_num,HBi⟩
             case measure=>simp[intOf];omega
          ·go_wp2
           go_ret
           exact⟨rfl,HD.out.chg.grown (nC HBk.out) (fun k e=>by cases e)⟩
end

section
open Go.RowKit
def mS(w:World)(B:Nat)(v tv:Value):Prop:=w.heap[B]? =some (.cells #[aP,aP,v,aP,aP,aP,aP,aP,aP,aP,aP,aP,aP,aP,aP,tv,aP] 153 (0,0))
theorem mS.cell{w:World}{B:Nat}{v tv:Value}(h:mS w B v tv)(i:Nat):w.cell? ⟨B,i,none⟩=(#[aP,aP,v,aP,aP,aP,aP,aP,aP,aP,aP,aP,aP,aP,aP,tv,aP]:Array Value)[i]?:=aBP _ _ _ _ _ _ h
theorem mS.frozen{w:World}{B:Nat}{v tv:Value}(h:mS w B v tv)(i:Nat):w.frozen? ⟨B,i,none⟩=false:=frozen_of_row _ _ _ _ _ h
theorem mS.lt{w:World}{B:Nat}{v tv:Value}(h:mS w B v tv):B<w.heap.size:=(aBW.1 h).1
theorem mS.setI{w:World}{B:Nat}{v tv:Value}(h:mS w B v tv)(v':Value):mS (w.setCell ⟨B,2,none⟩ v') B v' tv:=by
 unfold mS at h⊢
 simp[World.setCell,Array.getElem?_modify,h]
theorem mS.setT{w:World}{B:Nat}{v tv:Value}(h:mS w B v tv)(v':Value):mS (w.setCell ⟨B,15,none⟩ v') B v v':=by
 unfold mS at h⊢
 simp[World.setCell,Array.getElem?_modify,h]
theorem mS.ne{w:World}{B:Nat}{v tv:Value}(h:mS w B v tv){base:Nat}{e:TypeId}{size:Nat}{v':Value}{n:Nat}{xs:List Value}(ho:w.ownsRow base e size v' n xs)(hne:e≠153):v'.ownBlock≠some B:=by
 intro hg
 rcases ho.2 with ⟨rfl,_⟩|⟨b,cap,cur,rfl,_,hh,_⟩
 ·simp[Value.ownBlock] at hg
 ·simp only[Value.ownBlock,Option.some.injEq] at hg;subst hg;unfold mS at h;rw[h] at hh;injection hh with hh;injection hh with _ ht;exact hne ht.symm
structure DA(B:Nat)(k m:Nat)(xs ts:List Value)(v tv:Value)(w:World):Prop where
 bag:mS w B v tv
 ints:w.ownsRow (B+1) 22 1 v k xs
 tiles:w.ownsRow (B+1) 26 1 tv m ts
def ZO(B:Nat)(k m:Nat)(xs ts:List Value)(w:World)(e:Ending)(w':World):Prop:=(∃r,e=.returned r)∧∃v tv,DA B k m xs ts v tv w'∧Below B w w'
theorem GO(w:World)(B k m:Nat)(v tv:Value)(xs ts:List Value)(a:Option Addr)(n c:Nat)(h:DA B k m xs ts v tv w)(hk:k≤1000000):
  Calls Tryz.prog 109 #[.pointer (some ⟨B,0,none⟩),.slice a n c] w (ZO B (k+1) m (xs++ [.slice a n c]) ts w):=by
 have h2:=h.bag.cell 2
 have hlt:=h.bag.lt
 have hfz:=h.bag.frozen 2
 have HJ:=aBO h
 have HNE:=aBO (h.bag.ne h.ints (by decide))
 have HNT:=aBO (h.bag.ne h.tiles (by decide))
 have HIT:=aBO (gL h.ints h.tiles (by decide))
 obtain⟨av,cv,rfl⟩:=fH h.ints
 clear h
 simp at h2
 go_enter Tryz.func109,Tryz.ntmps109
 go_wp2_with (first
  |(at_builtin
    refine iT rfl w (.tmp 8) (.tmp 10) 53 22 rfl (B+1) _ 1 24 Tryz.underlying53 NH rfl (by omega) (.slice av k cv) k xs [.slice a n c] rfl HJ.out.ints w.heap.size rfl rfl rfl (by simp[Value.oneCell']) (by simp only[maxLen];omega) (by omega) (by omega) ?_;intro g cap w2 hown2 hg2 hat2 _;have HB2:Hid (mS w2 B (.slice av k cv) tv):=(hg2.block B hlt (fun e=>HNE.out e.symm)).trans HJ.out.bag;have HO2:=aBO hown2
    have HT2:Hid (w2.ownsRow (B+1) 26 1 tv m ts):=HJ.out.tiles.kept hg2 (by
     cases hv:tv.ownBlock with
     |none=>exact .inl rfl
     |some q=>exact .inr (fun e=>HIT.out q e.symm hv))
    have HG2:Hid (Below B w w2):=(aBQ B w).grown hg2 (by omega) (fun j e=>by have:=(HJ.out.ints.lt j e).1;omega);have hc2:=HB2.out.cell 2;have hf2:=HB2.out.frozen 2;clear hown2 hg2 hat2
    simp at hc2))
 go_end0
 have hgg:=(HO2.out.lt g rfl).1
 refine⟨⟨_,rfl⟩,_,_,⟨HB2.out.setI _,?_,?_⟩,HG2.out.setCell (p:=⟨B,2,none⟩) (aBV _) _⟩
 ·exact fY (S:=fun k=>k=B) HO2.out ((Chg.refl (fun k=>k=B) w2).setCell (p:=⟨B,2,none⟩) (.inl rfl) _) (fun b e=>by
   simp only[Value.ownBlock,Option.some.injEq] at e
   omega)
 ·exact fY (S:=fun k=>k=B) HT2.out ((Chg.refl (fun k=>k=B) w2).setCell (p:=⟨B,2,none⟩) (.inl rfl) _) (fun b e=>by
   have:=(HT2.out.lt b e).1
   omega)
theorem DA.ext{B k m:Nat}{xs ts:List Value}{v tv:Value}{w w':World}(h:DA B k m xs ts v tv w)(hb:Below w.heap.size w w'):DA B k m xs ts v tv w':=
 ⟨aB hb h.bag,eU h.ints hb,eU h.tiles hb⟩
theorem LL(w:World)(B k m:Nat)(v tv:Value)(xs ts:List Value)(t:bK)(h:DA B k m xs ts v tv w)(hk:k≤1000000):
  Calls Tryz.prog 140 #[.pointer (some ⟨B,0,none⟩),qC t] w (ZO B (k+1) m (xs++ [bsV t]) ts w):=by
 have HJ:=aBO h
 have hlt:=h.bag.lt
 clear h
 go_enter Tryz.func140,Tryz.ntmps140
 go_upto_region 1 with (fail)
 obtain⟨W,hW⟩:∃W,W=w.alloc (.cells #[.int .i64 t.d.kind,.int .i64 t.d.parent,.slice t.ba t.bn t.bc] 76):=⟨_,rfl⟩
 rw[←hW]
 have hk0:W.heap[w.heap.size]? =some (.cells #[.int .i64 t.d.kind,.int .i64 t.d.parent,.slice t.ba t.bn t.bc] 76 (0,0)):=by rw[hW];exact aBS _ _
 have hb1:Below w.heap.size w W:=by rw[hW];exact aD _ _
 have c2:W.cell? ⟨w.heap.size,2,none⟩=some (.slice t.ba t.bn t.bc):=by rw[aBP _ _ _ _ _ _ hk0];rfl
 have HJ1:=aBO (HJ.out.ext hb1)
 have HB1:=aBO (hb1.mono (Nat.le_of_lt hlt))
 clear hW hk0 hb1
 go_wp2_with (
  (go_at_call 109
   refine(GO W B k m v tv xs ts t.ba t.bn t.bc HJ1.out hk).mono ?_;rintro e w2 ⟨⟨r,rfl⟩,v2,tv2,hj2,hb2⟩;have HJ2:=aBO hj2;have HB2:=aBO (HB1.out.trans hb2)
   clear hj2 hb2))
 go_end0
 exact⟨⟨_,rfl⟩,v2,tv2,HJ2.out,HB2.out⟩
theorem GN(w w0:World)(B k m base0:Nat)(v tv:Value)(xs ts:List Value)(a:Option Addr)(n c:Nat)(ls:List bK)(ho:cK 76 3 cN w0 base0 (.slice a n c) ls)(hw0:Below w0.heap.size w0 w)(hB:w0.heap.size≤B)(h:DA B k m xs ts v tv w)(hk:k+n≤1000000)(hm:m≤1000000):
  Calls Tryz.prog 89 #[.pointer (some ⟨B,0,none⟩),.slice a n c] w (ZO B (k+n) (m+1) (xs++ls.map bsV) (ts++ [.slice a n c]) w):=by
 have h15:=h.bag.cell 15
 have hlt:=h.bag.lt
 have hfz:=h.bag.frozen 15
 have HJ:=aBO h
 have HO:=aBO ho
 have HW0:=aBO hw0
 have HNT:=aBO (h.bag.ne h.tiles (by decide))
 have HIT:=aBO (gL h.tiles h.ints (by decide))
 have hln:ls.length=n:=by
  obtain⟨_,_,e⟩:=cK.form ho;injection e with _ e _;exact e.symm
 have HLN:=aBO hln
 obtain⟨av,cv,rfl⟩:=fH h.tiles
 clear h ho hw0 hln
 simp at h15
 go_enter Tryz.func89,Tryz.ntmps89
 go_upto_region 1 with (first
  |(at_builtin
    refine iT rfl w (.tmp 9) (.tmp 11) 58 26 rfl (B+1) _ 1 24 Tryz.underlying58 BR rfl (by omega) (.slice av m cv) m ts [.slice a n c] rfl HJ.out.tiles w.heap.size rfl rfl rfl (by simp[Value.oneCell']) (by simp only[maxLen];omega) (by omega) (by omega) ?_;intro g cap w2 hown2 hg2 hat2 _;have HB2:Hid (mS w2 B v (.slice av m cv)):=(hg2.block B hlt (fun e=>HNT.out e.symm)).trans HJ.out.bag;have HO2:=aBO hown2
    have HI2:Hid (w2.ownsRow (B+1) 22 1 v k xs):=HJ.out.ints.kept hg2 (by
     cases hv:v.ownBlock with
     |none=>exact .inl rfl
     |some q=>exact .inr (fun e=>HIT.out q e.symm hv))
    have HG2:Hid (Below B w w2):=(aBQ B w).grown hg2 (by omega) (fun j e=>by have:=(HJ.out.tiles.lt j e).1;omega);have hc2:=HB2.out.cell 15;have hf2:=HB2.out.frozen 15;clear hown2 hg2 hat2
    simp at hc2))
 have hgg:=(HO2.out.lt g rfl).1
 have hlt2:=HB2.out.lt
 obtain⟨W,hW⟩:∃W,W=w2.setCell ⟨B,15,none⟩ (.slice (some ⟨g,0,none⟩) (m+1) cap):=⟨_,rfl⟩
 have hjW:DA B (k+0) (m+1) (xs++(ls.take 0).map bsV) (ts++ [.slice a n c]) v (.slice (some ⟨g,0,none⟩) (m+1) cap) W:=by
  rw[hW];refine⟨HB2.out.setT _,?_,?_⟩
  ·rw[List.take_zero,List.map_nil,List.append_nil]
   exact fY (S:=fun k=>k=B) HI2.out ((Chg.refl (fun k=>k=B) w2).setCell (p:=⟨B,15,none⟩) (.inl rfl) _) (fun b e=>by
    have:=(HI2.out.lt b e).1
    omega)
  ·exact fY (S:=fun k=>k=B) HO2.out ((Chg.refl (fun k=>k=B) w2).setCell (p:=⟨B,15,none⟩) (.inl rfl) _) (fun b e=>by
    simp only[Value.ownBlock,Option.some.injEq] at e
    omega)
 have hbW:Below B w W:=by rw[hW];exact HG2.out.setCell (p:=⟨B,15,none⟩) (aBV _) _
 rw[←hW]
 have HJW:=aBO hjW
 have HBW:=aBO hbW
 clear hW hjW hbW hc2 hf2 h15 hfz HB2 HO2 HI2 HG2 hlt2
 go_wp2
 go_loopw [4] (fun s4 wr=>∃(i:Nat) (v tv:Value),i≤n∧s4=.int .i64 (i:Int)∧Hid (DA B (k+i) (m+1) (xs++(ls.take i).map bsV) (ts++ [.slice a n c]) v tv wr)∧Hid (Below B w wr)) (fun s4 _=>n-(intOf s4).toNat)
 case atStart=>exact⟨0,_,_,by omega,rfl,HJW,HBW⟩
 case round=>
  obtain⟨i,v3,tv3,hi,rfl,HJ3,HB3⟩:=hrel;clear HJW HBW;by_cases hil:i<n
  ·have hil':(i:Int)<(n:Int):=by omega
   have hform:∃g,a=some ⟨g,0,none⟩:=by
    obtain⟨g,c',e⟩:=eI HO.out.1 (by have:=HLN.out;omega);injection e with e _ _;exact⟨g,e⟩
   obtain⟨gg,rfl⟩:=hform;have hbw:Below w0.heap.size w0 wr:=HW0.out.trans (HB3.out.mono hB);have hrg:=(cK.ext HO.out hbw).range dM ⟨⟨0,0,[]⟩,none,0,0⟩ (k:=i) (by rw[HLN.out];exact hil);have hst:ls.take (i+1)=ls.take i++ [ls.getD i ⟨⟨0,0,[]⟩,none,0,0⟩]:=by
    rw[List.take_add_one,aBT,aBU (by rw[HLN.out];exact hil)];rfl
   obtain⟨t,ht⟩:∃t,t=ls.getD i ⟨⟨0,0,[]⟩,none,0,0⟩:=⟨_,rfl⟩
   rw[←ht] at hrg hst;have HRG:=aBO hrg;have HST:=aBO hst;clear hrg hst ht hbw
   go_wp2_with (first
    |((with_reducible show wpList _ _ _ (⟨some 25,_,_,_,_,_⟩ :: _) _ _);refine wpList_load_mid (op:=⟨some 25,.load 76 _,_,_,_,_⟩) rfl 76 _ rfl gg (i*3) rfl (cN t) _ HRG.out Tryz.underlying76 rfl (by rw[dM];kernel_rfl) ?_)
    |(go_at_call 140
      refine(LL wr B (k+i) (m+1) v3 tv3 _ _ t HJ3.out (by omega)).mono ?_;rintro e w4 ⟨⟨r,rfl⟩,v4,tv4,hj4,hb4⟩;have HJ4:=aBO hj4;have HB4:=aBO (HB3.out.trans hb4)
      clear hj4 hb4))
   go_roundw
   case rel=>exact⟨i+1,v4,tv4,by omega,by go_num,by rw[HST.out,List.map_append,←List.append_assoc];exact HJ4,HB4⟩
   case measure=>simp[intOf];omega
  ·obtain rfl:i=n:=by omega
   have HE:Hid (ls.take i=ls):=by rw[Hid,←HLN.out];exact List.take_length
   rw[HE.out] at HJ3;go_wp2
   go_end0
   exact⟨⟨_,rfl⟩,v3,tv3,HJ3.out,HB3.out⟩
theorem FIn.chg{e eo:TypeId}{size base K:Nat}{vo:Value}{rv:Nat→Value}{L:Nat→Nat}{w w':World}{S:Nat→Prop}(h:FIn e eo size base K vo rv L w)(hc:Chg S w w')(h1:∀g,vo.ownBlock=some g→¬S g)(h2:∀j,j<K→∀g,(rv j).ownBlock=some g→¬S g):FIn e eo size base K vo rv L w':=
 ⟨fY h.outer hc h1,fun j hj=>by
  obtain⟨X,hX⟩:=h.rows j hj
  exact⟨X,fY hX hc (h2 j hj)⟩,h.sep⟩
theorem GZ(w:World)(B K M base:Nat)(a:Option Addr)(c:Nat)(ta:Option Addr)(tc:Nat)(rv:Nat→Value)(L:Nat→Nat)(tv:Nat→Value)(TL:Nat→Nat)(hB:mS w B (.slice a K c) (.slice ta M tc))(hI:FIn 3 22 1 base K (.slice a K c) rv L w)(hT:FIn 76 26 3 base M (.slice ta M tc) tv TL w)
  (hK:K≤1000000) (hL:∀j,j<K→L j≤1000000) (hM:M≤1000000) (hTL:∀j,j<M→TL j≤1000000) (hbase:base≤w.heap.size):
  Calls Tryz.prog 90 #[.pointer (some ⟨B,0,none⟩)] w fun e w'=>e=.returned (.bool true)∧Chg (fun g=>SB K rv g∨SB M tv g) w w':=by
 have HFI:=aBO hI
 have HFT:=aBO hT
 have HL:=aBO hL
 have HTL:=aBO hTL
 have HBR:Hid (∀j,j<K→(rv j).ownBlock≠some B):=fun j hj=>by
  obtain⟨X,hX⟩:=hI.rows j hj;exact hB.ne hX (by decide)
 have HBT:Hid (∀j,j<M→(tv j).ownBlock≠some B):=fun j hj=>by
  obtain⟨X,hX⟩:=hT.rows j hj;exact hB.ne hX (by decide)
 have HTO:Hid (∀g,(Value.slice ta M tc).ownBlock=some g→¬SB K rv g):=fun g hg ⟨j,hj,e⟩=>by
  obtain⟨X,hX⟩:=hI.rows j hj;exact gL hT.outer hX (by decide) g hg e
 have HTR:Hid (∀i,i<M→∀g,(tv i).ownBlock=some g→¬SB K rv g):=fun i hi g hg ⟨j,hj,e⟩=>by
  obtain⟨X,hX⟩:=hI.rows j hj;obtain⟨Y,hY⟩:=hT.rows i hi;exact gL hY hX (by decide) g hg e
 have HB:=aBO hB
 have HC:Hid (∀(V:World) (i:Nat),Chg (SB K rv) w V→V.cell? ⟨B,i,none⟩=(#[aP,aP,.slice a K c,aP,aP,aP,aP,aP,aP,aP,aP,aP,aP,aP,aP,.slice ta M tc,aP]:Array Value)[i]?):=fun V i hV=>mS.cell (show mS V B _ _ from (hV.block B hB.lt (fun⟨j,hj,e⟩=>HBR.out j hj e)).trans HB.out) i
 have HCS:Hid (∀(V:World) (i:Nat),Chg (fun g=>SB K rv g∨SB M tv g) w V→V.cell? ⟨B,i,none⟩=(#[aP,aP,.slice a K c,aP,aP,aP,aP,aP,aP,aP,aP,aP,aP,aP,aP,.slice ta M tc,aP]:Array Value)[i]?):=fun V i hV=>mS.cell (show mS V B _ _ from (hV.block B hB.lt (fun h=>h.elim (fun⟨j,hj,e⟩=>HBR.out j hj e) (fun⟨j,hj,e⟩=>HBT.out j hj e))).trans HB.out) i
 have c0:w.cell? ⟨B,0,none⟩=some aP:=(HC.out w 0 (Chg.refl _ _)).trans rfl
 clear hI hT hL hTL hB
 go_enter Tryz.func90,Tryz.ntmps90
 go_wp2_with (first
  |(go_at_call 141;refine(tO _).mono ?_;rintro e w0 ⟨rfl,hb0⟩
    have E0:=aBO ((Chg.refl (SB K rv) w).of_ext hb0);have F0:=aBO (show Below w.heap.size w w0 from hb0);clear hb0;have c1:w0.cell? ⟨B,1,none⟩=some (aP):=(HC.out w0 1 E0.out).trans rfl)
  |(go_at_call 142;refine(tL _).mono ?_;rintro e w1 ⟨rfl,hb1⟩
    have E1:=aBO (E0.out.of_ext hb1);have F1:=aBO (aA F0.out hb1);clear hb1;have c2:w1.cell? ⟨B,2,none⟩=some (.slice a K c):=(HC.out w1 2 E1.out).trans rfl)
  |(go_at_call 143;refine(wM a K c base rv L _ (HFI.out.ext F1.out) hK HL.out (aCD hbase F1.out.size)).mono ?_;rintro e w2 ⟨rfl,hb2⟩
    have E2:=aBO (E1.out.trans hb2);clear hb2;have c3:w2.cell? ⟨B,3,none⟩=some (aP):=(HC.out w2 3 E2.out).trans rfl)
  |(go_at_call 144;refine(tN _).mono ?_;rintro e w3 ⟨rfl,hb3⟩
    have E3:=aBO (E2.out.of_ext hb3);clear hb3;have c4:w3.cell? ⟨B,4,none⟩=some (aP):=(HC.out w3 4 E3.out).trans rfl)
  |(go_at_call 145;refine(tM _).mono ?_;rintro e w4 ⟨rfl,hb4⟩
    have E4:=aBO (E3.out.of_ext hb4);clear hb4;have c5:w4.cell? ⟨B,5,none⟩=some (aP):=(HC.out w4 5 E4.out).trans rfl)
  |(go_at_call 146;refine(tT _).mono ?_;rintro e w5 ⟨rfl,hb5⟩
    have E5:=aBO (E4.out.of_ext hb5);clear hb5;have c6:w5.cell? ⟨B,6,none⟩=some (aP):=(HC.out w5 6 E5.out).trans rfl)
  |(go_at_call 147;refine(sE _).mono ?_;rintro e w6 ⟨rfl,hb6⟩
    have E6:=aBO (E5.out.of_ext hb6);clear hb6;have c7:w6.cell? ⟨B,7,none⟩=some (aP):=(HC.out w6 7 E6.out).trans rfl)
  |(go_at_call 148;refine(yM _).mono ?_;rintro e w7 ⟨rfl,hb7⟩
    have E7:=aBO (E6.out.of_ext hb7);clear hb7;have c8:w7.cell? ⟨B,8,none⟩=some (aP):=(HC.out w7 8 E7.out).trans rfl)
  |(go_at_call 149;refine(sF _).mono ?_;rintro e w8 ⟨rfl,hb8⟩
    have E8:=aBO (E7.out.of_ext hb8);clear hb8;have c9:w8.cell? ⟨B,9,none⟩=some (aP):=(HC.out w8 9 E8.out).trans rfl)
  |(go_at_call 150;refine(tP _).mono ?_;rintro e w9 ⟨rfl,hb9⟩
    have E9:=aBO (E8.out.of_ext hb9);clear hb9;have c10:w9.cell? ⟨B,10,none⟩=some (aP):=(HC.out w9 10 E9.out).trans rfl)
  |(go_at_call 151;refine(qZ _).mono ?_;rintro e w10 ⟨rfl,hb10⟩
    have E10:=aBO (E9.out.of_ext hb10);clear hb10;have c11:w10.cell? ⟨B,11,none⟩=some (aP):=(HC.out w10 11 E10.out).trans rfl)
  |(go_at_call 152;refine(qA _).mono ?_;rintro e w11 ⟨rfl,hb11⟩
    have E11:=aBO (E10.out.of_ext hb11);clear hb11;have c12:w11.cell? ⟨B,12,none⟩=some (aP):=(HC.out w11 12 E11.out).trans rfl)
  |(go_at_call 153;refine(wL _).mono ?_;rintro e w12 ⟨rfl,hb12⟩
    have E12:=aBO (E11.out.of_ext hb12);clear hb12;have c13:w12.cell? ⟨B,13,none⟩=some (aP):=(HC.out w12 13 E12.out).trans rfl)
  |(go_at_call 154;refine(tQ _).mono ?_;rintro e w13 ⟨rfl,hb13⟩
    have E13:=aBO (E12.out.of_ext hb13);clear hb13;have c14:w13.cell? ⟨B,14,none⟩=some (aP):=(HC.out w13 14 E13.out).trans rfl)
  |(go_at_call 155;refine(tR _).mono ?_;rintro e w14 ⟨rfl,hb14⟩
    have E14:=aBO (E13.out.of_ext hb14);clear hb14;have c15:w14.cell? ⟨B,15,none⟩=some (.slice ta M tc):=(HC.out w14 15 E14.out).trans rfl)
  |(go_at_call 156;refine(DO ta M tc base tv TL _ (HFT.out.chg E14.out HTO.out HTR.out) hM HTL.out (aCD hbase E14.out.size)).mono ?_;rintro e w15 ⟨rfl,hb15⟩
    have E15:Hid (Chg (fun g=>SB K rv g∨SB M tv g) w w15):=(E14.out.mono (fun g h=>.inl h)).trans (hb15.mono (fun g h=>.inr h));clear hb15;have c16:w15.cell? ⟨B,16,none⟩=some (aP):=(HCS.out w15 16 E15.out).trans rfl)
  |(go_at_call 157;refine(tS _).mono ?_;rintro e w16 ⟨rfl,hb16⟩
    have E16:=aBO (E15.out.of_ext hb16);clear hb16))
 go_ret
 exact⟨rfl,E16.out⟩
def qB(lsT:Nat→List bK)(k:Nat):List bK:=(List.range k).flatMap lsT
theorem EY(lsT:Nat→List bK)(k:Nat):qB lsT (k+1)=qB lsT k++lsT k:=by simp[qB,List.range_succ]
def zTR:bK:=⟨⟨0,0,[]⟩,none,0,0⟩
theorem CN(l:List bK):(List.range l.length).map (fun j=>bsV (l.getD j zTR))=l.map bsV:=by
 refine List.ext_getElem (by simp) fun i h1 h2=>?_
 have:i<l.length:=by simpa using h1
 simp[aBT,this]
theorem CS(w:World)(a:Option Addr)(K c base:Nat)(rvT:Nat→Value)(lsT:Nat→List bK)(hcell:∀j,j<K→∃b o,a=some ⟨b,o,none⟩∧w.cell? ⟨b,o+j,none⟩=some (rvT j))
  (hown:∀j,j<K→cK 76 3 cN w base (rvT j) (lsT j)) (hsT:∀i j,i<K→j<K→i≠j→rC (rvT i) (rvT j)) (heach:∀t∈qB lsT K,bN w base (bsV t) t.d.blocks) (hsI:(qB lsT K).Pairwise fun s t=>Sep (bsV s) (bsV t))
  (hK:K≤1000) (hlen:∀j,j<K→(lsT j).length≤1000) (hbl:∀t∈qB lsT K,t.d.blocks.length≤1000000) (hbase:base≤w.heap.size):
  Calls Tryz.prog 36 #[.slice a K c] w fun e w'=>e=.returned (.bool true)∧Chg (fun g=>(∃t∈qB lsT K,(bsV t).ownBlock=some g)∨SB K rvT g) w w':=by
 have HC:=aBO hcell
 have HOW:=aBO hown
 have HST:=aBO hsT
 have HEA:=aBO heach
 have HSI:=aBO hsI
 have HLE:=aBO hlen
 have HBL:=aBO hbl
 have HCL:Hid (∀k,k≤K→(qB lsT k).length≤1000*k):=fun k hk=>by
  induction k with
  |zero=>simp[qB]
  |succ k ih=>
   have h1:=ih (by omega);have h2:=hlen k (by omega);rw[EY,List.length_append];omega
 clear hcell hown hsT heach hsI hlen hbl
 go_enter Tryz.func36,Tryz.ntmps36
 go_wp2
 have HB0:Hid (mS (w.alloc (.cells #[aP,aP,aP,aP,aP,aP,aP,aP,aP,aP,aP,aP,aP,aP,aP,aP,aP] 153)) w.heap.size aP aP):=World.alloc_heap_new w _
 have HE0:=aBO (aD w (.cells #[aP,aP,aP,aP,aP,aP,aP,aP,aP,aP,aP,aP,aP,aP,aP,aP,aP] 153))
 go_loopw [4] (fun kk wr=>∃(k:Nat) (v tv:Value),k≤K∧kk=.int .i64 k∧Hid (DA w.heap.size (qB lsT k).length k ((qB lsT k).map bsV) ((List.range k).map rvT) v tv wr)∧Hid (Below w.heap.size w wr)) (fun kk _=>K-(intOf kk).toNat)
 case atStart=>exact⟨0,aP,aP,by omega,rfl,⟨HB0.out,World.ownsRow_nil _ _ _ _,World.ownsRow_nil _ _ _ _⟩,HE0⟩
 case round=>
  clear HB0 HE0;obtain⟨k,v,tv,hk,rfl,HJ,HE⟩:=hrel;by_cases hlt:k<K
  ·obtain⟨b,o,rfl,hc⟩:=HC.out k hlt;have hc':=aH HE.out hc;obtain⟨ar,cr,er⟩:=(HOW.out k hlt).form;have HOk:=aBO (HOW.out k hlt);rw[er] at hc' HOk;obtain⟨n,hn⟩:∃n,n=(lsT k).length:=⟨_,rfl⟩
   rw[←hn] at hc' HOk;have HER:=aBO er;have HNN:=aBO hn;have hn1:=HLE.out k hlt;have hn2:=HCL.out k hk;have hn3:(qB lsT k).length+n≤1000000:=by omega
   clear hc er hn hn1 hn2
   go_wp2_with (first
    |(go_at_call 89;refine(GN _ w w.heap.size (qB lsT k).length k base v tv _ _ ar n cr (lsT k) HOk.out HE.out (aBV _) HJ.out hn3 (by omega)).mono ?_;rintro e w2 ⟨⟨r,rfl⟩,v2,tv2,hj2,he2⟩
      have HJ2:=aBO hj2;have HE2:=aBO (HE.out.trans he2)
      clear hj2 he2))
   go_roundw
   case rel=>exact⟨k+1,v2,tv2,by omega,by go_num,by
    have e:=HJ2.out;rw[HNN.out,←List.length_append,←List.map_append,←EY,←HER.out] at e;rw[List.range_succ,List.map_append]
    exact e,HE2⟩
   case measure=>simp[intOf];omega
  ·obtain rfl:k=K:=by omega
   obtain⟨av,cv,ev⟩:=fH HJ.out.ints;subst ev;obtain⟨at_,ct,et⟩:=fH HJ.out.tiles;subst et;obtain⟨Q,hQ⟩:∃Q,Q=qB lsT k:=⟨_,rfl⟩
   have hq1:=HCL.out k (aBV _);rw[←hQ] at HJ HEA HSI HBL hq1
   have HFI:Hid (FIn 3 22 1 base Q.length (.slice av Q.length cv) (fun j=>bsV (Q.getD j zTR)) (fun j=>(Q.getD j zTR).d.blocks.length) wr):=⟨by rw[CN];exact HJ.out.ints.mono (by omega),fun j hj=>by
    have hm:Q.getD j zTR∈Q:=by rw[aBT,aBU hj];exact aBZ _
    exact⟨_,eU (HEA.out _ hm).1 HE.out⟩,fun i j hi hj hij=>by
    have e1:Q.getD i zTR=Q[i]:=by simp[aBT,hi]
    have e2:Q.getD j zTR=Q[j]:=by simp[aBT,hj]
    show rC (bsV (Q.getD i zTR)) (bsV (Q.getD j zTR));rw[e1,e2];rcases Nat.lt_or_gt_of_ne hij with h|h
    ·exact(List.pairwise_iff_getElem.1 HSI.out) i j hi hj h
    ·exact((List.pairwise_iff_getElem.1 HSI.out) j i hj hi h).symm⟩
   have HFT:Hid (FIn 76 26 3 base k (.slice at_ k ct) rvT (fun j=>(lsT j).length) wr):=⟨HJ.out.tiles.mono (by omega),fun j hj=>⟨_,eU (HOW.out j hj).1 HE.out⟩,HST.out⟩
   have hbq:∀j,j<Q.length→(Q.getD j zTR).d.blocks.length≤1000000:=fun j hj=>HBL.out _ (by rw[aBT,aBU hj];exact aBZ _);have HBQ:=aBO hbq;have HLE2:Hid (∀j,j<k→(lsT j).length≤1000000):=fun j hj=>by have:=HLE.out j hj;omega
   have HQQ:=aBO hQ;clear hbq hQ
   go_wp2_with (first
    |(go_at_call 90;refine(GZ _ w.heap.size Q.length k base av cv at_ ct (fun j=>bsV (Q.getD j zTR)) (fun j=>(Q.getD j zTR).d.blocks.length) rvT (fun j=>(lsT j).length) HJ.out.bag HFI.out HFT.out (by omega) HBQ.out (by omega) HLE2.out (by have:=HE.out.size;omega)).mono ?_;rintro e w2 ⟨rfl,hc2⟩
      have HC2:=aBO hc2
      clear hc2))
   go_ret
   refine⟨rfl,?_⟩;refine((Chg.refl _ w).of_ext HE.out).trans (HC2.out.mono fun g h=>?_);rcases h with ⟨j,hj,e⟩|h
   ·exact .inl ⟨_,by rw[←HQQ.out,aBT,aBU hj];exact aBZ _,e⟩
   ·exact .inr h
end
end Go.Proofs.YtblhmdhfhaencaaGreat
