/-
 Tile:All.
-/
import Derived.Test.YtblhmdhfhaencaaGreatTL
import Derived.Shelf.Small.Wraps
import Derived.Shelf.Sort.Plain
import Derived.Shelf.Bits.Mul64
import Derived.Shelf.Slices.Reverse
import Derived.Ground.Names2Prog
import Derived.Shelf.Slices.Clone
import Derived.Shelf.Slices.CompactI
import Derived.Shelf.Slices.In.SortNone
import Derived.Shelf.SlicesE.Reverse
import Derived.Test.YtblhmdhfhaencaaGreatProg
import Derived.Test.YtblhmdhfhaencaaGreatTF
import Derived.Deep.OwnRows
import Derived.Laws.CopyOwn
import Derived.Deep.LoopGhost
import Derived.Deep.DeepCutAuto
import Derived.Test.YtblhmdhfhaencaaGreatBR
import Derived.BigQuiet
namespace Go.Proofs.YtblhmdhfhaencaaGreat
set_option linter.unusedSimpArgs false
set_option linter.unusedVariables false
set_option linter.unusedSectionVars false
set_option maxRecDepth 100000
set_option maxHeartbeats 40000000
section
open Go.RowKit
theorem VB(w:World):(zeroValue 3).run Tryz.prog w=.ok (.int .i64 0) w:=by kernel_rfl
def ZR(w:World)(ls:List bK)(k m M:Nat)(v:Value)(wr:World):Prop:=
 nM wr M (fL (aJ ls) k m)∧bN wr (M+1) v (nW (aJ ls) k m)∧Below w.heap.size w wr∧w.heap.size≤M∧M<wr.heap.size
theorem uY(a:Option Addr)(n c:Nat)(ls:List bK)(k:Int)(w:World)(h:cM w a n ls)(hk:I64 k)(hT:gZ (aJ ls)≤1000000):
  Calls Tryz.prog 39 #[.slice a n c,.int .i64 k] w (gV w (fK (aJ ls) k)):=by
 have hn:=h.1.2.1
 have HL:=aBO h.1.1
 have H:=aBO h
 obtain⟨hk1,hk2⟩:=hk
 clear h
 by_cases hr:0≤k∧k<n
 rotate_left
 ·have HE:Hid (fK (aJ ls) k= []):=by
   rw[Hid,fK,if_neg];rw[cQ,HL.out];exact fun h=>hr ⟨h.1,h.2.1⟩
  by_cases h0:k<0
  all_goals
   go_enter Tryz.func39,Tryz.ntmps39
   go_wp2
   go_ret
   rw[HE.out];exact⟨_,rfl,bN.nil _ _,aBQ _ _⟩
 obtain⟨hr1,hr2⟩:=hr
 have hr3:¬k<0:=by omega
 obtain⟨kn,rfl⟩:∃kn:Nat,k=(kn:Int):=⟨k.toNat,by omega⟩
 by_cases hp:cD (aJ ls)=true
 rotate_left
 ·have HE:Hid (fK (aJ ls) (kn:Int)= []):=by
   rw[Hid,fK,if_neg];exact fun h=>hp h.2.2
  have hp':cD (aJ ls)=false:=by simpa using hp
  have HP:=aBO hp';clear hp hp'
  go_enter Tryz.func39,Tryz.ntmps39
  go_wp2_with (go_at_call 92;refine(oY a n c ls w H.out).mono ?_;rintro e w1 ⟨rfl,hb⟩;rw[HP.out];have HB:=aBO hb;clear hb)
  go_ret
  rw[HE.out];exact⟨_,rfl,bN.nil _ _,HB.out⟩
 have HP:=aBO hp
 have hkl:kn<ls.length:=by rw[HL.out];omega
 have HEA:Hid (fK (aJ ls) (kn:Int)=oR (nW (aJ ls) kn (aJ ls).length)):=by
  rw[Hid,fK,if_pos ⟨by omega,by rw[cQ];omega,hp⟩,Int.toNat_natCast]
 clear hp
 have hmm:= @run_makeMap Tryz.prog
 go_enter Tryz.func39,Tryz.ntmps39
 go_upto_region 3 with (first
  |(go_at_call 92
    refine(oY a n c ls w H.out).mono ?_;rintro e w1 ⟨rfl,hb⟩;rw[HP.out];have HB:=aBO hb
    clear hb))
 obtain⟨o0,hput0,hmap0⟩:=nM.put (P:=Tryz.prog) (nM.made w1) Tryz.underlying157 Tryz.underlying3 (kn:Int) (.int .i64 1)
 rw[MV (aJ ls)] at hmap0
 have HM0:=aBO hmap0
 clear hmap0
 go_upto_region 4 with (fail)
 obtain⟨W,hW⟩:∃W,W=(w1.alloc (.map #[] 0)).putObj w1.heap.size o0:=⟨_,rfl⟩
 rw[←hW]
 rw[←hW] at HM0
 have hWB:Below w1.heap.size w1 W:=by rw[hW];exact((aBQ _ w1).alloc (aBV _) _).grown (grownBy_putObj' _ w1.heap.size o0) (by simp) (fun k e=>by cases e;exact aBV _)
 have hWs:W.heap.size=w1.heap.size+1:=by rw[hW];simp
 have HWB:=aBO hWB
 have HWs:=aBO hWs
 obtain⟨t,b,o,hlk,hok,rfl,c0,c1,c2⟩:=((H.out.ext HB.out).ext hWB).cells (k:=kn) (by omega)
 have HTK:Hid (eW (aJ ls) kn=t.d.blocks):=by rw[Hid,eW,iM ls kn t hlk]
 have HOK:=aBO hok.1
 clear hput0 hmm hW hWB hWs hlk hok
 go_upto_region 5 with (first
  |(go_at_call 93
    refine(tU t.ba t.bn t.bc t.d.blocks W HOK.out).mono ?_;rintro e w2 ⟨v,rfl,ho,hb⟩;have HO:=aBO ho;have HB2:=aBO hb
    clear ho hb))
 have HJ0:Hid (ZR w ls kn 0 w1.heap.size v w2):=by
  refine⟨HM0.out.ext HB2.out,?_,aA (aA HB.out HWB.out) HB2.out,HB.out.size,?_⟩
  ·have h1:=HO.out.mono (base':=w1.heap.size+1) (by rw[HWs.out];omega);rw[RX,HTK.out];exact h1
  ·have:=HB2.out.size;rw[HWs.out] at this;omega
 generalize w1.heap.size=M at*
 clear c0 c1 c2 HOK HTK HO HB2 HM0 HWB HWs HB
 go_wp2
 go_loopg [6,33] n (fun gg s6 s33 wr=>∃(m:Nat),s33=.int .i64 (m:Int)∧m≤n∧n≤gg+m∧Hid (ZR w ls kn m M s6 wr))
 case atStart=>exact⟨0,rfl,Nat.zero_le _,aBV _,HJ0⟩
 case round=>
  obtain⟨m,rfl,hm,hgg,HJ⟩:=hrel;clear HJ0;by_cases hlt:m<n
  ·have hml:m<(aJ ls).length:=by rw[cQ,HL.out];exact hlt
   have hkl2:kn<(aJ ls).length:=by rw[cQ];exact hkl
   obtain⟨t,b2,o2,hlk,hok,e2,c0',c1',c2'⟩:=H.out.cells hlt;have c0:=aH HJ.out.2.2.1 c0';have c1:=aH HJ.out.2.2.1 c1';have c2:=aH HJ.out.2.2.1 c2';clear c0' c1' c2';injection e2 with e2;injection e2 with e2 e3;subst e2 e3;have htd:=iM ls m t hlk;have HTP:Hid (fJ (aJ ls) m=t.d.parent):=by rw[Hid,fJ,htd]
   have HTB:Hid (eW (aJ ls) m=t.d.blocks):=by rw[Hid,eW,htd]
   have HRS:=aBO (RY HP.out kn m hkl2 hml);have HBS:=aBO (MW HP.out kn m hkl2 hml);have HBP:=aBO (PK HP.out kn m hml);have HRL:=aBO (IR (aJ ls) kn m (by omega));have HOK:=aBO hok.1;have hp1:=hok.2.2.2.1;have hp2:=hok.2.2.2.2;have hbl:t.d.blocks.length=t.bn:=hok.1.1;have hble:=FZ (aJ ls) m;rw[HTB.out,hbl] at hble;have HBL:=aBO hbl;clear hlk htd hok hbl;go_upto_region 8 with (fail)
   obtain⟨W1,hW1⟩:∃W1,W1=wr.alloc (kZ t):=⟨_,rfl⟩
   rw[←hW1];have hB1:Below wr.heap.size wr W1:=by rw[hW1];exact aD _ _
   have hx1:W1.heap[wr.heap.size]? =some (kZ t):=by rw[hW1,aBS]
   have d1:W1.cell? ⟨wr.heap.size,1,none⟩=some (.int .i64 t.d.parent):=by rw[aBP _ _ _ _ _ _ hx1];rfl
   have d2:W1.cell? ⟨wr.heap.size,2,none⟩=some (.slice t.ba t.bn t.bc):=by rw[aBP _ _ _ _ _ _ hx1];rfl
   have HIM:=aBO (HJ.out.1.ext hB1);have HO:=aBO (HJ.out.2.1.ext hB1);have HBW:=aBO (aA HJ.out.2.2.1 hB1);have hMs:M<W1.heap.size:=by have:=HJ.out.2.2.2.2;have:=hB1.size;omega
   have hwM:=HJ.out.2.2.2.1;have hqM:M<wr.heap.size:=HJ.out.2.2.2.2;have hlk:=nM.look (w:=W1) (P:=Tryz.prog) HIM.out Tryz.underlying157 Tryz.underlying3 (VB _) t.d.parent;have HX1:=aBO hx1;have HB1:=aBO hB1;clear hW1 hx1 hB1 c0 c1 c2 HJ;generalize hq:wr.heap.size=q at *;clear hq;have HUP:Hid ((decide (0≤t.d.parent)&&(fL (aJ ls) kn m t.d.parent).isSome)=upB (aJ ls) kn m):=by rw[Hid,←HTP.out];exact HBP.out
   have HLK:Hid (∀x,fL (aJ ls) kn m x=none∨fL (aJ ls) kn m x=some (.int .i64 1)):=fun x=>by
    unfold fL;by_cases hc:x=kn∨(0≤x∧x<m∧fX (aJ ls) kn x.toNat=true)
    ·exact .inr (if_pos hc)
    ·exact .inl (if_neg hc)
   cases hu:upB (aJ ls) kn m with
   |false=>
    have HN:Hid (ZR w ls kn (m+1) M u6 W1):=by
     refine⟨?_,?_,HBW.out,hwM,hMs⟩
     ·rw[HBS.out,hu];exact HIM.out
     ·rw[HRS.out,hu];exact HO.out
    have hu2:=HUP.out;rw[hu] at hu2;by_cases h0:0≤t.d.parent
    ·have hno:fL (aJ ls) kn m t.d.parent=none:=by
      rcases HLK.out t.d.parent with e|e
      ·exact e
      ·rw[e,decide_eq_true h0] at hu2;cases hu2
     rw[hno] at hlk;simp only[Option.getD_none] at hlk;clear hu2 hu hno;go_wp2
     go_roundg (n-(m+1))
     case measure=>omega
     case rel=>exact⟨m+1,by go_num,by omega,by omega,HN⟩
    ·clear hu2 hu hlk;go_wp2
     go_roundg (n-(m+1))
     case measure=>omega
     case rel=>exact⟨m+1,by go_num,by omega,by omega,HN⟩
   |true=>
    have hu2:=HUP.out;rw[hu] at hu2;have h0:0≤t.d.parent:=by
     by_cases h0:0≤t.d.parent
     ·exact h0
     ·rw[decide_eq_false h0] at hu2;cases hu2
    have hyes:fL (aJ ls) kn m t.d.parent=some (.int .i64 1):=by
     rcases HLK.out t.d.parent with e|e
     ·rw[e,decide_eq_true h0] at hu2;cases hu2
     ·exact e
    rw[hyes] at hlk;simp only[Option.getD_some] at hlk;obtain⟨o1,hput1,hmap1⟩:=nM.put (P:=Tryz.prog) HIM.out Tryz.underlying157 Tryz.underlying3 (m:Int) (.int .i64 1);have hgp:=grownBy_putObj' W1 M o1;have HIM2:Hid (nM (W1.putObj M o1) M (fL (aJ ls) kn (m+1))):=by rw[Hid,HBS.out,hu];exact hmap1
    have HR2:Hid (nW (aJ ls) kn (m+1)=nW (aJ ls) kn m++t.d.blocks):=by rw[Hid,HRS.out,hu,←HTB.out];rfl
    have hlow:∀r,u6.ownBlock=some r→M+1≤r:=fun r e=>(HO.out.1.lt r e).1
    have HO2:=aBO (HO.out.kept hgp (by
     cases e:u6.ownBlock with
     |none=>exact .inl rfl
     |some r=>exact .inr fun e2=>by injection e2 with e2;have:=hlow r e;omega))
    have HBW2:=aBO (HBW.out.grown hgp (by omega) (fun r e=>by cases e;exact hwM));have hx2:(W1.putObj M o1).heap[q]? =some (kZ t):=(World.putObj_heap_other (by omega)).trans HX1.out;have d3:(W1.putObj M o1).cell? ⟨q,2,none⟩=some (.slice t.ba t.bn t.bc):=by rw[aBP _ _ _ _ _ _ hx2];rfl
    have HI2:Hid (dY (W1.putObj M o1) t.ba t.bn t.d.blocks):=HOK.out.ext HBW2.out;have hsz2:(W1.putObj M o1).heap.size=W1.heap.size:=by simp
    obtain⟨av,cv,hv⟩:=HO.out.form;have hrl:=HRL.out;have hh:=HO.out.2.1;clear hu2 hu hyes hmap1 hgp hx2;have HHH:=aBO hh;clear hh
    go_wp2_with (
     (at_builtin
      refine fN (W1.putObj M o1) rfl (.tmp 50) (.tmp 52) 22 3 rfl (M+1) _ 1 8 Tryz.underlying22 lY rfl (by omega) u6 (nW (aJ ls) kn m).length _ rfl HO2.out.1 t.ba t.bn t.bc rfl (bC t.d.blocks) (by rw[yI,HBL.out,Nat.mul_one]) HI2.out.news (rR _) (by simp only[maxLen];omega) (by omega) (by simp;omega) ?_;intro v3 w3 ho3 hg3 hv3;have HO3:=aBO ho3;have HG3:=aBO hg3
      clear ho3 hg3 hv3))
    go_roundg (n-(m+1))
    case measure=>omega
    case rel=>
     refine⟨m+1,by go_num,by omega,by omega,HIM2.out.grown HG3.out (fun e=>by have:=hlow M e.symm;omega),?_,HBW2.out.grown HG3.out (by rw[hsz2];omega) (fun r e=>by have:=hlow r e;omega),hwM,by have:=HG3.out.size;rw[hsz2] at this;omega⟩;rw[HR2.out];refine⟨?_,?_,by rw[List.length_append,HBL.out];omega⟩
     ·have e3:(nW (aJ ls) kn m++t.d.blocks).length=(nW (aJ ls) kn m).length+t.bn:=by rw[List.length_append,HBL.out]
      have e4:bC (nW (aJ ls) kn m++t.d.blocks)=bC (nW (aJ ls) kn m)++bC t.d.blocks:=by simp[bC]
      rw[e3,e4];exact HO3.out
     ·intro z hz;rcases aCA.1 hz with hz|hz
      ·exact HHH.out z hz
      ·exact HOK.out.mem z hz
  ·obtain rfl:m=n:=by omega
   have HJ1:=HJ.out.2.1;have HJ2:=aBO HJ.out.2.2;have HO:=aBO HJ1;clear HJ1 HJ
   go_wp2_with (first
    |(go_at_call 95
      refine(GY _ _ _ w4 HO4.out).mono ?_;rintro e w5 ⟨v5,rfl,ho,hg⟩;have HO5:=aBO ho;have HG5:=aBO hg
      clear ho hg)
    |(go_at_call 94
      refine(RS _ _ _ wr HO.out).mono ?_;rintro e w4 ⟨rfl,ho,hg⟩;have HO4:=aBO ho;have HG4:=aBO hg
      clear ho hg))
   go_ret
   have e1:(aJ ls).length=m:=by rw[cQ,HL.out]
   rw[HEA.out,e1,←GX];have hlow:∀r,u6.ownBlock=some r→M+1≤r:=fun r e=>(HO.out.1.lt r e).1;have hs4:=HG4.out.size;refine⟨_,rfl,HO5.out.mono (by have:=HJ2.out.2.1;omega),(HJ2.out.1.grown HG4.out HJ2.out.1.size (fun r e=>by have:=hlow r e;have:=HJ2.out.2.1;omega)).grown HG5.out (by have:=HJ2.out.1.size;omega) (fun r e=>by have:=hlow r e;have:=HJ2.out.2.1;omega)⟩
end

section
open Go.Shelf
def LU:Go.Shelf.Ren:=⟨fun|212=>194|263=>213|264=>214|n=>n,fun|46=>209|51=>226|146=>277|53=>228|148=>279|n=>n,fun|n=>n⟩
theorem YO:Go.Proofs.Lays.n212 Tryz.prog LU:={
 mixed:=by kernel_rfl
 f212:=Tryz.func194.trans (congrArg some (by kernel_rfl))
 f263:=Tryz.func213.trans (congrArg some (by kernel_rfl))
 f264:=Tryz.func214.trans (congrArg some (by kernel_rfl))
 t46:=Tryz.underlying209
 a46:=Tryz.isAgg209
 z46:=Tryz.sizeOf209
 v46:=Tryz.zeroValue209
 t51:=Tryz.underlying226
 a51:=Tryz.isAgg226
 z51:=Tryz.sizeOf226
 v51:=Tryz.zeroValue226
 t53:=Tryz.underlying228
 a53:=Tryz.isAgg228
 z53:=Tryz.sizeOf228
 v53:=Tryz.zeroValue228
 t146:=Tryz.underlying277
 a146:=Tryz.isAgg277
 z146:=Tryz.sizeOf277
 v146:=Tryz.zeroValue277
 t148:=Tryz.underlying279
 a148:=Tryz.isAgg279
 z148:=Tryz.sizeOf279
 v148:=Tryz.zeroValue279}
open Go.RowKit Go.Lib in
theorem bits_Mul(x y:Nat)(hx:x<18446744073709551616)(hy:y<18446744073709551616)(w:World):
  Calls Tryz.prog 194 #[.int .u64 x,.int .u64 y] w fun e w'=>e=.returned (.tuple #[.int .u64 ((x*y/18446744073709551616:Nat):Int),.int .u64 ((x*y%18446744073709551616:Nat):Int)])∧w'=w:=Any.bits_Mul YO x y hx hy w
end

section
open Go.RowKit
theorem VZ{P:Program}{o:Oper}{a:Act}{w:World}{K:Act→World→Prop}{Q:Exit→Act→World→Prop}(hgd:o.guard=none)(d s:Operand)(dT sT:TypeId)
  (ho:o.op=.call {callee:=.builtin .copy,args:=#[d,s],argTypes:=#[dT,sT]}) (elem:TypeId) (hu:P.underlying dT=some (.slice elem)) (hsz:(P.info? elem).map (·.size)=some 1)
  (dp sp:Option Addr) (dLen dCap sLen sCap:Nat) (hd:a.eval d=.slice dp dLen dCap) (hs:a.eval s=.slice sp sLen sCap)
  (g off:Nat) (cur:List Value) (t:TypeId) (hg:w.heap[g]? =some (.cells cur.toArray t (0,0))) (cs:List Value) (hn:cs.length=Nat.min sLen dLen)
  (hpos:0<cs.length→dp=some ⟨g,off,none⟩∧∃ad,sp=some ad∧∀j v,cs[j]? =some v→w.cell? (ad.add j)=some v)
  (hfit:off+cs.length≤cur.length) (h1:∀v∈cs,v.oneCell'=true) (B:Nat) (w0:World) (hb:Below B w0 w) (hBg:B≤g)
  (h:∀w',Hid (w'.heap[g]? =some (.cells (splice cur off cs).toArray t (0,0)))→Below B w0 w'→K (a.put o.dst (goInt cs.length)) w'):Oper.wp P o a w K Q:=by
 have:=step_copy_splice (P:=P) (ops:=#[]) (Q:=Q) (E:=True) hgd d s dT sT ho elem hu hsz dp sp dLen dCap sLen sCap hd hs g off cur t hg cs hn hpos hfit h1 B w0 hb hBg h
 rwa [if_pos (by simp[Region.wanted,hgd])] at this
def rB(x:Int)(n j:Nat):List Value:=List.replicate j (.int .i64 x)++List.replicate (n-j) (.int .i64 0)
theorem IQ(x:Int)(n j:Nat)(h:j≤n):(rB x n j).length=n:=by simp[rB];omega
theorem yC(x:Int)(n j m:Nat)(h:j+m≤n):splice (rB x n j) j (List.replicate m (.int .i64 x))=rB x n (j+m):=by
 unfold splice rB
 rw[List.take_append_of_le_length (by simp),aCB (by simp),List.drop_append,List.length_replicate,List.length_replicate,List.drop_of_length_le (by simp),List.nil_append,List.drop_replicate,←List.append_assoc]<;>try rw[List.replicate_append_replicate,show n-j-(j+m-j)=n-(j+m) by omega]
theorem YH(x:Int)(n j i:Nat)(hi:i<j):(rB x n j)[i]? =some (.int .i64 x):=by
 unfold rB
 rw[aCC (by simpa using hi)]
 simp[hi]
theorem NZ(n g:Nat)(x:Int)(hx:I64 x)(h1:1≤n)(h2:n≤1000000)(w:World)(hc:w.cell? ⟨g,0,none⟩=some (.int .i64 x)):
  Calls Tryz.prog 158 #[.slice (some ⟨g,0,none⟩) 1 1,.int .i64 (n:Int)] w (gV w (List.replicate n x)):=by
 have HC:=aBO hc
 clear hc
 have e1:1*n/18446744073709551616=0:=Nat.div_eq_of_lt (by omega)
 have e2:1*n%18446744073709551616=n:=by rw[Nat.one_mul];exact Nat.mod_eq_of_lt (by omega)
 have E1:=aBO e1
 have E2:=aBO e2
 clear e1 e2
 have hmk:=run_make_row' (P:=Tryz.prog) 22 3 (.int .i64 0) 8 Tryz.underlying22 lY rfl .i64 .i64 n (by omega) (by omega) w
 go_enter Tryz.func158,Tryz.ntmps158
 go_upto_region 7 with (first
  |(go_at_call 194
    refine(bits_Mul 1 n (by omega) (by omega) w).mono ?_;rintro e w' ⟨rfl,he⟩;obtain rfl:=he.symm
    rw[E1.out,E2.out]))
 obtain⟨W,hW⟩:∃W,W=w.alloc (.cells (madeCells #[.int .i64 0] n) 3):=⟨_,rfl⟩
 rw[←hW]
 have hg0:W.heap[w.heap.size]? =some (.cells (rB x n 0).toArray 3 (0,0)):=by
  rw[hW,aBS]
  congr 2
  apply Array.ext_getElem?;intro k;by_cases hk:k<n
  ·simp[madeCells,rB,hk,Nat.mod_one]
  ·rw[Array.getElem?_eq_none (by simp[madeCells];omega),Array.getElem?_eq_none (by simp[rB];omega)]
 have hB:Below w.heap.size w W:=by rw[hW];exact(aBQ _ w).alloc (aBV _) _
 have HG0:=aBO hg0
 have HB:=aBO hB
 have hsz:(Tryz.prog.info? 3).map (·.size)=some 1:=by kernel_rfl
 have HSZ:=aBO hsz
 have HCW:=aBO (aH hB HC.out)
 clear hW hg0 hB hmk hsz
 go_wp2_with (
  (refine wpList_copy_splice (o:=⟨some 33,_,_,_,_,_⟩) rfl (.tmp 31) (.tmp 32) 22 22 rfl 3 Tryz.underlying22 HSZ.out (some ⟨w.heap.size,0,none⟩) (some ⟨g,0,none⟩) n n 1 1 rfl rfl w.heap.size 0 (rB x n 0) 3 HG0.out (List.replicate 1 (.int .i64 x)) (by simp[Nat.min_def];omega) (fun _=>⟨rfl,_,rfl,fun j v hj=>by
    have hj0:j=0:=by have:=(aBX.1 hj).1;simpa using this
    subst hj0;have hv:v=.int .i64 x:=by simpa using hj.symm
    subst hv;rw[rL]
    exact HCW.out⟩) (by rw[IQ _ _ _ (by omega)];simp;omega) (by intro v hv;have:=(List.mem_replicate.1 hv).2;subst this;rfl) w.heap.size w HB.out (aBV _) ?_
   intro w2 hg2 hb2;have HG2:=hg2;have HB2:=aBO hb2
   clear hg2 hb2))
 rw[yC _ _ _ _ (by omega),Nat.zero_add] at HG2
 clear HG0 HB HCW
 go_loopg [8] n (fun gg s8 wr=>∃(j:Nat),s8=.int .i64 (j:Int)∧1≤j∧j≤n∧n≤gg+j∧Hid (wr.heap[w.heap.size]? =some (.cells (rB x n j).toArray 3 (0,0)))∧Hid (Below w.heap.size w wr))
 case atStart=>exact⟨1,rfl,aBV _,h1,by omega,HG2,HB2⟩
 case round=>
  obtain⟨j,rfl,hj1,hj2,hgg,HG,HB⟩:=hrel;clear HG2 HB2;by_cases hlt:j<n
  ·have hm1:1≤Nat.min j (n-j):=by simp[Nat.min_def];split<;>omega
   have hm2:j+Nat.min j (n-j)≤n:=by simp[Nat.min_def];split<;>omega
   have hm3:Nat.min j (n-j)≤j:=Nat.min_le_left _ _;have hlt':(j:Int)<(n:Int):=by omega
   have hj0:(0:Int)≤(j:Int):=by omega
   go_upto_region 9 with (fail)
   refine oU (fun w'=>∃q:mD (fun q=>Below w.heap.size w q),w'=q.val) (by kernel_rfl) ?_;obtain⟨v0,F0,G0,hv0⟩:∃v0,Below w.heap.size w v0∧v0.heap[w.heap.size]? =some (.cells (rB x n j).toArray 3 (0,0))∧wr.drew=v0:=⟨_,rY HB.out 1,HG.out,rfl⟩
   rw[hv0];clear hv0
   haveI:Nonempty (mD (fun q=>Below w.heap.size w q)):=wV (aBQ _ _)
   refine cP 0 7 (by kernel_rfl) ⟨⟨_,F0⟩,rfl⟩ ?_;simp only[List.take_succ_cons,List.take_zero,List.drop_succ_cons,List.drop_zero]
   repeat (go_big_quiet_step (fail))
   refine wpQuiet_nil ?_;refine eQ 7 (by kernel_rfl) ?_;refine dP rfl rfl ?_
   refine VZ rfl (.tmp 41) (.tmp 44) 22 22 rfl 3 Tryz.underlying22 HSZ.out (some ⟨w.heap.size,j,none⟩) (some ⟨w.heap.size,0,none⟩) (n-j) (n-j) j n rfl rfl w.heap.size j (rB x n j) 3 G0 (List.replicate (Nat.min j (n-j)) (.int .i64 x)) (by simp) (fun _=>⟨rfl,_,rfl,fun i v hi=>by
    have hi0:i<Nat.min j (n-j):=by have:=(aBX.1 hi).1;simpa using this
    have hv:v=.int .i64 x:=by rw[List.getElem?_replicate,if_pos hi0] at hi;injection hi with hi;exact hi.symm
    subst hv;rw[rL,aBP _ _ _ _ _ _ G0,Nat.zero_add];have:=YH x n j i (by omega)
    simpa using this⟩) (by rw[IQ _ _ _ hj2];simpa using hm2) (by intro v hv;have:=(List.mem_replicate.1 hv).2;subst this;rfl) w.heap.size w F0 (aBV _) ?_
   intro w3 hg3 hb3;rw[List.length_replicate];rw[yC _ _ _ _ hm2] at hg3;generalize Nat.min j (n-j)=m at *;simp only[goInt];refine⟨Or.inr ⟨⟨_,hb3⟩,rfl⟩,?_⟩
   try simp only[Act.put,List.setIfInBounds_toArray,List.set_cons_succ,List.set_cons_zero]
   refine cP 8 2 (by kernel_rfl) ⟨⟨_,hb3⟩,rfl⟩ ?_;simp only[List.take_succ_cons,List.take_zero,List.drop_succ_cons,List.drop_zero]
   repeat (go_big_quiet_step (fail))
   refine wpQuiet_nil ?_;refine mE (by kernel_rfl) ?_;clear hlt';go_wp2
   go_roundg (n-(j+m))
   case measure=>omega
   case rel=>exact⟨j+m,by go_num,by omega,hm2,by omega,hg3,hb3⟩
  ·obtain rfl:j=n:=by omega
   go_wp2
   go_ret
   refine⟨_,rfl,⟨⟨by simp[bC],.inr ⟨w.heap.size,j,(rB x j j).toArray,by simp,aBV _,HG.out,by simp,by unfold maxLen;omega,by simp[rB],by simp[rB,bC]⟩⟩,?_,by simp;omega⟩,HB.out⟩;intro z hz;rw[(List.mem_replicate.1 hz).2];exact hx
end

section
open Go.RowKit
def bX(l:List bI)(k i b:Nat):List Nat:=((List.range k).flatMap fun q=>((eW l q).filter fun x=>x==(b:Int)).map fun _=>q)++(((eW l k).take i).filter fun x=>x==(b:Int)).map fun _=>k
theorem nP(l:List bI)(b:Nat):bX l 0 0 b= []:=by simp[bX]
theorem nQ(l:List bI)(k b:Nat):bX l k (eW l k).length b=bX l (k+1) 0 b:=by
 simp only[bX,List.take_length,List.range_succ,List.flatMap_append,List.flatMap_cons,List.flatMap_nil,List.append_nil,List.take_zero,List.filter_nil,List.map_nil]
theorem jX(l:List bI)(b:Nat):bX l l.length 0 b=iC l b:=by simp[bX,iC]
theorem iP(l:List bI)(k i:Nat)(x:Int)(h:(eW l k)[i]? =some x)(b:Nat):bX l k (i+1) b=if (b:Int)=x then bX l k i b++ [k] else bX l k i b:=by
 have e:(eW l k).take (i+1)=(eW l k).take i++ [x]:=by rw[List.take_add_one,h];rfl
 simp only[bX,e,List.filter_append,List.map_append]
 by_cases hb:(b:Int)=x
 ·rw[←hb];simp
 ·have:(x==(b:Int))=false:=by simpa using fun e=>hb e.symm
  simp[hb,this]
theorem BS(l:List bI)(k i b:Nat)(hk:k<l.length):∃r,iC l b=bX l k i b++r:=by
 have h1:∃r,bX l k (eW l k).length b=bX l k i b++r:=by
  refine⟨(((eW l k).drop i).filter fun x=>x==(b:Int)).map fun _=>k,?_⟩;simp only[bX,List.take_length,List.append_assoc]
  congr 1
  rw[←List.map_append,←List.filter_append,List.take_append_drop]
 obtain⟨r,hr⟩:=h1
 have h2:∀m,k+1≤m→∃r,bX l m 0 b=bX l (k+1) 0 b++r:=by
  intro m
  induction m with
  |zero=>intro h;omega
  |succ m ih=>
   intro hm;by_cases e:m=k
   ·subst e;exact⟨[],by simp⟩
   ·obtain⟨r,hr⟩:=ih (by omega);refine⟨r++((eW l m).filter fun x=>x==(b:Int)).map fun _=>m,?_⟩;rw[←List.append_assoc,←hr];simp[bX,List.range_succ]
 obtain⟨r2,hr2⟩:=h2 l.length (by omega)
 refine⟨r++r2,?_⟩
 rw[←jX,hr2,←nQ,hr,List.append_assoc]
def yT:List Nat→Int
 | []=>-1
 |k :: _=>(k:Int)
theorem IX(h:List Nat):yT h<0↔h= []:=by cases h<;>simp[yT]
def iX(l:List bI)(n k i:Nat):List Int:=(List.range n).map fun b=>yT (bX l k i b)
theorem AW(l:List bI)(n k i:Nat):(iX l n k i).length=n:=by simp[iX]
theorem YZ(l:List bI)(n k i b:Nat)(h:b<n):(iX l n k i).getD b 0=yT (bX l k i b):=by simp[iX,aBT,h]
theorem XJ(l:List bI)(n k i b:Nat)(hx:(eW l k)[i]? =some (b:Int))(h0:bX l k i b= []):(iX l n k i).set b (k:Int)=iX l n k (i+1):=by
 apply List.ext_getElem?
 intro j
 rw[List.getElem?_set]
 simp only[iX,List.length_map,List.length_range,List.getElem?_map]
 by_cases hj:j<n
 ·rw[List.getElem?_range hj];by_cases e:b=j
  ·subst e;simp[hj,iP l k i (b:Int) hx b,h0,yT]
  ·rw[if_neg e];have e2:¬(j:Int)=(b:Int):=by omega
   simp[iP l k i (b:Int) hx j,e2]
 ·rw[List.getElem?_eq_none (by simpa using hj)];by_cases e:b=j
  ·subst e;simp[hj]
  ·simp[e]
theorem TQ(l:List bI)(n k i:Nat)(x:Int)(hx:(eW l k)[i]? =some x)(h:x<0∨(n:Int)≤x):iX l n k i=iX l n k (i+1):=by
 unfold iX
 refine List.map_congr_left fun b hb=>?_
 have:=List.mem_range.1 hb
 rw[iP l k i x hx b,if_neg (by omega)]
theorem TR(l:List bI)(n k:Nat):iX l n k (eW l k).length=iX l n (k+1) 0:=by
 unfold iX
 exact List.map_congr_left fun b _=>by rw[nQ]
theorem TP(l:List bI)(n:Nat):iX l n 0 0=List.replicate n (-1):=by
 apply List.ext_getElem?
 intro j
 by_cases hj:j<n<;>simp[iX,nP,yT,hj]
theorem XK(l:List bI)(n:Nat)(h1:∀b,b<n→(iC l b).length≤1)(h2:(-1:Int)∉iX l n l.length 0):lU l n=true∧iX l n l.length 0=nL l n:=by
 have h3:∀b,b<n→iC l b≠[]:=fun b hb e=>by
  apply h2;unfold iX;rw[List.mem_map];exact⟨b,List.mem_range.2 hb,by rw[jX,e];rfl⟩
 constructor
 ·simp only[lU,List.all_eq_true,List.mem_range,beq_iff_eq];intro b hb;have:=h1 b hb;have:=List.length_pos_iff.2 (h3 b hb);omega
 ·unfold iX nL;refine List.map_congr_left fun b hb=>?_;rw[jX,rA];cases e:iC l b with
  |nil=>exact absurd e (h3 b (List.mem_range.1 hb))
  |cons k r=>rfl
theorem FR(l:List bI)(n b:Nat)(hb:b<n)(h:(iC l b).length≠1):lU l n=false:=by
 rw[Bool.eq_false_iff]
 intro h2
 simp only[lU,List.all_eq_true,List.mem_range,beq_iff_eq] at h2
 exact h (h2 b hb)
theorem YY(l:List bI)(n k i:Nat)(hk:k≤20000000000000):∀x∈iX l n k i,I64 x:=by
 intro x hx
 unfold iX at hx
 rw[List.mem_map] at hx
 obtain⟨b,_,rfl⟩:=hx
 have hq:∀q∈bX l k i b,q≤k:=by
  intro q hq;simp only[bX,aCA,List.mem_flatMap,List.mem_range,List.mem_map] at hq;rcases hq with ⟨p,hp,_,_,rfl⟩|⟨_,_,rfl⟩<;>omega
 unfold I64
 cases e:bX l k i b with
 |nil=>simp[yT]
 |cons q r=>
  have:=hq q (by rw[e];simp);simp only[yT];omega
def OwJ(w:World)(l:List bI)(bn k i:Nat)(v:Value)(wr:World):Prop:=bN wr w.heap.size v (iX l bn k i)∧(∀b,b<bn→(bX l k i b).length≤1)∧Below w.heap.size w wr
def ZI(w:World)(l:List bI)(n:Nat)(e:Ending)(w':World):Prop:=
 ∃v,e=.returned v∧Below w.heap.size w w'∧(lU l n=true→∃g c,v=.slice (some ⟨g,0,none⟩) n c∧bN w' w.heap.size v (nL l n))∧(lU l n=false→v=iY)
theorem QD(d:fD)(hd1:1≤d.bn)(hd2:d.bn≤200)(a:Option Addr)(n c:Nat)(ls:List bK)(w:World)(h:cM w a n ls):
  Calls Tryz.prog 91 #[dK d,.slice a n c] w (ZI w (aJ ls) d.bn):=by
 have hn:=h.1.2.1
 have HL:=aBO h.1.1
 have H:=aBO h
 clear h
 go_enter Tryz.func91,Tryz.ntmps91
 go_wp2_with (
  (go_at_call 158
   refine(NZ d.bn (w.heap.size+1) (-1) (by unfold I64;omega) hd1 (by omega) _ (by rw[aBP _ _ _ _ _ _ (aU _ _ _ (by simp))];rfl)).mono ?_;rintro e w2 ⟨v,rfl,ho,hb⟩;have HO:=aBO ho;have HB:=aBO (aA ((aD _ _).alloc (by simp) _) hb)
   clear ho hb))
 have hfm:∃g c,v=.slice (some ⟨g,0,none⟩) d.bn c:=by
  have:=eI HO.out.1 (by simp;omega);simpa using this
 obtain⟨G,C,rfl⟩:=hfm
 have HO0:Hid (bN w2 w.heap.size (.slice (some ⟨G,0,none⟩) d.bn C) (iX (aJ ls) d.bn 0 0)):=by rw[Hid,TP];exact HO.out.mono (by simp;omega)
 clear HO
 go_loopg [18] n (fun gg s wr=>∃(k:Nat),s=.int .i64 (k:Int)∧k≤n∧n≤gg+k∧Hid (OwJ w (aJ ls) d.bn k 0 (.slice (some ⟨G,0,none⟩) d.bn C) wr))
 case atStart=>exact⟨0,rfl,Nat.zero_le _,aBV _,HO0.out,fun b _=>by rw[nP];simp,HB.out⟩
 case round=>
  obtain⟨k,rfl,hk,hgg,HJ⟩:=hrel;clear HO0 HB;by_cases hlt:k<n
  ·have hkl:k<(aJ ls).length:=by rw[cQ,HL.out];exact hlt
   obtain⟨t,b,o,hlk,hok,rfl,c0',c1',c2'⟩:=H.out.cells hlt;have c0:=aH HJ.out.2.2 c0';have c1:=aH HJ.out.2.2 c1';have c2:=aH HJ.out.2.2 c2';clear c0' c1' c2';have HTB:Hid (eW (aJ ls) k=t.d.blocks):=by rw[Hid,eW,iM ls k t hlk]
   have HOK:=aBO hok.1;have hbl:t.d.blocks.length=t.bn:=hok.1.1;have hbn:t.bn≤17592186044416:=hok.1.2.1;have HBL:=aBO hbl;have HCW:Hid (∃t',(aJ ls).getD k fC=t'):=⟨_,rfl⟩
   clear hlk hok hbl HCW;generalize htba:t.ba=tba at *;have HTBA:=aBO htba;clear htba;go_upto_region 5 with (fail)
   obtain⟨W1,hW1⟩:∃W1,W1=wr.alloc (.cells #[.int .i64 t.d.kind,.int .i64 t.d.parent,.slice tba t.bn t.bc] 76):=⟨_,rfl⟩
   rw[←hW1];have hB1:Below wr.heap.size wr W1:=by rw[hW1];exact aD _ _
   have hx1:W1.heap[wr.heap.size]? =some (.cells #[.int .i64 t.d.kind,.int .i64 t.d.parent,.slice tba t.bn t.bc] 76 (0,0)):=by rw[hW1,aBS]
   have d2:W1.cell? ⟨wr.heap.size,2,none⟩=some (.slice tba t.bn t.bc):=by rw[aBP _ _ _ _ _ _ hx1];rfl
   have HJ1:Hid (OwJ w (aJ ls) d.bn k 0 (.slice (some ⟨G,0,none⟩) d.bn C) W1):=⟨HJ.out.1.ext hB1,HJ.out.2.1,aA HJ.out.2.2 hB1⟩
   have HGlt:G<wr.heap.size:=(HJ.out.1.1.lt G rfl).2;clear hW1 hx1 c0 c1 c2 HJ;go_wp2;obtain⟨wo,rfl⟩:∃wo:World,wo=wr:=⟨_,rfl⟩
   go_loopg [26] t.bn (fun g2 s wr=>∃(i:Nat),s=.int .i64 (i:Int)∧i≤t.bn∧t.bn≤g2+i∧Hid (OwJ w (aJ ls) d.bn k i (.slice (some ⟨G,0,none⟩) d.bn C) wr))
   case atStart=>exact⟨0,rfl,Nat.zero_le _,aBV _,HJ1⟩
   case round=>
    obtain⟨i,rfl,hi,hg2,HJ⟩:=hrel;clear HJ1 d2;by_cases hil:i<t.bn
    ·obtain⟨b3,o3,rfl,hcx,hx1,hx2⟩:=(HOK.out.ext HJ.out.2.2).2.2 i hil;have HXI:Hid ((eW (aJ ls) k)[i]? =some (t.d.blocks.getD i 0)):=by
      rw[Hid,HTB.out,aBT,aBU (by rw[HBL.out];exact hil)];rfl
     have hil':(i:Int)<(t.bn:Int):=by omega
     generalize t.d.blocks.getD i 0=x at *;by_cases hxr:0≤x∧x<d.bn
     ·obtain⟨hxr1,hxr2⟩:=hxr;obtain⟨xn,rfl⟩:∃xn:Nat,x=(xn:Int):=⟨x.toNat,by omega⟩
      have hxn:xn<d.bn:=by omega
      have hcw:wr.cell? ⟨G,xn,none⟩=some (.int .i64 (yT (bX (aJ ls) k i xn))):=by
       obtain⟨b4,o4,e4,h4,_⟩:=HJ.out.1.ints.2.2 xn hxn;injection e4 with e4;injection e4 with e5 e6;subst e5 e6;rw[Nat.zero_add,YZ _ _ _ _ _ hxn] at h4;exact h4
      by_cases hh:bX (aJ ls) k i xn= []
      ·have hown:wr.ownsRow w.heap.size 3 1 (.slice (some ⟨G,0,none⟩) d.bn C) d.bn (bC (iX (aJ ls) d.bn k i)):=by have:=HJ.out.1.1;rwa [AW] at this
       have hst:=hown.stored xn (.int .i64 (k:Int));have hno:yT (bX (aJ ls) k i xn)= -1:=by rw[hh];rfl
       rw[hno] at hcw;have HJ2:Hid (OwJ w (aJ ls) d.bn k (i+1) (.slice (some ⟨G,0,none⟩) d.bn C) (wr.setCell ⟨G,xn,none⟩ (.int .i64 (k:Int)))):=by
        refine⟨⟨?_,YY _ _ _ _ (by omega),by rw[AW];omega⟩,fun b hb=>?_,HJ.out.2.2.setCell (by have:=(HJ.out.1.1.lt G rfl).1;exact this) _⟩
        ·have h5:=hst.1;have e5:(bC (iX (aJ ls) d.bn k i)).set xn (.int .i64 (k:Int))=bC (iX (aJ ls) d.bn k (i+1)):=by
          rw[←XJ (aJ ls) d.bn k i xn HXI.out hh];simp[bC,List.map_set]
         rw[e5] at h5;rw[AW];exact h5
        ·rw[iP _ _ _ _ HXI.out];by_cases e:(b:Int)=(xn:Int)
         ·have:b=xn:=by omega
          subst this;rw[if_pos rfl,hh];simp
         ·rw[if_neg e];exact HJ.out.2.1 b hb
       have hfw:=hown.frozenAt xn;have hlw:=(HJ.out.1.1.lt G rfl).2;clear hst hno hh HJ hown;go_wp2
       go_roundg (t.bn-(i+1))
       case measure=>omega
       case rel=>exact⟨i+1,by go_num,by omega,by omega,HJ2⟩
      ·have hge:0≤yT (bX (aJ ls) k i xn):=by
        have:=mt (IX (bX (aJ ls) k i xn)).1 hh;omega
       have HE:Hid (lU (aJ ls) d.bn=false):=by
        refine FR _ _ xn hxn ?_;obtain⟨r,hr⟩:=BS (aJ ls) k (i+1) xn hkl;rw[hr,iP _ _ _ _ HXI.out,if_pos rfl];have:=List.length_pos_iff.2 hh;simp;omega
       have HBW:=aBO HJ.out.2.2;clear hh HJ;generalize yT (bX (aJ ls) k i xn)=ov at *;go_wp2
       go_ret
       exact⟨_,rfl,HBW.out,fun h=>by(rw[HE.out] at h;cases h),fun _=>rfl⟩
     ·have HJ2:Hid (OwJ w (aJ ls) d.bn k (i+1) (.slice (some ⟨G,0,none⟩) d.bn C) wr):=by
       refine⟨?_,fun b hb=>?_,HJ.out.2.2⟩
       ·rw[←TQ (aJ ls) d.bn k i x HXI.out (by omega)];exact HJ.out.1
       ·rw[iP _ _ _ _ HXI.out,if_neg (by omega)];exact HJ.out.2.1 b hb
      clear HJ;by_cases hx0:x<0
      all_goals
       go_wp2
       go_roundg (t.bn-(i+1))
       case measure=>omega
       case rel=>exact⟨i+1,by go_num,by omega,by omega,HJ2⟩
    ·obtain rfl:i=t.bn:=by omega
     have HJ2:Hid (OwJ w (aJ ls) d.bn (k+1) 0 (.slice (some ⟨G,0,none⟩) d.bn C) wr):=by
      have e:t.bn=(eW (aJ ls) k).length:=by rw[HTB.out,HBL.out]
      refine⟨?_,fun b hb=>?_,HJ.out.2.2⟩
      ·rw[←TR,←e];exact HJ.out.1
      ·rw[←nQ,←e];exact HJ.out.2.1 b hb
     clear HJ;go_wp2
     go_roundg (n-(k+1))
     case measure=>omega
     case rel=>exact⟨k+1,by go_num,by omega,by omega,HJ2⟩
  ·obtain rfl:k=n:=by omega
   have hlen:(aJ ls).length=k:=by rw[cQ,HL.out]
   have HO:=aBO HJ.out.1;have HI:=aBO (HJ.out.1.ints);have h1:=HJ.out.2.1;have h1':∀b,b<d.bn→(iC (aJ ls) b).length≤1:=fun b hb=>by have:=h1 b hb;rw[←hlen,jX] at this;exact this
   have HX:=aBO (rS (iX (aJ ls) d.bn k 0) (-1));have HEND:Hid ((-1:Int)∉iX (aJ ls) d.bn k 0→lU (aJ ls) d.bn=true∧iX (aJ ls) d.bn k 0=nL (aJ ls) d.bn):=fun h=>by
    have:=XK (aJ ls) d.bn h1' (by rw[hlen];exact h)
    rwa [hlen] at this
   have HNO:Hid ((-1:Int)∈iX (aJ ls) d.bn k 0→lU (aJ ls) d.bn=false):=fun h=>by
    unfold iX at h;rw[List.mem_map] at h;obtain⟨b,hb,e⟩:=h;refine FR _ _ b (List.mem_range.1 hb) ?_;have e2:=(IX (bX (aJ ls) k 0 b)).1 (by omega);rw[←hlen,jX] at e2;rw[e2];simp
   have HBW:=aBO HJ.out.2.2;clear h1 h1' hlen HJ;by_cases hm:(-1:Int)∈iX (aJ ls) d.bn k 0
   ·have HE:=aBO (HNO.out hm);have hd9:decide (0≤idx (iX (aJ ls) d.bn k 0) (-1))=true:=by
     have:=mt HX.out.1;simp only[decide_eq_true_eq];apply aCF;intro hh;exact(HX.out.1 (by omega)) hm
    have HD9:=aBO hd9;clear hm hd9
    go_wp2_with (go_at_call 159;refine(pF _ _ _ (iX (aJ ls) d.bn k 0) (-1) wr HI.out).mono ?_;rintro e w' ⟨rfl,rfl⟩;rw[HD9.out])
    go_ret
    exact⟨_,rfl,HBW.out,fun h=>by(rw[HE.out] at h;cases h),fun _=>rfl⟩
   ·have HE:=aBO (HEND.out hm);have hd9:decide (0≤idx (iX (aJ ls) d.bn k 0) (-1))=false:=by
     have:=HX.out.2 hm;simp only[decide_eq_false_iff_not];omega
    have HD9:=aBO hd9;clear hm hd9
    go_wp2_with (go_at_call 159;refine(pF _ _ _ (iX (aJ ls) d.bn k 0) (-1) wr HI.out).mono ?_;rintro e w' ⟨rfl,rfl⟩;rw[HD9.out])
    go_ret
    refine⟨_,rfl,HBW.out,fun _=>⟨G,C,rfl,?_⟩,fun h=>by(rw[HE.out.1] at h;cases h)⟩;have:=HO.out;rw[HE.out.2] at this;exact this
end

section
open Go.RowKit Go.Shelf
attribute [local go_sem] Oper.semAt_some cT bM cC bG
theorem KL(f:Nat→Bool)(S:Nat)(x:Nat)(hx:x<200)(W:World)(hS:W.heap[S]? =some (eA f)):
  Calls Tryz.prog 169 (#[.int .i64 (x:Int)]++ #[.pointer (some ⟨S,0,none⟩)]) W fun e W'=>e=.returned (.bool (!f x))∧Below W.heap.size W W':=by
 show Calls Tryz.prog 169 #[.int .i64 (x:Int),.pointer (some ⟨S,0,none⟩)] W _
 have hc:=fE hS x hx
 generalize f x=b at*
 clear hS
 go_enter Tryz.func169,Tryz.ntmps169
 go_wp2
 go_ret
 exact⟨rfl,aBQ _ _⟩
theorem BW(args:Array Value)(w:World):(callFunc 169 args).run Tryz.prog w=.ok (.enter 169 args) w:=enters_of Tryz.func169 (by kernel_rfl) rfl args w
def kA(ts:List aT)(f:Nat→Bool)(b:Nat):Bool:=decide (b<ts.length)&&(pv ts b).any fun x=> !f x
theorem FE(f:Nat→Bool)(l:List Nat):((aO l).any fun z=> !f z.toNat)=l.any fun q=> !f q:=by
 rw[aO,List.any_map]
 rfl
def EJ(w:World)(d:fD)(f:Nat→Bool)(xs:List Int)(W:World):Prop:=
 W.heap[w.heap.size]? =some (kK d)∧W.heap[w.heap.size+1]? =some (eA f)∧W.heap[w.heap.size+1+1+1]? =some (.cells #[.pointer (some ⟨w.heap.size+1,0,none⟩)] 189 (0,0))∧
  (∃v,W.heap[w.heap.size+1+1]? =some (.cells #[v] 22 (0,0))∧bN W (w.heap.size+1+1+1+1) v xs)∧Below w.heap.size w W∧w.heap.size+1+1+1<W.heap.size
theorem EJ.steady{w:World}{d:fD}{f:Nat→Bool}{xs:List Int}{D:Nat}(hD:w.heap.size≤D):aR D (EJ w d f xs):=by
 unfold EJ
 exact(aR.block _ _ rfl).and ((aR.block _ _ rfl).and ((aR.block _ _ rfl).and ((aR.ex fun v=>(aR.block _ _ rfl).and (aR.ownI _ _ _ _)).and ((aR.below (aBV _) hD).and (aR.size _ _)))))
theorem EJ.ext{w W W':World}{d:fD}{f:Nat→Bool}{xs:List Int}(h:EJ w d f xs W)(hb:Below W.heap.size W W'):EJ w d f xs W':=(EJ.steady (aBV _)).ext h hb
theorem EJ.app{w W W':World}{d:fD}{f:Nat→Bool}{xs:List Int}{v:Value}(hv:W.heap[w.heap.size+1+1]? =some (.cells #[v] 22 (0,0)))(ho:bN W (w.heap.size+1+1+1+1) v xs)(h:EJ w d f xs W)(hg:W.grownBy W' v.ownBlock)(v':Value)(x:Int)(hx:I64 x)(hn:xs.length≤1000)(ho':W'.ownsRow (w.heap.size+1+1+1+1) 3 1 v' (xs.length+1) (bC xs++ [.int .i64 x])):
  EJ w d f (xs++ [x]) (W'.setCell ⟨w.heap.size+1+1,0,none⟩ v')∧dI W (W'.setCell ⟨w.heap.size+1+1,0,none⟩ v'):=by
 obtain⟨h1,h2,h3,_,h5,h6⟩:=h
 have low:∀q,q<w.heap.size+1+1+1+1→v.ownBlock≠some q:=fun q hq e=>by have:=(ho.1.lt q e).1;omega
 have g:=bA W' (w.heap.size+1+1) 0 v'
 have hv2:=aK hg hv (low _ (by omega))
 refine⟨⟨aK g (aK hg h1 (low _ (by omega))) (by simp;omega),aK g (aK hg h2 (low _ (by omega))) (by simp),aK g (aK hg h3 (low _ (by omega))) (by simp),⟨v',?_,?_⟩,(h5.grown hg h5.size (fun r e=>by have:=(ho.1.lt r e).1;omega)).setCell (by simp;omega) _,by have:=hg.size;simp;omega⟩,
  (dI.grown hg (BO ho.1)).trans (dI.setCell _ _ _)⟩
 ·have:=heap_setCell_same W' (w.heap.size+1+1) 0 _ _ v' hv2;simpa using this
 ·have e3:(xs++ [x]).length=xs.length+1:=by simp
  have e4:bC (xs++ [x])=bC xs++ [.int .i64 x]:=by simp[bC]
  refine bN.kept (w:=W') ⟨by rw[e3,e4];exact ho',fun z hz=>?_,by rw[e3];omega⟩ g ?_
  ·rcases aCA.1 hz with h|h
   ·exact ho.2.1 z h
   ·simp only[List.mem_singleton] at h;subst h;exact hx
  ·cases e:v'.ownBlock with
   |none=>exact .inl rfl
   |some k=>
    have:=(ho'.lt k e).1;refine .inr ?_;intro e2;injection e2 with e2;omega
theorem rX(d:fD)(ts:List aT)(f:Nat→Bool)(w:World)(hok:gH w d ts)(hg:fS ts=true):
  Calls Tryz.prog 106 #[dK d,.agg (aQ f)] w (gV w (aO (aM ts f))):=by
 refine(callsIn_wide (n:=0)).1 ?_
 refine callsIn_of_wp_marks Tryz.func106 rfl trivial ?_
 simp only[Tryz.ntmps106,List.size_toArray,List.length_cons,List.length_nil,Nat.reduceAdd,Nat.reduceSub,Array.replicate_succ,Array.replicate_zero,List.push_toArray,List.append_toArray,List.nil_append,List.cons_append]
 have HOK:=aBO hok
 have HPV:=aBO (gH.nx_lt (w:=w) (d:=d) hg).2
 have hdl:ts.length=d.bn:=hok.1
 have hdn:d.bn≤200:=hok.2.1
 have HDL:=aBO hdl
 clear hok hg hdl
 gi_wp2_with (gi_at_call 88;refine(callsIn_wide.2 (nB _ _)).mono ?_;rintro e w' ⟨rfl,rfl⟩)
 refine oK (ps:=#[7]) (gf:=139) (lb:=#[.pointer (some ⟨w.heap.size+1+1+1,0,none⟩)]) (enc:=nY) (l:=aZ f) rfl jU _ (kY f (w.heap.size+1+1+1) (w.heap.size+1)) (fun _=>rfl)
  (fun dn r W=>Hid (EJ w d f (aO (dn.filter (kA ts f))) W)) (fun _ _=>False)
  (fun dn r=>EJ.steady (by simp;omega)) (fun c=>aR.pure _ _) (fun dn r W h=>⟨by rw[aBP _ _ _ _ _ _ h.out.2.2.1];rfl,h.out.2.1⟩) ?start ?round ?done ?stop
 case start=>
  refine⟨?_,?_,?_,⟨_,?_,bN.nil _ _⟩,?_,by simp⟩
  ·rw[aBR _ _ _ (by simp;omega),aBR _ _ _ (by simp;omega),aBR _ _ _ (by simp)];exact aBS _ _
  ·rw[aBR _ _ _ (by simp),aBR _ _ _ (by simp)];exact aU _ _ _ (by simp)
  ·exact aU _ _ _ (by simp)
  ·rw[aBR _ _ _ (by simp)];exact aU _ _ _ (by simp)
  ·exact(((aD _ _).alloc (by simp) _).alloc (by simp;omega) _).alloc (by simp;omega) _
 case round=>
  rintro lp dn x r W hd hJ;unfold nY
  gi_wp2
  refine⟨dI.refl _,hJ,?_⟩;clear hJ lp W;rintro lp W hJ;obtain⟨j1,j2,j3,⟨v,j4,jo⟩,jb,js⟩:=hJ.out;have hxl:x<200:=mZ f x (by rw[hd];simp);have hc3:W.cell? ⟨w.heap.size,3,none⟩=some (.slice d.fa d.bn d.fc):=by rw[aBP _ _ _ _ _ _ j1];rfl
  by_cases hxb:x<d.bn
  ·obtain⟨b,o,ra,rc,rfa,hcr,hir⟩:=(HOK.out.ext jb).2.2.2.2.2 x (pv ts x) (by simp[nA,HDL.out,hxb]);rw[rfa] at hc3;have J2:=aBO j2;have HIR:=aBO hir;have HPX:Hid (∀z∈aO (pv ts x),∃q:Nat,z=(q:Int)∧q<200):=fun z hz=>by
    simp only[aO,List.mem_map] at hz;obtain⟨q,hq,rfl⟩:=hz;exact⟨q,rfl,HPV.out x q hq⟩
   have hxb':(x:Int)<(d.bn:Int):=by omega
   clear j1 j2 j3 j4 jo jb js hir;by_cases hent:kA ts f x=true
   ·have HANY:Hid (((aO (pv ts x)).any fun z=> !f z.toNat)=true):=by
     rw[Hid,FE];simp only[kA,Bool.and_eq_true] at hent;exact hent.2
    have HFL:Hid (aO ((dn++ [x]).filter (kA ts f))=aO (dn.filter (kA ts f))++ [(x:Int)]):=by
     rw[Hid,List.filter_append,List.filter_cons,if_pos hent];simp[aO]
    have hlen:(aO (dn.filter (kA ts f))).length≤1000:=by
     have h1:=pY f;rw[hd] at h1;have h2:=List.length_filter_le (kA ts f) dn;simp[aO] at h1⊢;omega
    clear hent
    gi_wp2_with (first
     |(gi_at_call 168
       refine(CallsIn.inRound _ (callsIn_wide.2 (kJ 169 #[.pointer (some ⟨w.heap.size+1,0,none⟩)] BW (fun z=> !f z.toNat) _ _ _ (aO (pv ts x)) W (fun z W' hz hb=>?_) HIR.out))).mono ?_
       ·obtain⟨q,rfl,hq⟩:=HPX.out z hz;exact KL f (w.heap.size+1) q hq W' (aB hb J2.out)
       rintro e w2 ⟨rfl,hb2⟩;rw[HANY.out];have HJ2:=aBO (hJ.out.ext hb2);have HK2:=aBO (dI.ext hb2);clear hb2;obtain⟨v2,hv2,ho2⟩:=HJ2.out.2.2.2.1;obtain⟨av,cv,rfl⟩:=ho2.form;have hcv:w2.cell? ⟨w.heap.size+1+1,0,none⟩=some (.slice av (aO (dn.filter (kA ts f))).length cv):=(by rw[aBP _ _ _ _ _ _ hv2];rfl)
       have HV2:=aBO hv2;have HO2:=aBO ho2;have hsz2:=HJ2.out.2.2.2.2.2
       clear hv2 ho2)
     |(gi_at_builtin
       refine EN (by repeat (first|exact iJ|refine jP ?_|refine iK ?_)) _ _ _ rfl ?_;refine bV rfl w2 (.tmp 22) (.tmp 24) 22 3 rfl (w.heap.size+1+1+1+1) _ 1 8 Tryz.underlying22 lY rfl (by omega) (.slice av (aO (dn.filter (kA ts f))).length cv) (aO (dn.filter (kA ts f))).length _ [.int .i64 (x:Int)] rfl HO2.out.1 w2.heap.size rfl rfl rfl (by simp[Value.oneCell']) (by simp only[maxLen];omega) (by omega) (by omega) ?_;intro g cap w3 hown3 hg3 hat3;have HAPP:=aBO (HJ2.out.app HV2.out HO2.out hg3 _ (x:Int) (by unfold I64;omega) hlen hown3);have hv3:=aK hg3 HV2.out (fun e=>by have:=(HO2.out.1.lt _ e).1;omega);have hc3':w3.cell? ⟨w.heap.size+1+1,0,none⟩=some (.slice av (aO (dn.filter (kA ts f))).length cv):=(by rw[aBP _ _ _ _ _ _ hv3];rfl)
       have hf3:w3.frozen? ⟨w.heap.size+1+1,0,none⟩=false:=frozen_of_row _ _ _ _ _ hv3;have hl3:w.heap.size+1+1<w3.heap.size:=aN hv3
       clear hown3 hg3 hat3 hv3 hcv))
    go_wp2;refine⟨HK2.out.trans HAPP.out.2,?_⟩;have e9:=HFL.out;rw[List.filter_append] at e9;simp only[Hid,List.filter_append,e9];exact HAPP.out.1
   ·have hent':kA ts f x=false:=by simpa using hent
    have HANY:Hid (((aO (pv ts x)).any fun z=> !f z.toNat)=false):=by
     rw[Hid,FE];simp only[kA,Bool.and_eq_false_iff] at hent';rcases hent' with h|h
     ·rw[HDL.out] at h;simp at h;omega
     ·exact h
    have HFL:Hid (aO ((dn++ [x]).filter (kA ts f))=aO (dn.filter (kA ts f))):=by
     rw[Hid,List.filter_append,List.filter_cons,if_neg hent];simp
    clear hent hent'
    gi_wp2_with (
     (gi_at_call 168
      refine(CallsIn.inRound _ (callsIn_wide.2 (kJ 169 #[.pointer (some ⟨w.heap.size+1,0,none⟩)] BW (fun z=> !f z.toNat) _ _ _ (aO (pv ts x)) W (fun z W' hz hb=>?_) HIR.out))).mono ?_
      ·obtain⟨q,rfl,hq⟩:=HPX.out z hz;exact KL f (w.heap.size+1) q hq W' (aB hb J2.out)
      rintro e w2 ⟨rfl,hb2⟩;rw[HANY.out];have HJ2:=aBO (hJ.out.ext hb2);have HK2:=aBO (dI.ext hb2)
      clear hb2))
    refine⟨HK2.out,?_⟩;have e9:=HFL.out;rw[List.filter_append] at e9;simp only[Hid,List.filter_append,e9];exact HJ2.out
  ·have hxb':¬(x:Int)<(d.bn:Int):=by omega
   have HFL:Hid (aO ((dn++ [x]).filter (kA ts f))=aO (dn.filter (kA ts f))):=by
    rw[Hid,List.filter_append,List.filter_cons,if_neg (by simp only[kA,Bool.and_eq_true,decide_eq_true_eq,HDL.out];exact fun h=>hxb h.1)];simp
   clear j1 j2 j3 j4 jo jb js hxb
   gi_wp2
   refine⟨dI.refl _,?_⟩;have e9:=HFL.out;rw[List.filter_append] at e9;simp only[Hid,List.filter_append,e9];exact hJ.out
 case done=>
  rintro D W hD hJ hK;obtain⟨v,hv,ho⟩:=hJ.out.2.2.2.1;obtain⟨av,cv,rfl⟩:=ho.form;have HJ:=hJ;have HV:=aBO hv;have hcv:W.cell? ⟨w.heap.size+1+1,0,none⟩=some (.slice av (aO ((aZ f).filter (kA ts f))).length cv):=by rw[aBP _ _ _ _ _ _ hv];rfl
  have hfv:W.frozen? ⟨w.heap.size+1+1,0,none⟩=false:=frozen_of_row _ _ _ _ _ hv;have hlv:=aN hv;have HO:=aBO ho;clear hv ho hJ
  gi_wp2
  have hDP:D≠w.heap.size+1+1:=by simp at hD;omega
  have g:=bA W (w.heap.size+1+1) 0 (.slice av (aO ((aZ f).filter (kA ts f))).length cv);have hK2:=aK g hK (by simp;omega)
  have ho2:bN (W.setCell ⟨w.heap.size+1+1,0,none⟩ (.slice av (aO ((aZ f).filter (kA ts f))).length cv)) (w.heap.size+1+1+1+1) (.slice av (aO ((aZ f).filter (kA ts f))).length cv) (aO ((aZ f).filter (kA ts f))):=HO.out.kept g (by
   cases e:(Value.slice av (aO ((aZ f).filter (kA ts f))).length cv).ownBlock with
   |none=>exact .inl rfl
   |some k=>
    have:=(HO.out.1.lt k e).1;refine .inr ?_;intro e2;injection e2 with e2
    omega)
  have hb2:Below w.heap.size w (W.setCell ⟨w.heap.size+1+1,0,none⟩ (.slice av (aO ((aZ f).filter (kA ts f))).length cv)):=HJ.out.2.2.2.2.1.setCell (by simp;omega) _;have hv2:(W.setCell ⟨w.heap.size+1+1,0,none⟩ (.slice av (aO ((aZ f).filter (kA ts f))).length cv)).heap[w.heap.size+1+1]? =some (.cells #[.slice av (aO ((aZ f).filter (kA ts f))).length cv] 22 (0,0)):=by
   have:=heap_setCell_same W (w.heap.size+1+1) 0 _ _ (.slice av (aO ((aZ f).filter (kA ts f))).length cv) HV.out;simpa using this
  generalize W.setCell ⟨w.heap.size+1+1,0,none⟩ (.slice av (aO ((aZ f).filter (kA ts f))).length cv)=W2 at *;have ho3:=(aR.ownI D (w.heap.size+1+1+1+1) (.slice av (aO ((aZ f).filter (kA ts f))).length cv) (aO ((aZ f).filter (kA ts f)))).put (.deferred none) (l:=D) ho2 (aBV _) hK2 rfl;have hb3:=(aR.below (n₀:=w.heap.size) (B:=w.heap.size) (w₀:=w) (aBV _) (aBV _)).put (.deferred none) (l:=D) hb2 (by simp at hD;omega) hK2 rfl;have hv3:(W2.putObj D (.deferred none)).heap[w.heap.size+1+1]? =some (.cells #[.slice av (aO ((aZ f).filter (kA ts f))).length cv] 22 (0,0)):=(World.putObj_heap_other (by omega)).trans hv2;have hc3:(W2.putObj D (.deferred none)).cell? ⟨w.heap.size+1+1,0,none⟩=some (.slice av (aO ((aZ f).filter (kA ts f))).length cv):=by rw[aBP _ _ _ _ _ _ hv3];rfl
  refine⟨by simp,.inl ⟨_,_,rfl,run_takeDeferred hK2,?_⟩⟩;exact⟨.slice av (aO ((aZ f).filter (kA ts f))).length cv,by simp[results,Tryz.results106,go_sem,hc3],_,rfl,ho3.mono (by omega),hb3⟩
 case stop=>rintro D c W hD h;exact h.elim
end

section
section
variable {P:Program} {ops:Array Oper} {rest:List Oper} {o:Oper} {a:Act}
theorem bS{w:World}{Q:Exit→Act→World→Prop}(hw:Region.wanted o (yielded ops a.tmps)=true)(ty:TypeId)(x:Operand)(ho:o.op=.load ty x)
  (g:Nat) (hx:a.eval x=.pointer (some ⟨g,0,none⟩)) (t:TypeId) (cs:Array Value) (fr:Nat×Nat) (d:TypeDesc) (hg:w.heap[g]? =some (.cells cs t fr))
  (hu:P.underlying ty=some d) (hd:(match d with| .struct _| .array _ _=>true|_=>false)=true) (hi:(P.info? ty).map (·.size)=some cs.size)
  (h:wpList P ops Q rest (a.put o.dst (.agg cs)) w):wpList P ops Q (o :: rest) a w:=
 BigFrame.wpList_want hw fun _ hK=>wp_load_row ty x ho g hx t cs fr d hg hu hd hi (hK _ _ h)
theorem aW{C:World→Prop}{Q:Act→Prop}(hw:Region.wanted o (yielded ops a.tmps)=true)(ty:TypeId)(x:Operand)(ho:o.op=.load ty x)
  (g:Nat) (hx:a.eval x=.pointer (some ⟨g,0,none⟩)) (t:TypeId) (cs:Array Value) (fr:Nat×Nat) (d:TypeDesc) (hg:∀w,C w→w.heap[g]? =some (.cells cs t fr))
  (hu:P.underlying ty=some d) (hd:(match d with| .struct _| .array _ _=>true|_=>false)=true) (hi:(P.info? ty).map (·.size)=some cs.size)
  (h:wpQuiet P ops C Q rest (a.put o.dst (.agg cs))):wpQuiet P ops C Q (o :: rest) a:=
 BigFrame.wpQuiet_want hw fun _ hK=>⟨.agg cs,fun w hC=>by
  unfold Oper.quietAt execOp;simp only[ho,hx,Instr.loadAt,Instr.sureAddr,Sem.run_bind,Sem.run_pure,Result.andThen_ok,run_loadVar_row w g t ty cs fr d (hg w hC) hu hd hi]
  exact⟨rfl,rfl⟩,hK _ h⟩
theorem bH{l:List Oper}{Q:Exit→Act→World→Prop}{e:Nat}{K:Act→World→Prop}{w:World}(ho:l[e]? =some o)(hw:Region.wanted o (yielded l.toArray a.tmps)=true)(h:o.wp P a w K Q):wpOp P l.toArray Q e K a w:=by
 unfold wpOp
 simp only[List.getElem?_toArray,ho]
 rw[if_pos hw]
 exact .inl h
end
end

section
open Go.RowKit Go.Shelf
attribute [local go_sem] Oper.semAt_some cT bM cC bG
abbrev zV:Obj:=.cells #[iY,iY,iY,iY] 116
theorem RM(pa:Option Addr)(pn pc:Nat)(ba:Option Addr)(bn bc:Nat)(bs:List gS)(w:World)(h:dU w ba bn bs):
  Calls Tryz.prog 40 #[dX pa pn pc ba bn bc] w fun e w'=>e=.returned (.bool (bU (aG bs)))∧Below w.heap.size w w':=by
 have H:=aBO h
 clear h
 go_enter Tryz.func40,Tryz.ntmps40
 go_upto_region 1 with (fail)
 obtain⟨W,hW⟩:∃W,W=w.alloc (bO pa pn pc ba bn bc):=⟨_,rfl⟩
 rw[←hW]
 have hk0:W.heap[w.heap.size]? =some (bO pa pn pc ba bn bc):=by rw[hW];exact aBS _ _
 have hB:Below w.heap.size w W:=by rw[hW];exact aD _ _
 have HK:=aBO hk0
 have HB:=aBO hB
 clear hW hk0 hB
 go_wp2_with (first
  |(refine wpList_load_row (o:=⟨some 6,.load 25 _,_,_,_,_⟩) rfl 25 _ rfl w.heap.size rfl 25 _ (0,0) _ HK.out Tryz.underlying25 rfl aS ?_)
  |(go_at_call 78
    refine(lO pa pn pc ba bn bc bs W (H.out.ext HB.out)).mono ?_;rintro e w2 ⟨cs,rfl,hcs,hall,hb,hokk⟩;have HB2:=aBO (aA HB.out hb);have HCS:=aBO hcs;have HALL:=aBO hall
    clear hb hokk hcs hall)
  |(refine wpList_store_row rfl 116 _ _ rfl w2.heap.size cs rfl rfl 116 _ (aBS w2 zV) (by rw[HCS.out];exact bD) (by rw[HCS.out];rfl) HALL.out ?_))
 go_ret
 exact⟨rfl,below_setRow (HB2.out.alloc HB2.out.size _) HB2.out.size _⟩
def AZ(ts:List aT)(l:List bI)(n:Nat)(w:World)(e:Ending)(w':World):Prop:=
 ∃v en,e=.returned (.tuple #[v,.int .i64 en])∧Below w.heap.size w w'∧(bU ts=false→v=iY∧en=2)∧(bU ts=true→lU l n=false→v=iY∧en=12)∧
  (bU ts=true→lU l n=true→en=0∧∃g c,v=.slice (some ⟨g,0,none⟩) n c∧bN w' w.heap.size v (nL l n))
theorem kF{ts:List aT}(h:bU ts=true):fS ts=true:=by simp only[bU,Bool.and_eq_true] at h;exact h.1
theorem VF(pa:Option Addr)(pn pc:Nat)(ba:Option Addr)(bn bc:Nat)(bs:List gS)(a:Option Addr)(n c:Nat)(ls:List bK)(w:World)(h:dU w ba bn bs)(ht:cM w a n ls):
  Calls Tryz.prog 37 #[dX pa pn pc ba bn bc,.slice a n c] w (AZ (aG bs) (aJ ls) bn w):=by
 have H:=aBO h
 have HT:=aBO ht
 clear h ht
 go_enter Tryz.func37,Tryz.ntmps37
 go_upto_region 1 with (fail)
 obtain⟨W,hW⟩:∃W,W=w.alloc (bO pa pn pc ba bn bc):=⟨_,rfl⟩
 rw[←hW]
 have hk0:W.heap[w.heap.size]? =some (bO pa pn pc ba bn bc):=by rw[hW];exact aBS _ _
 have hB:Below w.heap.size w W:=by rw[hW];exact aD _ _
 have HK:=aBO hk0
 have HB:=aBO hB
 clear hW hk0 hB
 cases hf:bU (aG bs) with
 |false=>
  have HF:=aBO hf;clear hf
  go_wp2_with (first
   |(refine wpList_load_row (o:=⟨some 10,.load 25 _,_,_,_,_⟩) rfl 25 _ rfl w.heap.size rfl 25 _ (0,0) _ HK.out Tryz.underlying25 rfl aS ?_)
   |(go_at_call 78
     refine(lO pa pn pc ba bn bc bs W (H.out.ext HB.out)).mono ?_;rintro e w2 ⟨cs,rfl,hcs,hall,hb,hokk⟩;rw[HF.out];have HB2:=aBO (aA HB.out hb);have HCS:=aBO hcs;have HALL:=aBO hall
     clear hb hokk hcs hall)
   |(refine wpList_store_row rfl 116 _ _ rfl w2.heap.size cs rfl rfl 116 _ (aBS w2 zV) (by rw[HCS.out];exact bD) (by rw[HCS.out];rfl) HALL.out ?_))
  exact bodyPost_ret (v:=.tuple #[iY,.int .i64 2]) (by simp[results,Tryz.results37,go_sem,Act.put]) rfl ⟨_,_,rfl,below_setRow (HB2.out.alloc HB2.out.size _) HB2.out.size _,fun _=>⟨rfl,rfl⟩,(fun h=>by rw[HF.out] at h;cases h),(fun h=>by rw[HF.out] at h;cases h)⟩
 |true=>
  have HF:=aBO hf;have hgood:=(cY _).1 (kF hf);have hbn:(aG bs).length=bn:=by rw[dD];exact H.out.1.1
  have hbn1:1≤bn:=by rw[←hbn];exact hgood.1.1
  have hbn2:bn≤200:=by rw[←hbn];exact hgood.1.2
  clear hf hgood hbn
  go_upto_region 4 with (first
   |(refine wpList_load_row (o:=⟨some 10,.load 25 _,_,_,_,_⟩) rfl 25 _ rfl w.heap.size rfl 25 _ (0,0) _ HK.out Tryz.underlying25 rfl aS ?_)
   |(go_at_call 78
     refine(lO pa pn pc ba bn bc bs W (H.out.ext HB.out)).mono ?_;rintro e w2 ⟨cs,rfl,hcs,hall,hb,hokk⟩;rw[HF.out];obtain⟨ta,tc,fa,fc,hcv,hwk⟩:=hokk HF.out;injection hcv with hcv;subst hcv;have HB2:=aBO (aA HB.out hb);have HWK:=aBO hwk
     clear hb hokk hcs hall hwk)
   |(refine wpList_store_row rfl 116 _ _ rfl w2.heap.size #[.slice pa pn pc,.slice ba bn bc,.slice ta bn tc,.slice fa bn fc] rfl rfl 116 _ (aBS w2 zV) bD rfl rfl ?_))
  obtain⟨W3,hW3⟩:∃W3,W3=w2.alloc (kK ⟨pa,pn,pc,ba,bn,bc,ta,tc,fa,fc⟩):=⟨_,rfl⟩
  rw[←hW3];have hw3:W3.heap[w2.heap.size]? =some (kK ⟨pa,pn,pc,ba,bn,bc,ta,tc,fa,fc⟩):=by rw[hW3];exact aBS _ _
  have HW3:=aBO hw3;have HB3':Below w2.heap.size w2 W3:=by rw[hW3];exact aD _ _
  have HB3:=aBO (aA HB2.out HB3');have HWK3:=aBO (HWK.out.ext HB3');clear hW3 hw3 HB3' HWK HB2
  go_upto_region 5 with (first
   |(refine wpList_load_row (o:=⟨some 16,.load 116 _,_,_,_,_⟩) rfl 116 _ rfl w2.heap.size rfl 116 _ (0,0) _ HW3.out Tryz.underlying116 rfl bD ?_)
   |(go_at_call 91
     refine(QD ⟨pa,pn,pc,ba,bn,bc,ta,tc,fa,fc⟩ hbn1 hbn2 a n c ls W3 (HT.out.ext HB3.out)).mono ?_;rintro e w4 ⟨v,rfl,hb4,ho1,ho2⟩;have HB4:=aBO (aA HB3.out hb4);have HO1:=aBO ho1;have HO2:=aBO ho2;have hsz:=HB3.out.size
     clear hb4 ho1 ho2))
  cases hob:lU (aJ ls) bn with
  |false=>
   have hv:v=iY:=HO2.out hob;subst hv;have HOB:=aBO hob;clear hob HO1 HO2;have hq:=fun w n c n' c'=>Lib.run_eql_slice_nil (P:=Tryz.prog) w 22 3 none n c n' c' Tryz.underlying22;go_wp2;exact bodyPost_ret (v:=.tuple #[iY,.int .i64 12]) (by simp[results,Tryz.results37,go_sem,Act.put]) rfl ⟨_,_,rfl,HB4.out,(fun h=>by rw[HF.out] at h;cases h),fun _ _=>⟨rfl,rfl⟩,(fun _ h=>by rw[HOB.out] at h;cases h)⟩
  |true=>
   obtain⟨g,cc,rfl,ho⟩:=HO1.out hob;have HOB:=aBO hob;have HO:=aBO ho;clear hob HO1 HO2 ho;have hq:=fun w n c n' c'=>Lib.run_eql_slice_nil (P:=Tryz.prog) w 22 3 (some ⟨g,0,none⟩) n c n' c' Tryz.underlying22;go_wp2;exact bodyPost_ret (v:=.tuple #[.slice (some ⟨g,0,none⟩) bn cc,.int .i64 0]) (by simp[results,Tryz.results37,go_sem,Act.put]) rfl ⟨_,_,rfl,HB4.out,(fun h=>by rw[HF.out] at h;cases h),(fun _ h=>by rw[HOB.out] at h;cases h),fun _ _=>⟨rfl,g,cc,rfl,HO.out.mono hsz⟩⟩
end

section
open Go.RowKit Go.Shelf
attribute [local go_sem] Oper.semAt_some cT bM cC bG
theorem SV(w:World)(f:Nat→Bool)(b:Nat)(hb:b<200):(Instr.index 124 (.agg (aQ f)) (.int .i64 (b:Int))).run Tryz.prog w=.ok (.bool (f b)) w:=by
 have hz:(Go.sizeOf 4).run Tryz.prog w=.ok 1 w:=by kernel_rfl
 have hb2:(0:Int)≤(b:Int)∧(b:Int)<((200:Nat):Int):=by omega
 have h1:=sP (aQ f) b _ w (iV f b hb)
 simp only[Instr.index,asIntOf,Sem.run_bind,Sem.run_pure,Result.andThen_ok,run_underlying (w:=w) Tryz.underlying124,if_pos hb2,hz]
 simpa using h1
theorem NY(d:fD)(ts:List aT)(f:Nat→Bool)(P S:Nat)(x:Nat)(hx:x<200)(W:World)(hP:W.heap[P]? =some (kK d))(hS:W.heap[S]? =some (eA f))(hok:gH W d ts)(hg:fS ts=true)(hcf:cA f)(hf:x<d.bn):
  Calls Tryz.prog 207 (#[.int .i64 (x:Int)]++ #[.pointer (some ⟨P,0,none⟩),.pointer (some ⟨S,0,none⟩)]) W fun e W'=>e=.returned (.bool (bT ts x f x))∧Below W.heap.size W W':=by
 show Calls Tryz.prog 207 #[.int .i64 (x:Int),.pointer (some ⟨P,0,none⟩),.pointer (some ⟨S,0,none⟩)] W _
 have HP:=aBO hP
 have HS:=aBO hS
 have HOK:=aBO hok
 have HG:=aBO hg
 have HF:=aBO hf
 have HCF:=aBO hcf
 clear hP hS hok hg hf hcf
 have hix:=fun w=>SV w (bT ts x f) x hx
 go_enter Tryz.func207,Tryz.ntmps207
 go_wp2_with (first
  |(refine wpList_load_row (o:=⟨some 5,.load 116 _,_,_,_,_⟩) rfl 116 _ rfl P rfl 116 _ (0,0) _ HP.out Tryz.underlying116 rfl bD ?_)
  |(refine wpList_load_row (o:=⟨some 7,.load 124 _,_,_,_,_⟩) rfl 124 _ rfl S rfl 124 _ (0,0) _ HS.out Tryz.underlying124 rfl (by rw[aF];exact bF) ?_)
  |(go_at_call 130
    refine(AR d ts x f W hx HOK.out HG.out HCF.out fun _=>HF.out).mono ?_;rintro e w2 ⟨rfl,hb⟩;have HB:=aBO hb
    clear hb))
 go_ret
 exact⟨rfl,HB.out⟩
theorem GW(args:Array Value)(w:World):(callFunc 207 args).run Tryz.prog w=.ok (.enter 207 args) w:=enters_of Tryz.func207 (by kernel_rfl) rfl args w
theorem wX(d:fD)(ts:List aT)(f:Nat→Bool)(a:Option Addr)(n c:Nat)(bs:List Int)(w:World)(hI:dY w a n bs)(hbs:∀x∈bs,0≤x∧x<d.bn)(hok:gH w d ts)(hg:fS ts=true)(hf:cA f):
  Calls Tryz.prog 164 #[dK d,.slice a n c,.agg (aQ f)] w fun e w'=>e=.returned (.bool (iD ts bs f))∧Below w.heap.size w w':=by
 have HI:=aBO hI
 have HBS:=aBO hbs
 have HOK:=aBO hok
 have HG:=aBO hg
 have HF:=aBO hf
 clear hI hbs hok hg hf
 go_enter Tryz.func164,Tryz.ntmps164
 go_wp2_with (
  (go_at_call 168
   refine(kJ 207 #[.pointer (some ⟨w.heap.size,0,none⟩),.pointer (some ⟨w.heap.size+1,0,none⟩)] GW (fun z=>bT ts z.toNat f z.toNat) a n c bs _ (fun z W hz hb=>?_) (HI.out.ext ((aD _ _).alloc (by simp) _))).mono ?_
   ·have hz2:=HBS.out z hz;have hbn:=HOK.out.2.1;obtain⟨q,rfl⟩:∃q:Nat,z=(q:Int):=⟨z.toNat,by omega⟩
    refine NY d ts f w.heap.size (w.heap.size+1) q (by omega) W (aB hb ?_) (aB hb (aU _ _ _ (by simp))) (HOK.out.ext (aA ((aD _ _).alloc (by simp) _) hb)) HG.out HF.out (by omega);rw[aBR _ _ _ (by simp)];exact aBS _ _
   rintro e w2 ⟨rfl,hb⟩;have HB:=aBO hb
   clear hb))
 go_ret
 exact⟨rfl,aA ((aD _ _).alloc (by simp) _) HB.out⟩
def ToJ(w:World)(d:fD)(f:Nat→Bool)(W:World):Prop:=
 W.heap[w.heap.size]? =some (kK d)∧W.heap[w.heap.size+1]? =some (eA f)∧W.heap[w.heap.size+1+1]? =some (.cells #[.bool false] 4 (0,0))∧W.heap[w.heap.size+1+1+1]? =some (.cells #[.pointer (some ⟨w.heap.size+1,0,none⟩)] 189 (0,0))∧Below w.heap.size w W
theorem ToJ.steady{w:World}{d:fD}{f:Nat→Bool}{D:Nat}(hD:w.heap.size≤D):aR D (ToJ w d f):=by
 unfold ToJ
 exact(aR.block _ _ rfl).and ((aR.block _ _ rfl).and ((aR.block _ _ rfl).and ((aR.block _ _ rfl).and (aR.below (aBV _) hD))))
theorem vX(d:fD)(ts:List aT)(f:Nat→Bool)(w:World)(hok:gH w d ts)(hg:fS ts=true)(hcf:cA f)(hf:∀b l,aZ f=b :: l→b<d.bn):
  Calls Tryz.prog 163 #[dK d,.agg (aQ f)] w fun e w'=>e=.returned (.bool (cU ts f))∧Below w.heap.size w w':=by
 refine(callsIn_wide (n:=0)).1 ?_
 refine callsIn_of_wp_marks Tryz.func163 rfl trivial ?_
 simp only[Tryz.ntmps163,List.size_toArray,List.length_cons,List.length_nil,Nat.reduceAdd,Nat.reduceSub,Array.replicate_succ,Array.replicate_zero,List.push_toArray,List.append_toArray,List.nil_append,List.cons_append]
 have HOK:=aBO hok
 have HG:=aBO hg
 have HF:=aBO hf
 have HCF:=aBO hcf
 have hdn:d.bn≤200:=hok.2.1
 clear hok hg hcf hf
 gi_wp2_with (gi_at_call 88;refine(callsIn_wide.2 (nB _ _)).mono ?_;rintro e w' ⟨rfl,rfl⟩)
 refine oK (ps:=#[7]) (gf:=139) (lb:=#[.pointer (some ⟨w.heap.size+1+1+1,0,none⟩)]) (enc:=nY) (l:=aZ f) rfl jU _ (kY f (w.heap.size+1+1+1) (w.heap.size+1)) (fun _=>rfl)
  (fun dn r W=>Hid (dn= []∧ToJ w d f W)) (fun c W=>c=.ret∧W.heap[w.heap.size+1+1]? =some (.cells #[.bool (cU ts f)] 4 (0,0))∧Below w.heap.size w W)
  (fun dn r=>(aR.pure _ _).and (ToJ.steady (by simp;omega))) (fun c=>(aR.pure _ _).and ((aR.block _ _ rfl).and (aR.below (aBV _) (by simp;omega)))) (fun dn r W h=>⟨by rw[aBP _ _ _ _ _ _ h.out.2.2.2.2.1];rfl,h.out.2.2.1⟩) ?start ?round ?done ?stop
 case start=>
  refine⟨rfl,?_,?_,?_,?_,?_⟩
  ·rw[aBR _ _ _ (by simp;omega),aBR _ _ _ (by simp;omega),aBR _ _ _ (by simp)];exact aBS _ _
  ·rw[aBR _ _ _ (by simp),aBR _ _ _ (by simp)];exact aU _ _ _ (by simp)
  ·rw[aBR _ _ _ (by simp)];exact aU _ _ _ (by simp)
  ·exact aU _ _ _ (by simp)
  ·exact(((aD _ _).alloc (by simp) _).alloc (by simp;omega) _).alloc (by simp;omega) _
 case round=>
  rintro lp dn x r W0 hd hJ;unfold nY
  gi_wp2
  refine⟨dI.refl _,hJ,?_⟩;clear hJ lp W0;rintro lp W0 hJ;obtain⟨rfl,j1,j2,j3,j4,jb⟩:=hJ.out;have hxl:x<200:=mZ f x (by rw[hd];simp);have HXB:Hid (f x=true→x<d.bn):=fun _=>HF.out x r hd;have HE:Hid (cU ts f=eqS (bT ts x f) f):=by
   have:aZ f=x :: r:=hd;simp only[Hid,cU,this]
  have HW:=aBO j1;have HS:=aBO j2;have HR:=aBO j3;have HBW:=aBO jb;clear hJ j1 j2 j3 j4 jb hd;refine wpIn_block ?_;refine wpIn_seq ?_;refine BH 6 [some 8,some 9,some 10,some 11,some 12,some 13] (by kernel_rfl) (by kernel_rfl) (by repeat (first|exact iJ|refine jP ?_|refine iK ?_)) (by kernel_rfl) (dV [.val (dK d),.val (.int .i64 (x:Int)),.val (.agg (aQ f)),.val (.agg (aQ (bT ts x f))),.val (.agg (aQ f)),.val (.bool (eqS (bT ts x f) f))]) (dN ?_) ?_ ?_
  ·intro k hk;simp only[List.mem_cons,List.not_mem_nil,or_false] at hk;rcases hk with rfl|rfl|rfl|rfl|rfl|rfl
   ·exact trivial
   ·exact trivial
   ·exact trivial
   ·exact trivial
   ·exact trivial
   ·exact trivial
  ·intro i hi ν lo hi' w1 K hB hD hK;have hcase:i=0∨i=1∨i=2∨i=3∨i=4∨i=5:=by omega
   clear hi;rcases hcase with rfl|rfl|rfl|rfl|rfl|rfl
   ·clear hD;refine aC rfl rfl ?_;simp only[zA,zB,zC,zD,zE,zF,zJ,zK,zG,zH,zI] at hK⊢;refine wp_load_row 116 _ rfl w.heap.size rfl 116 _ (0,0) _ (aB hB HW.out) Tryz.underlying116 rfl bD ?_;exact hK _ _ (aBQ _ _) rfl
   ·clear hD;refine aC rfl rfl ?_;simp only[zA,zB,zC,zD,zE,zF,zJ,zK,zG,zH,zI] at hK⊢;go_simp;exact hK _ _ (aBQ _ _) rfl
   ·clear hD;refine aC rfl rfl ?_;simp only[zA,zB,zC,zD,zE,zF,zJ,zK,zG,zH,zI] at hK⊢;refine wp_load_row 124 _ rfl (w.heap.size+1) rfl 124 _ (0,0) _ (aB hB HS.out) Tryz.underlying124 rfl (by rw[aF];exact bF) ?_;exact hK _ _ (aBQ _ _) rfl
   ·have e0:=hD 0 (by kernel_rfl)
    replace e0:ν 0=(dK d):=e0
    have e1:=hD 1 (by kernel_rfl)
    replace e1:ν 1=(.int .i64 (x:Int)):=e1
    have e2:=hD 2 (by kernel_rfl)
    replace e2:ν 2=(.agg (aQ f)):=e2
    clear hD;refine aC rfl rfl ?_;simp only[zA,zB,zC,zD,zE,zF,zJ,zK,zG,zH,zI,e0,e1,e2] at hK⊢;go_simp;refine(AR d ts x f w1 (by omega) (HOK.out.ext (aA HBW.out hB)) HG.out HCF.out HXB.out).mono ?_;rintro e w3 ⟨rfl,hb3⟩;exact hK _ _ hb3 rfl
   ·clear hD;refine aC rfl rfl ?_;simp only[zA,zB,zC,zD,zE,zF,zJ,zK,zG,zH,zI] at hK⊢;refine wp_load_row 124 _ rfl (w.heap.size+1) rfl 124 _ (0,0) _ (aB hB HS.out) Tryz.underlying124 rfl (by rw[aF];exact bF) ?_;exact hK _ _ (aBQ _ _) rfl
   ·have e3:=hD 3 (by kernel_rfl)
    replace e3:ν 3=(.agg (aQ (bT ts x f))):=e3
    have e4:=hD 4 (by kernel_rfl)
    replace e4:ν 4=(.agg (aQ f)):=e4
    clear hD;refine aC rfl rfl ?_;simp only[zA,zB,zC,zD,zE,zF,zJ,zK,zG,zH,zI,e3,e4] at hK⊢;have heq:=xJ w1 (bT ts x f) f;go_simp;exact hK _ _ (aBQ _ _) rfl
  ·intro ν lo hi w1 hB hS hI hD;have e0:ν 0=(dK d):=hS 0 (by omega);have e1:ν 1=(.int .i64 (x:Int)):=hS 1 (by omega);have e2:ν 2=(.agg (aQ f)):=hS 2 (by omega);have e3:ν 3=(.agg (aQ (bT ts x f))):=hS 3 (by omega);have e4:ν 4=(.agg (aQ f)):=hS 4 (by omega);have e5:ν 5=(.bool (eqS (bT ts x f) f)):=hS 5 (by omega);clear hS;simp only[List.drop_succ_cons,List.drop_zero,zA,zB,zC,zD,zE,zF,zJ,zK,zG,zH,zI,e0,e1,e2,e3,e4,e5];have HB1:=aBO hB;clear hI hD e0 e1 e2 e3 e4 e5;have hr1:=aB HB1.out HR.out;have hc1:w1.cell? ⟨w.heap.size+1+1,0,none⟩=some (.bool false):=by rw[aBP _ _ _ _ _ _ hr1];rfl
   have hf1:w1.frozen? ⟨w.heap.size+1+1,0,none⟩=false:=frozen_of_row _ _ _ _ _ hr1;have hl1:=aN hr1;have HR1:=aBO hr1;clear hr1 hB;go_wp2;refine wpIn_ret ?_;have hst:=heap_setCell_same w1 (w.heap.size+1+1) 0 _ _ (.bool (eqS (bT ts x f) f)) HR1.out;exact⟨(dI.ext HB1.out).trans (dI.setCell _ _ _),rfl,by rw[HE.out];simpa using hst,(aA HBW.out HB1.out).setCell (by simp;omega) _⟩
 case done=>
  rintro D W hD hJ hK;obtain⟨hl,j1,j2,j3,j4,jb⟩:=hJ.out;have HE:Hid (cU ts f=true):=by simp only[Hid,cU,hl]
  have hc1:W.cell? ⟨w.heap.size+1+1,0,none⟩=some (.bool false):=by rw[aBP _ _ _ _ _ _ j3];rfl
  have hf1:W.frozen? ⟨w.heap.size+1+1,0,none⟩=false:=frozen_of_row _ _ _ _ _ j3;have hl1:=aN j3;have HB:=aBO jb;have HJ3:=aBO j3;clear hJ j1 j2 j3 j4 jb hl
  gi_wp2
  have hDP:D≠w.heap.size+1+1:=by simp at hD;omega
  have g:=bA W (w.heap.size+1+1) 0 (.bool true);have hK2:=aK g hK (by simp;omega);have hb2:Below w.heap.size w (W.setCell ⟨w.heap.size+1+1,0,none⟩ (.bool true)):=HB.out.setCell (by simp;omega) _;have hv2:(W.setCell ⟨w.heap.size+1+1,0,none⟩ (.bool true)).heap[w.heap.size+1+1]? =some (.cells #[.bool true] 4 (0,0)):=by
   have:=heap_setCell_same W (w.heap.size+1+1) 0 _ _ (.bool true) HJ3.out;simpa using this
  generalize W.setCell ⟨w.heap.size+1+1,0,none⟩ (.bool true)=W2 at *;have hb3:=(aR.below (n₀:=w.heap.size) (B:=w.heap.size) (w₀:=w) (aBV _) (aBV _)).put (.deferred none) (l:=D) hb2 (by simp at hD;omega) hK2 rfl;have hv3:(W2.putObj D (.deferred none)).heap[w.heap.size+1+1]? =some (.cells #[.bool true] 4 (0,0)):=(World.putObj_heap_other (by omega)).trans hv2;have hc3:(W2.putObj D (.deferred none)).cell? ⟨w.heap.size+1+1,0,none⟩=some (.bool true):=by rw[aBP _ _ _ _ _ _ hv3];rfl
  refine⟨by simp,.inl ⟨_,_,rfl,run_takeDeferred hK2,?_⟩⟩;exact⟨.bool true,by simp[results,Tryz.results163,go_sem,hc3],by rw[HE.out],hb3⟩
 case stop=>
  rintro D c W hD ⟨rfl,hv,hb⟩ hK;have hv2:(W.putObj D (.deferred none)).heap[w.heap.size+1+1]? =some (.cells #[.bool (cU ts f)] 4 (0,0)):=(World.putObj_heap_other (by simp at hD;omega)).trans hv;have hb2:=(aR.below (n₀:=w.heap.size) (B:=w.heap.size) (w₀:=w) (aBV _) (aBV _)).put (.deferred none) (l:=D) hb (by simp at hD;omega) hK rfl;have hc:(W.putObj D (.deferred none)).cell? ⟨w.heap.size+1+1,0,none⟩=some (.bool (cU ts f)):=by rw[aBP _ _ _ _ _ _ hv2];rfl
  gi_wp2
  refine⟨by simp,.inl ⟨_,_,rfl,run_takeDeferred hK,?_⟩⟩;exact⟨.bool (cU ts f),by simp[results,Tryz.results163,go_sem,hc],rfl,hb2⟩
end
end Go.Proofs.YtblhmdhfhaencaaGreat
