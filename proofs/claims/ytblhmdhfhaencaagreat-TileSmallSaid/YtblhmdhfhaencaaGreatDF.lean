/-
 The document's answer to layer 17:rings,whether blocks hang together.
-/
import Derived.Test.YtblhmdhfhaencaaGreatRM
import Derived.Test.YtblhmdhfhaencaaGreatTR
import Derived.Test.YtblhmdhfhaencaaGreatRC
import Derived.Test.YtblhmdhfhaencaaGreatLentG
import Derived.Test.YtblhmdhfhaencaaGreatTF
import Derived.BigQuiet
import Derived.Deep.MidRow
import Derived.Test.YtblhmdhfhaencaaGreatCR
import Derived.Test.YtblhmdhfhaencaaGreatTL
import Derived.Deep.LoopGhost
import Derived.BigRegion
import Derived.Great.BuildSlice
import Derived.RangeFuncNested
namespace Go.Proofs.YtblhmdhfhaencaaGreat
set_option linter.unusedSimpArgs false
set_option linter.unusedVariables false
set_option linter.unusedSectionVars false
set_option maxRecDepth 100000
set_option maxHeartbeats 40000000
section
open Go.RowKit
theorem qN(w:World)(f:Nat→Bool)(b:Nat)(hb:b<200):(Instr.index 107 (.agg (aQ f)) (.int .i64 (b:Int))).run Tryz.prog w=.ok (.bool (f b)) w:=by
 have hz:(Go.sizeOf 4).run Tryz.prog w=.ok 1 w:=by kernel_rfl
 have hb2:(0:Int)≤(b:Int)∧(b:Int)<((200:Nat):Int):=by omega
 have h1:=sP (aQ f) b _ w (iV f b hb)
 simp only[Instr.index,asIntOf,Sem.run_bind,Sem.run_pure,Result.andThen_ok,run_underlying (w:=w) Tryz.underlying107,if_pos hb2,hz]
 simpa using h1
theorem BU(w:World)(f g:Nat→Bool):(Op.equalIn 10000 107 (.agg (aQ f)) (.agg (aQ g))).run Tryz.prog w=.ok (eqS f g) w:=by
 have hi:∃i,Tryz.prog.info? 4=some i:=Option.isSome_iff_exists.1 (by kernel_rfl)
 obtain⟨i,hi⟩:=hi
 have h1:Tryz.prog.cellsOf 4=1:=by kernel_rfl
 rw[run_equalIn_array w 9999 _ _ Tryz.underlying107 hi,h1]
 exact qU w f g _ _ _ (fun i hi=>⟨iV f i (List.mem_range.1 hi),iV g i (List.mem_range.1 hi)⟩)
theorem WF(w:World)(f g:Nat→Bool):(binOp .neq 107 (.agg (aQ f)) (.agg (aQ g))).run Tryz.prog w=.ok (.bool (!eqS f g)) w:=by
 rw[run_neq_struct,BU]
 rfl
theorem NX{ts:List aT}{bs:List Int}{f:Nat→Bool}(hc:cA f){i:Nat}(hi:i<bs.length)(h:bL (nx ts) f (bs.getD i 0).toNat (bs.getD i 0).toNat=true):iD ts bs f=true:=by
 rw[iD,List.any_eq_true]
 exact⟨bs.getD i 0,by rw[aBT,aBU hi];exact aBZ _,by rw[AH hc];exact h⟩
theorem RW{ts:List aT}{bs:List Int}{f:Nat→Bool}(hc:cA f)(h:∀i,i<bs.length→bL (nx ts) f (bs.getD i 0).toNat (bs.getD i 0).toNat=false):iD ts bs f=false:=by
 rw[iD,List.any_eq_false]
 intro x hx
 obtain⟨i,hi,e⟩:=List.mem_iff_getElem.1 hx
 have:=h i hi
 rw[aBT,aBU hi,Option.getD_some,e] at this
 rw[AH hc,this]
 simp
theorem BK(pa:Option Addr)(pn pc:Nat)(ba:Option Addr)(bn bc:Nat)(bs:List gS)(a:Option Addr)(n c:Nat)(xs:List Int)(f:Nat→Bool)(w:World)(h:dU w ba bn bs)(hg:fS (aG bs)=true)(hcf:cA f)(hf:∀b,f b=true→b<bn)(hI:dY w a n xs)(hxs:∀x∈xs,0≤x∧x<200):
  Calls Tryz.prog 166 #[dX pa pn pc ba bn bc,.slice a n c,.agg (aQ f)] w fun e w'=>e=.returned (.bool (iD (aG bs) xs f))∧Below w.heap.size w w':=by
 have HL:=aBO hI.1
 have hn:=hI.2.1
 have H:=aBO h
 have HG:=aBO hg
 have HC:=aBO hcf
 have HF:=aBO hf
 have HI:=aBO hI
 have HXS:=aBO hxs
 clear h hg hcf hf hI hxs
 go_enter Tryz.func166,Tryz.ntmps166
 go_upto_region 1 with (fail)
 obtain⟨W,hW⟩:∃W,W=(w.alloc (bO pa pn pc ba bn bc)).alloc (bY f):=⟨_,rfl⟩
 rw[←hW]
 have ho:W.heap[w.heap.size]? =some (bO pa pn pc ba bn bc):=by rw[hW,aBR _ _ _ (by simp)];exact aBS _ _
 have hi:W.heap[w.heap.size+1]? =some (bY f):=by rw[hW,aU _ _ _ (by simp)]
 have hB:Below w.heap.size w W:=by rw[hW];exact(aD _ _).alloc (by simp) _
 have HO:=aBO ho
 have HS:=aBO hi
 have HB:=aBO hB
 clear hW ho hi hB
 go_wp2
 go_loopw [7] (fun s7 wr=>∃i:Nat,i≤n∧s7=.int .i64 (i:Int)∧Hid (∀j,j<i→bL (nx (aG bs)) f (xs.getD j 0).toNat (xs.getD j 0).toNat=false)∧Hid (Below W.heap.size W wr)) (fun s7 _=>n-(intOf s7).toNat)
 case atStart=>exact⟨0,by omega,by go_num,fun j hj=>absurd hj (by omega),aBQ _ _⟩
 case round=>
  obtain⟨i,hi,rfl,HR,HBr⟩:=hrel;by_cases hlt:i<n
  ·have hlt':(i:Int)<(n:Int):=by omega
   obtain⟨b,o,rfl,hc,_⟩:=(HI.out.ext (aA HB.out HBr.out)).2.2 i hlt;have hil:i<xs.length:=by rw[HL.out];exact hlt
   have hx:=HXS.out (xs.getD i 0) (by rw[aBT,aBU hil];exact aBZ _);have HYES:=aBO (NX (ts:=aG bs) (bs:=xs) HC.out hil);have HNO:Hid (bL (nx (aG bs)) f (xs.getD i 0).toNat (xs.getD i 0).toNat=false→∀j,j<i+1→bL (nx (aG bs)) f (xs.getD j 0).toNat (xs.getD j 0).toNat=false):=fun h j hj=>by
    by_cases e:j=i
    ·subst e;exact h
    ·exact HR.out j (by omega)
   obtain⟨x,hxe⟩:∃x:Nat,xs.getD i 0=(x:Int):=⟨(xs.getD i 0).toNat,by omega⟩
   rw[hxe] at hc hx HYES HNO;have hx2:x<200:=by omega
   simp only[Int.toNat_natCast] at HYES HNO;have q0:∀n':aY wr,n'.val.cell? ⟨b,o+i,none⟩=some (.int .i64 (x:Int)):=fun n'=>aH n'.ext hc;have qf:∀w',(∃n:aY wr,w'=n.val)→w'.heap[w.heap.size]? =some (bO pa pn pc ba bn bc):=fun w' ⟨n,e⟩=>by rw[e];exact aB n.ext (aB HBr.out HO.out)
   have qs:∀w',(∃n:aY wr,w'=n.val)→w'.heap[w.heap.size+1]? =some (bY f):=fun w' ⟨n,e⟩=>by rw[e];exact aB n.ext (aB HBr.out HS.out)
   have HBH:Hid (∀n':aY wr,Calls Tryz.prog 98 #[dX pa pn pc ba bn bc,.int .i64 (x:Int),.agg (aQ f)] n'.val fun e w''=>e=.returned (.agg (aQ (bL (nx (aG bs)) f x)))∧∃m:aY wr,w''=m.val):=fun n'=>
    cG (gY pa pn pc ba bn bc bs x f n'.val (H.out.ext (aA (aA HB.out HBr.out) n'.ext)) HG.out hx2 HC.out (HF.out x))
   have hix:=fun w=>qN w (bL (nx (aG bs)) f x) x hx2;clear hc hxe hx HR;go_wp2;refine bB (by kernel_rfl) (by kernel_rfl) ?_
   repeat (first
    |go_big_quiet_skip
    |(refine aW (o:=⟨some 14,.load 25 _,_,_,_,_⟩) (by rfl) 25 _ rfl w.heap.size rfl 25 #[.slice pa pn pc,.slice ba bn bc] (0,0) _ qf Tryz.underlying25 rfl aS ?_;simp only[zJ,zG,zH,zI])
    |(refine aW (o:=⟨some 19,.load 107 _,_,_,_,_⟩) (by rfl) 107 _ rfl (w.heap.size+1) rfl 107 _ (0,0) _ qs Tryz.underlying107 rfl (by rw[aF];exact aV) ?_;simp only[zJ,zG,zH,zI])
    |go_big_quiet_step (first
     |(go_at_call 98;exact HBH.out _)))
   refine wpQuiet_nil ?_;intro _ hw';obtain⟨n',rfl⟩:=hw';have HB8:Hid (Below W.heap.size W n'.val):=aA HBr.out n'.ext;generalize n'.val=W8 at *;clear q0 qf qs HBH hix;cases hb:bL (nx (aG bs)) f x x with
   |true=>
    have HE:=aBO (HYES.out hb);clear hb;go_wp2
    go_ret
    exact⟨by rw[HE.out];rfl,aA HB.out HB8.out⟩
   |false=>
    have HR2:=aBO (HNO.out hb);clear hb;go_wp2
    go_roundw
    case rel=>exact⟨i+1,by omega,by go_num,HR2,HB8⟩
    case measure=>simp[intOf];omega
  ·obtain rfl:i=n:=by omega
   have HE:Hid (iD (aG bs) xs f=false):=RW HC.out (by rw[HL.out];exact HR.out);go_wp2
   go_ret
   exact⟨by rw[HE.out];rfl,aA HB.out HBr.out⟩
theorem ZS{ts:List aT}{s:Nat→Bool}(hs:cA s){i:Nat}(hi:i<(aZ s).length)(h:eqS (bL (nx ts) s ((aZ s).getD i 0)) s=false):cU ts s=false:=by
 rw[vY hs,List.all_eq_false]
 exact⟨(aZ s).getD i 0,by rw[aBT,aBU hi];exact aBZ _,by rw[h];simp⟩
theorem YE{ts:List aT}{s:Nat→Bool}(hs:cA s)(h:∀i,i<(aZ s).length→eqS (bL (nx ts) s ((aZ s).getD i 0)) s=true):cU ts s=true:=by
 rw[vY hs,List.all_eq_true]
 intro x hx
 obtain⟨i,hi,e⟩:=List.mem_iff_getElem.1 hx
 have:=h i hi
 rwa [aBT,aBU hi,Option.getD_some,e] at this
theorem sA(pa:Option Addr)(pn pc:Nat)(ba:Option Addr)(bn bc:Nat)(bs:List gS)(f:Nat→Bool)(w:World)(h:dU w ba bn bs)(hg:fS (aG bs)=true)(hcf:cA f)(hf:∀b,f b=true→b<bn):
  Calls Tryz.prog 167 #[dX pa pn pc ba bn bc,.agg (aQ f)] w fun e w'=>e=.returned (.bool (cU (aG bs) f))∧Below w.heap.size w w':=by
 have H:=aBO h
 have HG:=aBO hg
 have HC:=aBO hcf
 have HF:=aBO hf
 have hll:=pY f
 clear h hg hcf hf
 go_enter Tryz.func167,Tryz.ntmps167
 go_upto_region 1 with (fail)
 obtain⟨W,hW⟩:∃W,W=(w.alloc (bO pa pn pc ba bn bc)).alloc (bY f):=⟨_,rfl⟩
 rw[←hW]
 have ho:W.heap[w.heap.size]? =some (bO pa pn pc ba bn bc):=by rw[hW,aBR _ _ _ (by simp)];exact aBS _ _
 have hi:W.heap[w.heap.size+1]? =some (bY f):=by rw[hW,aU _ _ _ (by simp)]
 have hB:Below w.heap.size w W:=by rw[hW];exact(aD _ _).alloc (by simp) _
 have HO:=aBO ho
 have HS:=aBO hi
 have HB:=aBO hB
 clear hW ho hi hB
 go_wp2_with (first
  |(refine wpList_load_row (o:=⟨some 7,.load 107 _,_,_,_,_⟩) rfl 107 _ rfl (w.heap.size+1) rfl 107 _ (0,0) _ HS.out Tryz.underlying107 rfl (by rw[aF];exact aV) ?_)
  |(go_at_call 76
    refine(uL f W).mono ?_;rintro e w1 ⟨v,rfl,ho,hb⟩;obtain⟨va,vc,rfl⟩:=ho.form;have HL:=aBO ho.ints;have HB1:=aBO (aA HB.out hb);have HO1:=aBO (aB hb HO.out);have HS1:=aBO (aB hb HS.out)
    clear ho hb))
 have hnl:(aO (aZ f)).length=(aZ f).length:=by simp[aO]
 rw[hnl]
 rw[hnl] at HL
 clear hnl HO HS HB
 go_loopw [6] (fun s6 wr=>∃i:Nat,i≤(aZ f).length∧s6=.int .i64 (i:Int)∧Hid (∀j,j<i→eqS (bL (nx (aG bs)) f ((aZ f).getD j 0)) f=true)∧Hid (Below w1.heap.size w1 wr)) (fun s6 _=>(aZ f).length-(intOf s6).toNat)
 case atStart=>exact⟨0,by omega,by go_num,fun j hj=>absurd hj (by omega),aBQ _ _⟩
 case round=>
  obtain⟨i,hi,rfl,HR,HBr⟩:=hrel;by_cases hlt:i<(aZ f).length
  ·have hlt':(i:Int)<((aZ f).length:Int):=by omega
   obtain⟨b,o,rfl,hc,_⟩:=(HL.out.ext HBr.out).2.2 i hlt;have hxe:(aO (aZ f)).getD i 0=(((aZ f).getD i 0:Nat):Int):=by simp[aO,aBT,hlt]
   have hmem:(aZ f).getD i 0∈aZ f:=by rw[aBT,aBU hlt];exact aBZ _
   have hfx:=(eG HC.out _).1 hmem;have hx2:=HC.out _ hfx;have HYES:=aBO (ZS (ts:=aG bs) HC.out hlt);have HNO:Hid (eqS (bL (nx (aG bs)) f ((aZ f).getD i 0)) f=true→∀j,j<i+1→eqS (bL (nx (aG bs)) f ((aZ f).getD j 0)) f=true):=fun h j hj=>by
    by_cases e:j=i
    ·subst e;exact h
    ·exact HR.out j (by omega)
   rw[hxe] at hc;generalize (aZ f).getD i 0=x at *;have q0:∀n':aY wr,n'.val.cell? ⟨b,o+i,none⟩=some (.int .i64 (x:Int)):=fun n'=>aH n'.ext hc;have qf:∀w',(∃n:aY wr,w'=n.val)→w'.heap[w.heap.size]? =some (bO pa pn pc ba bn bc):=fun w' ⟨n,e⟩=>by rw[e];exact aB n.ext (aB HBr.out HO1.out)
   have qs:∀w',(∃n:aY wr,w'=n.val)→w'.heap[w.heap.size+1]? =some (bY f):=fun w' ⟨n,e⟩=>by rw[e];exact aB n.ext (aB HBr.out HS1.out)
   have HBH:Hid (∀n':aY wr,Calls Tryz.prog 98 #[dX pa pn pc ba bn bc,.int .i64 (x:Int),.agg (aQ f)] n'.val fun e w''=>e=.returned (.agg (aQ (bL (nx (aG bs)) f x)))∧∃m:aY wr,w''=m.val):=fun n'=>
    cG (gY pa pn pc ba bn bc bs x f n'.val (H.out.ext (aA (aA HB1.out HBr.out) n'.ext)) HG.out hx2 HC.out (HF.out x))
   have hne:=fun w=>WF w (bL (nx (aG bs)) f x) f;clear hc hxe hmem hfx HR;go_wp2;refine bB (by kernel_rfl) (by kernel_rfl) ?_
   repeat (first
    |go_big_quiet_skip
    |(refine aW (o:=⟨some 15,.load 25 _,_,_,_,_⟩) (by rfl) 25 _ rfl w.heap.size rfl 25 #[.slice pa pn pc,.slice ba bn bc] (0,0) _ qf Tryz.underlying25 rfl aS ?_;simp only[zJ,zG,zH,zI])
    |(refine aW (o:=⟨some 20,.load 107 _,_,_,_,_⟩) (by rfl) 107 _ rfl (w.heap.size+1) rfl 107 _ (0,0) _ qs Tryz.underlying107 rfl (by rw[aF];exact aV) ?_;simp only[zJ,zG,zH,zI])
    |(refine aW (o:=⟨some 22,.load 107 _,_,_,_,_⟩) (by rfl) 107 _ rfl (w.heap.size+1) rfl 107 _ (0,0) _ qs Tryz.underlying107 rfl (by rw[aF];exact aV) ?_;simp only[zJ,zG,zH,zI])
    |go_big_quiet_step (first
     |(go_at_call 98;exact HBH.out _)))
   refine wpQuiet_nil ?_;intro _ hw';obtain⟨n',rfl⟩:=hw';have HB8:Hid (Below w1.heap.size w1 n'.val):=aA HBr.out n'.ext;generalize n'.val=W8 at *;clear q0 qf qs HBH hne;cases hb:eqS (bL (nx (aG bs)) f x) f with
   |false=>
    have HE:=aBO (HYES.out hb);clear hb;go_wp2
    go_ret
    exact⟨by rw[HE.out];rfl,aA HB1.out HB8.out⟩
   |true=>
    have HR2:=aBO (HNO.out hb);clear hb;go_wp2
    go_roundw
    case rel=>exact⟨i+1,by omega,by go_num,HR2,HB8⟩
    case measure=>simp[intOf];omega
  ·obtain rfl:i=(aZ f).length:=by omega
   have HE:Hid (cU (aG bs) f=true):=YE HC.out HR.out;go_wp2
   go_ret
   exact⟨by rw[HE.out];rfl,aA HB1.out HBr.out⟩
end

section
open Go.RowKit
section
variable {P:Program} {ops:Array Oper} {rest:List Oper} {o:Oper} {a:Act}
theorem aX{C:World→Prop}{Q:Act→Prop}(hw:Region.wanted o (yielded ops a.tmps)=true)(ty:TypeId)(x:Operand)(ho:o.op=.load ty x)
  (b q:Nat) (hx:a.eval x=.pointer (some ⟨b,q,none⟩)) (cs:List Value) (d:TypeDesc) (hc:∀w,C w→w.rangeAt b q cs)
  (hu:P.underlying ty=some d) (hd:d.isRow=true) (hi:(P.info? ty).map (·.size)=some cs.length)
  (h:wpQuiet P ops C Q rest (a.put o.dst (.agg cs.toArray))):wpQuiet P ops C Q (o :: rest) a:=
 BigFrame.wpQuiet_want hw fun _ hK=>⟨.agg cs.toArray,fun w hC=>by
  unfold Oper.quietAt execOp;simp only[ho,hx,Instr.loadAt,Instr.sureAddr,Sem.run_bind,Sem.run_pure,Result.andThen_ok,run_loadVar_mid w b q ty cs d (hc w hC) hu hd hi]
  exact⟨rfl,rfl⟩,hK _ h⟩
end
theorem sQ{base:Nat}{e:TypeId}{size g n c:Nat}:∀(vs:List Value) (o:Nat) (xs:List Value) (w:World),w.ownsRow base e size (.slice (some ⟨g,0,none⟩) n c) n xs→o+vs.length≤xs.length→
  (w.setCells g o vs).ownsRow base e size (.slice (some ⟨g,0,none⟩) n c) n (xs.take o++vs++xs.drop (o+vs.length))
 | [],o,xs,w,h,_=>by simpa[World.setCells] using h
 |v :: r,o,xs,w,h,ho=>by
  simp only[List.length_cons] at ho;have h1:=sQ r (o+1) _ _ (h.stored o v).1 (by simp;omega);rw[World.setCells];have e:(xs.set o v).take (o+1)++r++(xs.set o v).drop (o+1+r.length)=xs.take o++(v :: r)++xs.drop (o+(v :: r).length):=by
   rw[List.drop_set_of_lt (by omega),List.take_add_one,List.take_set_of_le (by omega),List.getElem?_set_self (by omega)];simp[Nat.add_assoc,Nat.add_comm 1]
  rw[e] at h1;exact h1
theorem KG{α:Type}(cs:α→List Value)(size:Nat)(hs:∀x,(cs x).length=size)(x:α):∀(l:List α) (k:Nat),k<l.length→(l.flatMap cs).take (k*size)++cs x++(l.flatMap cs).drop (k*size+size)=(l.set k x).flatMap cs
 |y :: l,0,_=>by
  simp only[List.flatMap_cons,Nat.zero_mul,List.take_zero,List.nil_append,List.set_cons_zero,Nat.zero_add];rw[←hs y,List.drop_left]
 |y :: l,k+1,h=>by
  have ih:=KG cs size hs x l k (by simpa using h);rw[List.flatMap_cons,List.set_cons_succ,List.flatMap_cons,←ih,Nat.add_mul,Nat.one_mul];have e1:k*size+size=(cs y).length+k*size:=by rw[hs];omega
  have e2:k*size+size+size=(cs y).length+(k*size+size):=by rw[hs];omega
  rw[e2,List.drop_append,e1,List.take_append];simp only[List.append_assoc];rw[aCB (by omega),List.drop_of_length_le (l:=cs y) (by omega),List.nil_append]
  congr 2
  ·congr 1;omega
  ·congr 1
   congr 1;omega
section
variable {α:Type} {e:TypeId} {size:Nat} {cs:α→List Value} {w w':World} {base:Nat} {ls:List α} {g n c:Nat}
theorem cK.range(hs:∀x,(cs x).length=size)(h:cK e size cs w base (.slice (some ⟨g,0,none⟩) n c) ls)(z:α){k:Nat}(hk:k<ls.length):w.rangeAt g (k*size) (cs (ls.getD k z)):=by
 obtain rfl:n=ls.length:=by obtain⟨a,c',e⟩:=h.form;injection e
 have hr:=h.recs hs
 obtain⟨b,o,ea,hc⟩:=hr.at_ (k:=k) (by rw[hr.1];exact hk) z
 injection ea with ea
 injection ea with ea eo
 subst ea eo
 intro j v hv
 have hj:j<size:=by rw[←hs (ls.getD k z)];exact(aBX.1 hv).1
 rw[←hv,←hc j hj,Nat.zero_add]
theorem cK.setAt(hs:∀x,(cs x).length=size)(h:cK e size cs w base (.slice (some ⟨g,0,none⟩) n c) ls){k:Nat}(hk:k<ls.length)(x:α):cK e size cs (w.setCells g (k*size) (cs x)) base (.slice (some ⟨g,0,none⟩) n c) (ls.set k x):=by
 obtain rfl:n=ls.length:=by obtain⟨a,c',e⟩:=h.form;injection e
 have hl:=jY cs size hs ls
 have hkk:k*size+size≤ls.length*size:=by
  have:(k+1)*size≤ls.length*size:=Nat.mul_le_mul_right _ hk;rw[Nat.add_mul,Nat.one_mul] at this;exact this
 have h1:=sQ (cs x) (k*size) _ _ h.1 (by rw[hs,hl];exact hkk)
 rw[hs,KG cs size hs x ls k hk] at h1
 refine⟨?_,by simpa using h.2⟩
 rw[List.length_set]
 exact h1
theorem cK.there(hs:∀x,(cs x).length=size)(h:cK e size cs w base (.slice (some ⟨g,0,none⟩) n c) ls){k:Nat}(hk:k<ls.length):w.there g (k*size) size:=by
 have hl:=jY cs size hs ls
 have hkk:k*size+size≤ls.length*size:=by
  have:(k+1)*size≤ls.length*size:=Nat.mul_le_mul_right _ hk;rw[Nat.add_mul,Nat.one_mul] at this;exact this
 rcases h.1.2 with ⟨h0,_⟩|⟨g',cap,cur,hv,hb,hh,hnc,hcm,hcs,ht⟩
 ·cases h0
 ·simp only[Value.slice.injEq,Option.some.injEq,Addr.mk.injEq,and_true,true_and] at hv;obtain⟨rfl,rfl,rfl⟩:=hv;intro j hj;have:ls.length*size≤c*size:=Nat.mul_le_mul_right _ hnc;refine⟨?_,frozen_of_row _ _ _ _ _ hh⟩;rw[aBP _ _ _ _ _ _ hh];rw[Array.getElem?_eq_getElem (by omega)];rfl
end
theorem eB{S:Nat→Prop}{a:World}{g:Nat}(hs:S g):∀(vs:List Value) (o:Nat) (w:World),Chg S a w→Chg S a (w.setCells g o vs)
 | [],_,_,h=>h
 |v :: r,o,w,h=>eB hs r (o+1) _ (h.setCell (Or.inl hs) v)
end

section
open Go.RowKit Go.Shelf
def bJ(p:aI):List Value:=(aQ p.s).toList++ [.int .i64 p.kind,.int .i64 p.entry]
theorem eE(p:aI):(bJ p).length=202:=by simp[bJ,aF]
theorem cV(p:aI):∀v∈bJ p,v.oneCell'=true:=by
 intro v hv
 rcases aCA.1 hv with h|h
 ·have:=dE p.s;rw[Array.all_eq_true_iff_forall_mem] at this;exact this v (by simpa using h)
 ·simp only[List.mem_cons,List.not_mem_nil,or_false] at h;rcases h with rfl|rfl<;>rfl
abbrev kN(p:aI):Value:=.agg (bJ p).toArray
theorem cR(l:List Value):l.toArray.toList=l:=rfl
theorem EA:(Tryz.prog.info? 128).map (·.size)=some 202:=by kernel_rfl
theorem cE(p:aI):(Tryz.prog.info? 128).map (·.size)=some (bJ p).length:=by rw[eE];exact EA
theorem cF(p:aI):(Tryz.prog.info? 128).map (·.size)=some (bJ p).toArray.size:=by rw[List.size_toArray];exact cE p
def bR(W:World)(base:Nat)(v:Value)(L:List aI):Prop:=cK 128 202 bJ W base v L
section
variable {W W':World} {base g n c:Nat} {L:List aI}
theorem bR.len(h:bR W base (.slice (some ⟨g,0,none⟩) n c) L):L.length=n:=by
 obtain⟨_,_,e⟩:=cK.form h
 injection e with _ e _
 exact e.symm
theorem bR.ext{v:Value}(h:bR W base v L)(hb:Below W.heap.size W W'):bR W' base v L:=cK.ext h hb
theorem bR.drew{v:Value}(h:bR W base v L):bR W.drew base v L:=h.ext (bZ (aBQ _ _) 1)
theorem dW(h:bR W base (.slice (some ⟨g,0,none⟩) n c) L){k:Nat}(hk:k<n):W.rangeAt g (k*202) (bJ (L.getD k aE)):=cK.range eE h aE (by rw[h.len];exact hk)
theorem jO(h:bR W base (.slice (some ⟨g,0,none⟩) n c) L){k:Nat}(hk:k<n)(p:aI):W.there g (k*202) (bJ p).toArray.size:=by
 rw[List.size_toArray,eE]
 exact cK.there eE h (by rw[h.len];exact hk)
theorem mW(h:bR W base (.slice (some ⟨g,0,none⟩) n c) L){k:Nat}(hk:k<n)(p:aI):bR (W.setCells g (k*202) (bJ p)) base (.slice (some ⟨g,0,none⟩) n c) (L.set k p):=cK.setAt eE h (by rw[h.len];exact hk) p
end
theorem DC(g n c a b m base:Nat)(fv:Value)(L:List aI)(w:World)(h:bR w base (.slice (some ⟨g,0,none⟩) n c) L)(hn:n≤1000000)(hab:a+m≤b)(hbm:b+m≤n):
  Calls Tryz.prog 220 #[.slice (some ⟨g,0,none⟩) n c,.int .i64 (a:Int),.int .i64 (b:Int),.int .i64 (m:Int),fv] w fun e w'=>e=.returned (.tuple #[])∧
   ∃L',bR w' base (.slice (some ⟨g,0,none⟩) n c) L'∧Sh aE L L' a (b+m)∧(∀k,L'.getD k aE=mT (fun k=>L.getD k aE) a b m k)∧Chg (fun k=>k=g) w w':=by
 have H:=aBO h
 clear h
 go_enter Tryz.func220,Tryz.ntmps220
 go_wp2
 go_loopw [10] (fun s10 wr=>∃(i:Nat) (L1:List aI),i≤m∧s10=.int .i64 (i:Int)∧Hid (bR wr base (.slice (some ⟨g,0,none⟩) n c) L1∧Sh aE L L1 a (b+m)∧(∀k,L1.getD k aE=mT (fun k=>L.getD k aE) a b i k)∧Chg (fun k=>k=g) w wr)) (fun s10 _=>m-(intOf s10).toNat)
 case atStart=>exact⟨0,L,by omega,by go_num,H.out,Sh.refl _ _ _,fun k=>by rw[NP],Chg.refl _ _⟩
 case round=>
  obtain⟨i,L1,hi,rfl,HJ⟩:=hrel;by_cases hlt:i<m
  ·have hlt':(i:Int)<(m:Int):=by omega
   have h1:=HJ.out.1.drew;have hr1:=dW h1 (k:=a+i) (by omega);have hr2:=dW h1 (k:=b+i) (by omega);have ht1:=jO h1 (k:=a+i) (by omega) (L1.getD (b+i) aE);have h2:=mW h1 (k:=a+i) (by omega) (L1.getD (b+i) aE);have ht2:=jO h2 (k:=b+i) (by omega) (L1.getD (a+i) aE);have h3:=mW h2 (k:=b+i) (by omega) (L1.getD (a+i) aE);have hlen:=HJ.out.1.len;have HJ2:Hid (bR ((wr.drew.setCells g ((a+i)*202) (bJ (L1.getD (b+i) aE))).setCells g ((b+i)*202) (bJ (L1.getD (a+i) aE))) base (.slice (some ⟨g,0,none⟩) n c) (fR aE L1 (a+i) (b+i))∧Sh aE L (fR aE L1 (a+i) (b+i)) a (b+m)∧(∀k,(fR aE L1 (a+i) (b+i)).getD k aE=mT (fun k=>L.getD k aE) a b (i+1) k)∧Chg (fun k=>k=g) w ((wr.drew.setCells g ((a+i)*202) (bJ (L1.getD (b+i) aE))).setCells g ((b+i)*202) (bJ (L1.getD (a+i) aE)))):=by
    refine⟨h3,HJ.out.2.1.trans (Sh.swap L1 (by omega) (by omega) (by omega)),fun k=>?_,eB (S:=fun k=>k=g) rfl _ _ _ (eB (S:=fun k=>k=g) rfl _ _ _ (HJ.out.2.2.2.drewN 1))⟩;rw[pJ aE L1 (by omega) (by omega),←NQ _ _ _ _ (by omega),HJ.out.2.2.1,HJ.out.2.2.1,HJ.out.2.2.1]
   clear h1 h2 h3 HJ;generalize L1.getD (a+i) aE=x at *;generalize L1.getD (b+i) aE=y at *;go_wp2;obtain⟨w8,hw8⟩:∃w8,w8=wr.drew.setCells g ((a+i)*202) (bJ y):=⟨_,rfl⟩
   rw[←hw8] at HJ2 ht2;obtain⟨w9,hw9⟩:∃w9,w9=w8.setCells g ((b+i)*202) (bJ x):=⟨_,rfl⟩
   rw[←hw9] at HJ2;refine oU (fun _=>True) (by kernel_rfl) ?_;refine cP 0 13 (by kernel_rfl) trivial ?_;simp only[List.take_succ_cons,List.take_zero,List.drop_succ_cons,List.drop_zero]
   repeat (go_big_quiet_step (fail))
   refine wpQuiet_nil ?_;refine cP 14 5 (by kernel_rfl) trivial ?_;simp only[List.take_succ_cons,List.take_zero,List.drop_succ_cons,List.drop_zero]
   repeat (go_big_quiet_step (fail))
   refine wpQuiet_nil ?_;refine IB 13 19 (by kernel_rfl) ?_ ?_
   ·refine aC rfl rfl ?_;refine wp_load_mid 128 _ rfl g ((b+i)*202) rfl (bJ y) _ hr2 Tryz.underlying128 rfl (cE _) ?_;refine⟨Or.inr trivial,?_⟩;simp only[zJ,zG,zH,zI];refine eQ 19 (by kernel_rfl) ?_;refine aC rfl rfl ?_;refine wp_load_mid 128 _ rfl g ((a+i)*202) rfl (bJ x) _ hr1 Tryz.underlying128 rfl (cE _) ?_;refine⟨Or.inr trivial,?_⟩;simp only[zJ,zG,zH,zI];refine cP 20 1 (by kernel_rfl) trivial ?_;simp only[List.take_succ_cons,List.take_zero,List.drop_succ_cons,List.drop_zero]
    repeat (go_big_quiet_step (fail))
    refine wpQuiet_nil ?_;refine eQ 21 (by kernel_rfl) ?_;refine aC rfl rfl ?_;refine wp_store_mid 128 _ _ rfl g ((a+i)*202) (bJ y).toArray rfl rfl ht1 (cF _) (all_oneCell_toArray (cV _)) ?_;simp only[cW,cR];rw[←hw8];refine⟨Or.inr trivial,?_⟩;refine cP 22 1 (by kernel_rfl) trivial ?_;simp only[List.take_succ_cons,List.take_zero,List.drop_succ_cons,List.drop_zero]
    repeat (go_big_quiet_step (fail))
    refine wpQuiet_nil ?_;refine eQ 23 (by kernel_rfl) ?_;refine aC rfl rfl ?_;refine wp_store_mid 128 _ _ rfl g ((b+i)*202) (bJ x).toArray rfl rfl ht2 (cF _) (all_oneCell_toArray (cV _)) ?_;simp only[cW,cR];refine⟨Or.inr trivial,?_⟩;rw[←hw9];refine mE (by kernel_rfl) ?_;clear hw9 hw8;go_wp2
    go_roundw
    case rel=>exact⟨i+1,_,by omega,by go_num,HJ2⟩
    case measure=>simp[intOf];omega
   ·refine aC rfl rfl ?_;refine wp_load_mid 128 _ rfl g ((a+i)*202) rfl (bJ x) _ hr1 Tryz.underlying128 rfl (cE _) ?_;refine⟨Or.inr trivial,?_⟩;simp only[zJ,zG,zH,zI];refine eQ 13 (by kernel_rfl) ?_;refine aC rfl rfl ?_;refine wp_load_mid 128 _ rfl g ((b+i)*202) rfl (bJ y) _ hr2 Tryz.underlying128 rfl (cE _) ?_;refine⟨Or.inr trivial,?_⟩;simp only[zJ,zG,zH,zI];refine cP 20 1 (by kernel_rfl) trivial ?_;simp only[List.take_succ_cons,List.take_zero,List.drop_succ_cons,List.drop_zero]
    repeat (go_big_quiet_step (fail))
    refine wpQuiet_nil ?_;refine eQ 21 (by kernel_rfl) ?_;refine aC rfl rfl ?_;refine wp_store_mid 128 _ _ rfl g ((a+i)*202) (bJ y).toArray rfl rfl ht1 (cF _) (all_oneCell_toArray (cV _)) ?_;simp only[cW,cR];rw[←hw8];refine⟨Or.inr trivial,?_⟩;refine cP 22 1 (by kernel_rfl) trivial ?_;simp only[List.take_succ_cons,List.take_zero,List.drop_succ_cons,List.drop_zero]
    repeat (go_big_quiet_step (fail))
    refine wpQuiet_nil ?_;refine eQ 23 (by kernel_rfl) ?_;refine aC rfl rfl ?_;refine wp_store_mid 128 _ _ rfl g ((b+i)*202) (bJ x).toArray rfl rfl ht2 (cF _) (all_oneCell_toArray (cV _)) ?_;simp only[cW,cR];refine⟨Or.inr trivial,?_⟩;rw[←hw9];refine mE (by kernel_rfl) ?_;clear hw9 hw8;go_wp2
    go_roundw
    case rel=>exact⟨i+1,_,by omega,by go_num,HJ2⟩
    case measure=>simp[intOf];omega
  ·obtain rfl:i=m:=by omega
   go_wp2
   go_end0
   exact⟨rfl,L1,HJ.out.1,HJ.out.2.1,HJ.out.2.2.1,HJ.out.2.2.2⟩
theorem oP(g n c a b m base:Nat)(za zb zm:Int)(fv:Value)(L:List aI)(w:World)(h:bR w base (.slice (some ⟨g,0,none⟩) n c) L)(hn:n≤1000000)(ha:za=(a:Int))(hb:zb=(b:Int))(hm:zm=(m:Int))(hab:a+m≤b)(hbm:b+m≤n):
  Calls Tryz.prog 220 #[.slice (some ⟨g,0,none⟩) n c,.int .i64 za,.int .i64 zb,.int .i64 zm,fv] w fun e w'=>e=.returned (.tuple #[])∧
   ∃L',bR w' base (.slice (some ⟨g,0,none⟩) n c) L'∧Sh aE L L' a (b+m)∧(∀k,L'.getD k aE=mT (fun k=>L.getD k aE) a b m k)∧Chg (fun k=>k=g) w w':=by
 subst ha hb hm
 exact DC g n c a b m base fv L w h hn hab hbm
end

section
open Go.RowKit
theorem FU(off:Nat)(vs:List Value)(cells:Array Value)(k:Nat):
  (vs.toArray.zipIdx.foldl (fun cs (x:Value×Nat)=>cs.setIfInBounds (off+x.2) x.1) cells).size=cells.size∧
  (vs.toArray.zipIdx.foldl (fun cs (x:Value×Nat)=>cs.setIfInBounds (off+x.2) x.1) cells)[k]? =if off≤k∧k<off+vs.length∧k<cells.size then vs[k-off]? else cells[k]?:=by
 have h:=Great.foldl_set off vs 0 cells
 rw[←Array.foldl_toList]
 simp only[Array.toList_zipIdx]
 exact⟨h.1,by have:=h.2 k;simpa using this⟩
theorem AK(p:aI):(bJ p).toArray=((aQ p.s).push (.int .i64 p.kind)).push (.int .i64 p.entry):=by
 rw[←Array.toList_inj]
 simp[bJ]
theorem TF(s:Nat→Bool)(kd e:Int)(cells:Array Value)(hc:cells.size=202):
  Instr.fill (fun i=>#[(0,200),(200,1),(201,1)][i]?) cells [(0,.agg (aQ s)),(1,.int .i64 kd),(2,.int .i64 e)]=some (bJ ⟨s,kd,e⟩).toArray:=by
 have s1:(Value.agg (aQ s)).cells=aQ s:=rfl
 unfold Instr.fill
 simp only[List.getElem?_toArray,List.getElem?_cons_zero,s1,aF,hc]
 rw[if_neg (by simp)]
 have h1:=fun k=>FU 0 (aQ s).toList cells k
 rw[show(aQ s).toList.toArray=aQ s by simp] at h1
 generalize (aQ s).zipIdx.foldl (fun cs (x:Value×Nat)=>cs.setIfInBounds (0+x.2) x.1) cells=c1 at*
 have hs1:c1.size=202:=by rw[(h1 0).1,hc]
 have h1:=fun k=>(h1 k).2
 unfold Instr.fill
 simp only[List.getElem?_toArray,List.getElem?_cons_succ,List.getElem?_cons_zero,Value.cells,List.size_toArray,List.length_cons,List.length_nil,hs1]
 rw[if_neg (by simp)]
 unfold Instr.fill
 simp only[List.getElem?_toArray,List.getElem?_cons_succ,List.getElem?_cons_zero,Value.cells,List.size_toArray,List.length_cons,List.length_nil]
 rw[if_neg (by simp[hs1])]
 unfold Instr.fill
 congr 1
 apply Array.ext_getElem?
 intro k
 rw[AK]
 have z1:∀v:Value,#[v].zipIdx= #[(v,0)]:=fun v=>rfl
 simp only[z1,List.foldl_toArray,List.foldl_toArray',List.size_toArray,List.length_cons,List.length_nil,List.foldl_cons,List.foldl_nil,Nat.add_zero,Array.getElem?_setIfInBounds,Array.size_setIfInBounds,hs1,Array.getElem?_push,Array.size_push,aF,h1,Array.length_toList,hc,Nat.zero_add,Array.getElem?_toList,Nat.sub_zero]
 by_cases k1:k=201
 ·subst k1;simp
 ·by_cases k2:k=200
  ·subst k2;simp
  ·by_cases k3:k<200
   ·rw[if_neg (by omega),if_neg (by omega),if_pos (by omega),if_neg (by omega),if_neg (by omega)]
   ·rw[if_neg (by omega),if_neg (by omega),if_neg (by omega),if_neg (by omega),if_neg (by omega)];rw[Array.getElem?_eq_none (by omega),Array.getElem?_eq_none (by rw[aF];omega)]
theorem PI(s:Nat→Bool)(kd e:Int):Tryz.prog.built 128 [(0,.agg (aQ s)),(1,.int .i64 kd),(2,.int .i64 e)]=some (bJ ⟨s,kd,e⟩).toArray:=by
 have h:=TF s kd e Tryz.zeroCells128 (by kernel_rfl)
 refine Eq.trans ?_ h
 kernel_rfl
theorem sB(s:Nat→Bool)(kd e:Int)(w:World):(Instr.build 128 #[(0,.agg (aQ s)),(1,.int .i64 kd),(2,.int .i64 e)]).run Tryz.prog w=.ok (kN ⟨s,kd,e⟩) w:=run_build w _ _ _ (PI s kd e)
theorem vS{s:Nat}(vs:List Value)(cells:Array Value)(h1:vs.length=s)(h2:cells.size=s):Instr.fill (fun i=>some (i*s,s)) cells [(0,.agg vs.toArray)]=some vs.toArray:=by
 unfold Instr.fill
 have s1:(Value.agg vs.toArray).cells=vs.toArray:=rfl
 simp only[s1,List.size_toArray,h1,h2]
 rw[if_neg (by simp)]
 unfold Instr.fill
 congr 1
 apply Array.ext_getElem?
 intro k
 have h:=(FU (0*s) vs cells k).2
 rw[h]
 simp only[Nat.zero_mul,Nat.zero_le,Nat.zero_add,Nat.sub_zero,true_and,h1,h2,List.getElem?_toArray]
 by_cases hk:k<s
 ·rw[if_pos ⟨hk,hk⟩]
 ·rw[if_neg (by omega),Array.getElem?_eq_none (by omega),List.getElem?_eq_none (by omega)]
theorem uJ{o:Oper}{a:Act}{w:World}{K:Act→World→Prop}{Q:Exit→Act→World→Prop}(x:Operand)(p:aI)(ho:o.op=.buildSlice 120 1 #[(0,x)])(hx:a.eval x=kN p)
  (h:K (a.put o.dst (.slice (some ⟨w.heap.size,0,none⟩) 1 1)) (w.alloc (.cells (bJ p).toArray 128))):o.wp Tryz.prog a w K Q:=by
 obtain⟨ie,hie⟩:∃i,Tryz.prog.info? 128=some i:=Option.isSome_iff_exists.1 (by kernel_rfl)
 have hs:ie.size=202:=by have:=EA;rw[hie] at this;simpa using this
 obtain⟨z,hz⟩:∃z,ie.zero=some z:=by
  have:(Tryz.prog.info? 128).map (fun i=>i.zero.isSome)=some true:=by kernel_rfl
  rw[hie] at this;exact Option.isSome_iff_exists.1 (by simpa using this)
 refine wp_buildSlice _ 128 1 #[(0,x)] ho (bJ p).toArray ie z Tryz.underlying120 hie hz (by rw[hs];omega) (by rw[hs];omega) ?_ h
 simp only[List.map_toArray,List.map_cons,List.map_nil,hx]
 rw[hs]
 exact vS (bJ p) _ (eE p) (by simp)
theorem BN{ops:Array Oper}{rest:List Oper}{o:Oper}{a:Act}{C:World→Prop}{Q:Act→Prop}(hw:Region.wanted o (yielded ops a.tmps)=true)(x y z:Operand)(s:Nat→Bool)(kd e:Int)(ho:o.op=.build 128 #[(0,x),(1,y),(2,z)])
  (hx:a.eval x=.agg (aQ s)) (hy:a.eval y=.int .i64 kd) (hz:a.eval z=.int .i64 e) (h:wpQuiet Tryz.prog ops C Q rest (a.put o.dst (kN ⟨s,kd,e⟩))):wpQuiet Tryz.prog ops C Q (o :: rest) a:=
 BigFrame.wpQuiet_want hw fun _ hK=>⟨kN ⟨s,kd,e⟩,fun w hC=>by
  unfold Oper.quietAt execOp;simp only[ho,List.map_toArray,List.map_cons,List.map_nil,hx,hy,hz,Sem.run_bind,sB,Result.andThen_ok,Sem.run_pure]
  exact⟨rfl,rfl⟩,hK _ h⟩
theorem gF{P:Program}{ops:Array Oper}{rest:List Oper}{o:Oper}{a:Act}{w:World}{Q:Exit→Act→World→Prop}(hw:Region.wanted o (yielded ops a.tmps)=true)(ty:TypeId)(x:Operand)(ho:o.op=.load ty x)
  (b q:Nat) (hx:a.eval x=.pointer (some ⟨b,q,none⟩)) (cs:List Value) (d:TypeDesc) (hc:w.rangeAt b q cs)
  (hu:P.underlying ty=some d) (hd:d.isRow=true) (hi:(P.info? ty).map (·.size)=some cs.length)
  (h:wpList P ops Q rest (a.put o.dst (.agg cs.toArray)) w):wpList P ops Q (o :: rest) a w:=
 BigFrame.wpList_want hw fun _ hK=>wp_load_mid ty x ho b q hx cs d hc hu hd hi (hK _ _ h)
theorem xX{ops:Array Oper}{rest:List Oper}{o:Oper}{a:Act}{w:World}{Q:Exit→Act→World→Prop}(hgd:o.guard=none)(x y z:Operand)(s:Nat→Bool)(kd e:Int)(ho:o.op=.build 128 #[(0,x),(1,y),(2,z)])
  (hx:a.eval x=.agg (aQ s)) (hy:a.eval y=.int .i64 kd) (hz:a.eval z=.int .i64 e) (h:wpList Tryz.prog ops Q rest (a.put o.dst (kN ⟨s,kd,e⟩)) w):wpList Tryz.prog ops Q (o :: rest) a w:=
 wpList_plain hgd fun K hK=>by
  unfold Oper.wp execOp;simp only[ho,List.map_toArray,List.map_cons,List.map_nil,hx,hy,hz,Sem.run_bind,sB,Result.andThen_ok,Sem.run_pure];exact hK _ _ h
theorem CC{ops:Array Oper}{rest:List Oper}{o:Oper}{a:Act}{w:World}{Q:Exit→Act→World→Prop}(hgd:o.guard=none)(x:Operand)(p:aI)(ho:o.op=.buildSlice 120 1 #[(0,x)])(hx:a.eval x=kN p)
  (h:wpList Tryz.prog ops Q rest (a.put o.dst (.slice (some ⟨w.heap.size,0,none⟩) 1 1)) (w.alloc (.cells (bJ p).toArray 128))):wpList Tryz.prog ops Q (o :: rest) a w:=
 wpList_plain hgd fun _ hK=>uJ x p ho hx (hK _ _ h)
end

section
open Go.RowKit
def tC(x y:Int):Int:=if x<y then -1 else if y<x then 1 else 0
def orV:List Int→Int
 | []=>0
 |x :: l=>if x=0 then orV l else x
theorem QI:∀(l:List Int) (k:Nat),k<l.length→(∀j,j<k→l.getD j 0=0)→l.getD k 0≠0→orV l=l.getD k 0
 |x :: l,0,_,_,h=>by simp only[orV,List.getD_cons_zero] at h⊢;rw[if_neg h]
 |x :: l,k+1,hk,h0,h=>by
  have h1:x=0:=by have:=h0 0 (by omega);simpa using this
  rw[orV,if_pos h1,List.getD_cons_succ];exact QI l k (by simpa using hk) (fun j hj=>by have:=h0 (j+1) (by omega);simpa using this) (by simpa using h)
theorem IZ:∀(l:List Int),(∀j,j<l.length→l.getD j 0=0)→orV l=0
 | [],_=>rfl
 |x :: l,h=>by
  have h1:x=0:=by have:=h 0 (by simp);simpa using this
  rw[orV,if_pos h1];exact IZ l fun j hj=>by have:=h (j+1) (by simpa using hj);simpa using this
theorem xE(x:Int)(w:World):Calls Tryz.prog 136 #[.int .i64 x] w fun e w'=>e=.returned (.bool false)∧w=w':=by
 go_enter Tryz.func136,Tryz.ntmps136
 go_wp2
 go_ret
 exact⟨rfl,rfl⟩
theorem yP(x y:Int)(w:World):Calls Tryz.prog 85 #[.int .i64 x,.int .i64 y] w fun e w'=>e=.returned (.int .i64 (tC x y))∧w=w':=by
 by_cases h1:x<y
 ·have HE:Hid (tC x y= -1):=by rw[Hid,tC,if_pos h1]
  go_enter Tryz.func85,Tryz.ntmps85
  go_wp2_with (go_at_call 136;refine(xE _ _).mono ?_;rintro e w1 ⟨rfl,rfl⟩)
  go_ret
  exact⟨by rw[HE.out];rfl,rfl⟩
 ·by_cases h2:y<x
  ·have HE:Hid (tC x y=1):=by rw[Hid,tC,if_neg h1,if_pos h2]
   go_enter Tryz.func85,Tryz.ntmps85
   go_wp2_with (go_at_call 136;refine(xE _ _).mono ?_;rintro e w1 ⟨rfl,rfl⟩)
   go_ret
   exact⟨by rw[HE.out];rfl,rfl⟩
  ·have HE:Hid (tC x y=0):=by rw[Hid,tC,if_neg h1,if_neg h2]
   go_enter Tryz.func85,Tryz.ntmps85
   go_wp2_with (go_at_call 136;refine(xE _ _).mono ?_;rintro e w1 ⟨rfl,rfl⟩)
   go_ret
   exact⟨by rw[HE.out];rfl,rfl⟩
theorem TV(a:Option Addr)(n c:Nat)(xs:List Int)(w:World)(h:dY w a n xs):Calls Tryz.prog 84 #[.slice a n c] w fun e w'=>e=.returned (.int .i64 (orV xs))∧w=w':=by
 obtain⟨hl,hn,hc⟩:=h
 have HL:=aBO hl
 have HC:=aBO hc
 clear hl hc
 go_enter Tryz.func84,Tryz.ntmps84
 go_wp2
 go_loopw [5,8] (fun _ i wr=>∃(k:Nat),k≤n∧i=.int .i64 k∧wr=w∧Hid (∀j,j<k→xs.getD j 0=0)) (fun _ i _=>n-(intOf i).toNat)
 case atStart=>exact⟨0,by omega,rfl,rfl,fun j hj=>absurd hj (by omega)⟩
 case round=>
  obtain⟨k,hk,rfl,rfl,HR⟩:=hrel;by_cases hlt:k<n
  ·have hlt':(k:Int)<(n:Int):=by omega
   obtain⟨b,o,rfl,hcell,_⟩:=HC.out k hlt;by_cases he:xs.getD k 0=0
   ·have HE:Hid (∀j,j<k+1→xs.getD j 0=0):=fun j hj=>by
     by_cases hjk:j=k
     ·subst hjk;exact he
     ·exact HR.out j (by omega)
    rw[he] at hcell;clear he;go_wp2
    go_roundw
    case rel=>exact⟨k+1,by omega,by go_num,trivial,HE⟩
    case measure=>simp[intOf];omega
   ·have HE:Hid (orV xs=xs.getD k 0):=QI xs k (by rw[HL.out];exact hlt) HR.out he;have hne:(xs.getD k 0 != 0)=true:=by simpa using he
    generalize xs.getD k 0=y at *;go_wp2
    go_ret
    exact⟨by rw[HE.out];rfl,rfl⟩
  ·have hlt':¬(k:Int)<(n:Int):=by omega
   have HE:Hid (orV xs=0):=IZ xs fun j hj=>HR.out j (by rw[HL.out] at hj;omega);go_wp2
   go_ret
   exact⟨by rw[HE.out];rfl,rfl⟩
theorem aAA(a b x y:Int):orV [tC a b,tC x y]<0↔a<b∨a=b∧x<y:=by
 simp only[orV,tC]
 repeat' split
 all_goals omega
end

section
open Go.RowKit
section
variable {P:Program} {F:Fence} {n:Nat} {op:Oper} {a:Act} {w:World} {K:Act→World→Prop} {Q:Exit→Act→World→Prop}
theorem mP(ty:TypeId)(x:Operand)(ho:op.op=.load ty x)
  (g:Nat) (hx:a.eval x=.pointer (some ⟨g,0,none⟩)) (t:TypeId) (cs:Array Value) (fr:Nat×Nat) (d:TypeDesc) (hg:w.heap[g]? =some (.cells cs t fr))
  (hu:P.underlying ty=some d) (hd:(match d with| .struct _| .array _ _=>true|_=>false)=true) (hi:(P.info? ty).map (·.size)=some cs.size)
  (h:K (a.put op.dst (.agg cs)) w):op.wpIn F n P a w K Q:=by
 refine⟨fun f hf=>by simp[Oper.about,ho] at hf,?_⟩
 rw[Oper.semAt_eq _ _ _ (by simp[ho])]
 unfold execOp
 simp only[ho,hx,Instr.loadAt,Instr.sureAddr,Sem.run_bind,Sem.run_pure,Result.andThen_ok,run_loadVar_row w g t ty cs fr d hg hu hd hi]
 exact h
theorem sD(ty:TypeId)(x y:Operand)(ho:op.op=.store ty x y)
  (g:Nat) (cells:Array Value) (hx:a.eval x=.pointer (some ⟨g,0,none⟩)) (hy:a.eval y=.agg cells)
  (t:TypeId) (old:Array Value) (hg:w.heap[g]? =some (.cells old t (0,0))) (hi:(P.info? ty).map (·.size)=some cells.size)
  (hold:old.size=cells.size) (h1:cells.all (·.oneCell')=true)
  (h:K (a.put op.dst undef) (w.setRow g cells)):op.wpIn F n P a w K Q:=by
 refine⟨fun f hf=>by simp[Oper.about,ho] at hf,?_⟩
 rw[Oper.semAt_eq _ _ _ (by simp[ho])]
 unfold execOp
 simp only[ho,hx,hy,Instr.storeAt,Instr.sureAddr,Sem.run_bind,Sem.run_pure,Result.andThen_ok,run_storeVar_row w g t ty old cells hg hi hold h1]
 exact h
end
end

section
open Go.RowKit Go.Shelf
attribute [local go_sem] Oper.semAt_some cT bM cC bG
def WiJ(w:World)(f g:Nat→Bool)(W:World):Prop:=
 W.heap[w.heap.size]? =some (eA f)∧W.heap[w.heap.size+1]? =some (eA g)∧W.heap[w.heap.size+1+1]? =some (.cells #[.bool false] 4 (0,0))∧W.heap[w.heap.size+1+1+1]? =some (.cells #[.pointer (some ⟨w.heap.size,0,none⟩)] 189 (0,0))∧Below w.heap.size w W
theorem WiJ.steady{w:World}{f g:Nat→Bool}{D:Nat}(hD:w.heap.size≤D):aR D (WiJ w f g):=by
 unfold WiJ
 exact(aR.block _ _ rfl).and ((aR.block _ _ rfl).and ((aR.block _ _ rfl).and ((aR.block _ _ rfl).and (aR.below (aBV _) hD))))
theorem qH(f g:Nat→Bool)(w:World):
  Calls Tryz.prog 137 #[.agg (aQ f),.agg (aQ g)] w fun e w'=>e=.returned (.bool (cS f g))∧Below w.heap.size w w':=by
 refine(callsIn_wide (n:=0)).1 ?_
 refine callsIn_of_wp_marks Tryz.func137 rfl trivial ?_
 simp only[Tryz.ntmps137,List.size_toArray,List.length_cons,List.length_nil,Nat.reduceAdd,Nat.reduceSub,Array.replicate_succ,Array.replicate_zero,List.push_toArray,List.append_toArray,List.nil_append,List.cons_append]
 gi_wp2_with (gi_at_call 88;refine(callsIn_wide.2 (nB _ _)).mono ?_;rintro e w' ⟨rfl,rfl⟩)
 refine oK (ps:=#[7]) (gf:=139) (lb:=#[.pointer (some ⟨w.heap.size+1+1+1,0,none⟩)]) (enc:=nY) (l:=aZ f) rfl jU _ (kY f (w.heap.size+1+1+1) w.heap.size) (fun _=>rfl)
  (fun dn r W=>Hid (dn.all g=true∧WiJ w f g W)) (fun c W=>c=.ret∧W.heap[w.heap.size+1+1]? =some (.cells #[.bool (cS f g)] 4 (0,0))∧Below w.heap.size w W)
  (fun dn r=>(aR.pure _ _).and (WiJ.steady (by simp;omega))) (fun c=>(aR.pure _ _).and ((aR.block _ _ rfl).and (aR.below (aBV _) (by simp;omega)))) (fun dn r W h=>⟨by rw[aBP _ _ _ _ _ _ h.out.2.2.2.2.1];rfl,h.out.2.1⟩) ?start ?round ?done ?stop
 case start=>
  refine⟨rfl,?_,?_,?_,?_,?_⟩
  ·rw[aBR _ _ _ (by simp;omega),aBR _ _ _ (by simp;omega),aBR _ _ _ (by simp)];exact aBS _ _
  ·rw[aBR _ _ _ (by simp),aBR _ _ _ (by simp)];exact aU _ _ _ (by simp)
  ·rw[aBR _ _ _ (by simp)];exact aU _ _ _ (by simp)
  ·exact aU _ _ _ (by simp)
  ·exact(((aD _ _).alloc (by simp) _).alloc (by simp;omega) _).alloc (by simp;omega) _
 case round=>
  rintro lp dn x r W0 hd hJ;unfold nY
  gi_wp2
  refine⟨dI.refl _,hJ,?_⟩;clear hJ lp W0;rintro lp W0 hJ;obtain⟨ja,j1,j2,j3,j4,jb⟩:=hJ.out;have hxl:x<200:=mZ f x (by rw[hd];simp);have hcx:=fE j2 x hxl;by_cases hgx:g x=true
  ·rw[hgx] at hcx;have HN:Hid ((dn++ [x]).all g=true∧WiJ w f g W0):=⟨by simp only[List.all_append,ja,List.all_cons,hgx,List.all_nil,Bool.and_self],j1,j2,j3,j4,jb⟩
   clear hJ ja j1 j2 j3 j4 jb hgx
   gi_wp2
   exact⟨dI.refl _,HN⟩
  ·have hgx':g x=false:=by simpa using hgx
   rw[hgx'] at hcx;have HE:Hid (cS f g=false):=by
    have:(aZ f).all g=false:=by rw[hd,List.all_append,List.all_cons,hgx',Bool.false_and,Bool.and_false]
    rw[Hid,cS,this,Bool.false_and]
   have hf1:W0.frozen? ⟨w.heap.size+1+1,0,none⟩=false:=frozen_of_row _ _ _ _ _ j3;have hc1:W0.cell? ⟨w.heap.size+1+1,0,none⟩=some (.bool false):=by rw[aBP _ _ _ _ _ _ j3];rfl
   have hl1:=aN j3;have HR:=aBO j3;have HB:=aBO jb;clear hJ ja j1 j2 j3 j4 jb hgx hgx'
   gi_wp2
   have hst:=heap_setCell_same W0 (w.heap.size+1+1) 0 _ _ (.bool false) HR.out;exact⟨(dI.setCell _ _ _),rfl,by rw[HE.out];simpa using hst,HB.out.setCell (by simp;omega) _⟩
 case done=>
  rintro D W hD hJ hK;obtain⟨ja,j1,j2,j3,j4,jb⟩:=hJ.out;have HE:Hid (cS f g= !eqS f g):=by rw[Hid,cS,ja,Bool.true_and]
  have hc1:W.cell? ⟨w.heap.size+1+1,0,none⟩=some (.bool false):=by rw[aBP _ _ _ _ _ _ j3];rfl
  have hf1:W.frozen? ⟨w.heap.size+1+1,0,none⟩=false:=frozen_of_row _ _ _ _ _ j3;have hl1:=aN j3;have HB:=aBO jb;have HJ1:=aBO j1;have HJ2:=aBO j2;have HJ3:=aBO j3;have HD:Hid (w.heap.size+1+1+1<D):=by simp at hD;simp[Hid];omega
  clear hJ ja j1 j2 j3 j4 jb hD
  gi_wp2
  refine mP 124 _ rfl w.heap.size rfl 124 _ (0,0) _ HJ1.out Tryz.underlying124 rfl (by rw[aF];exact bF) ?_
  gi_wp2
  refine mP 124 _ rfl (w.heap.size+1) rfl 124 _ (0,0) _ HJ2.out Tryz.underlying124 rfl (by rw[aF];exact bF) ?_;have heq:=xJ W f g
  gi_wp2
  have hDP:D≠w.heap.size+1+1:=by have:=HD.out;omega
  have gg:=bA W (w.heap.size+1+1) 0 (.bool (!eqS f g));have hK2:=aK gg hK (by simp;omega);have hb2:Below w.heap.size w (W.setCell ⟨w.heap.size+1+1,0,none⟩ (.bool (!eqS f g))):=HB.out.setCell (by simp;omega) _;have hv2:(W.setCell ⟨w.heap.size+1+1,0,none⟩ (.bool (!eqS f g))).heap[w.heap.size+1+1]? =some (.cells #[.bool (!eqS f g)] 4 (0,0)):=by
   have:=heap_setCell_same W (w.heap.size+1+1) 0 _ _ (.bool (!eqS f g)) HJ3.out;simpa using this
  generalize W.setCell ⟨w.heap.size+1+1,0,none⟩ (.bool (!eqS f g))=W2 at *;have hb3:=(aR.below (n₀:=w.heap.size) (B:=w.heap.size) (w₀:=w) (aBV _) (aBV _)).put (.deferred none) (l:=D) hb2 (by have:=HD.out;omega) hK2 rfl;have hv3:(W2.putObj D (.deferred none)).heap[w.heap.size+1+1]? =some (.cells #[.bool (!eqS f g)] 4 (0,0)):=(World.putObj_heap_other (by omega)).trans hv2;have hc3:(W2.putObj D (.deferred none)).cell? ⟨w.heap.size+1+1,0,none⟩=some (.bool (!eqS f g)):=by rw[aBP _ _ _ _ _ _ hv3];rfl
  refine⟨by simp,.inl ⟨_,_,rfl,run_takeDeferred hK2,?_⟩⟩;exact⟨.bool (!eqS f g),by simp[results,Tryz.results137,go_sem,hc3],by rw[HE.out],hb3⟩
 case stop=>
  rintro D c W hD ⟨rfl,hv,hb⟩ hK;have hv2:(W.putObj D (.deferred none)).heap[w.heap.size+1+1]? =some (.cells #[.bool (cS f g)] 4 (0,0)):=(World.putObj_heap_other (by simp at hD;omega)).trans hv;have hb2:=(aR.below (n₀:=w.heap.size) (B:=w.heap.size) (w₀:=w) (aBV _) (aBV _)).put (.deferred none) (l:=D) hb (by simp at hD;omega) hK rfl;have hc:(W.putObj D (.deferred none)).cell? ⟨w.heap.size+1+1,0,none⟩=some (.bool (cS f g)):=by rw[aBP _ _ _ _ _ _ hv2];rfl
  gi_wp2
  refine⟨by simp,.inl ⟨_,_,rfl,run_takeDeferred hK,?_⟩⟩;exact⟨.bool (cS f g),by simp[results,Tryz.results137,go_sem,hc],rfl,hb2⟩
end

section
open Go.RowKit Go.Shelf
abbrev wQ(d:fD)(v:Value):Obj:=.cells #[.slice d.pa d.pn d.pc,.slice d.ba d.bn d.bc,.slice d.ta d.bn d.tc,.slice d.fa d.bn d.fc,v] 122 (0,0)
theorem nR:Tryz.zeroCells128.size=202:=by kernel_rfl
abbrev lA(p:aI):Obj:=.cells (bJ p).toArray 128 (0,0)
theorem lB{W:World}{B:Nat}{p:aI}(h:W.heap[B]? =some (lA p)):W.rangeAt B 0 (aQ p.s).toList:=by
 intro k v hk
 have hlt:k<(aQ p.s).toList.length:=by
  rcases Nat.lt_or_ge k (aQ p.s).toList.length with h|h
  ·exact h
  ·rw[List.getElem?_eq_none h] at hk;cases hk
 rw[aBP _ _ _ _ _ _ h]
 simp only[bJ,List.getElem?_toArray,Nat.zero_add]
 rw[aCC hlt]
 exact hk
theorem IA(L:List aI)(p:aI)(k:Nat)(hk:k<L.length):bE (L.take (k+1)) p=bE (L.take k) p+(if cS p.s (L.getD k aE).s then 1 else 0):=by
 rw[bE,bE,IE L k aE hk,List.filter_append,List.length_append]
 congr 1
 generalize L.getD k aE=q
 by_cases h:cS p.s q.s=true<;>simp[h]
theorem BZ(P base:Nat)(a:Option Addr)(n c:Nat)(d:fD)(L:List aI)(p:aI)(w:World)(hB:w.heap[P]? =some (wQ d (.slice a n c)))(hL:bR w base (.slice a n c) L)(hn:n≤1000000):
  Calls Tryz.prog 86 #[.pointer (some ⟨P,0,none⟩),kN p] w fun e w'=>e=.returned (.int .i64 (bE L p:Int))∧Below w.heap.size w w':=by
 have hlen:L.length=n:=by
  obtain⟨_,_,e⟩:=cK.form hL;injection e with _ e _;exact e.symm
 have hsl:w.cell? ⟨P,4,none⟩=some (.slice a n c):=by rw[aBP _ _ _ _ _ _ hB];rfl
 have HL:=aBO hL
 clear hB hL
 go_enter Tryz.func86,Tryz.ntmps86
 go_upto_region 1 with (fail)
 obtain⟨W,hW⟩:∃W,W=w.alloc (lA p):=⟨_,rfl⟩
 rw[←hW]
 have hp:W.heap[w.heap.size]? =some (lA p):=by rw[hW];exact aBS _ _
 have hb:Below w.heap.size w W:=by rw[hW];exact aD _ _
 have hc:=aH hb hsl
 have HP:=aBO hp
 have HB:=aBO hb
 have hsz:w.heap.size<W.heap.size:=aN hp
 clear hp hb hW hsl
 go_wp2
 go_loopw [4,12] (fun s4 s12 wr=>∃k:Nat,k≤n∧s4=.int .i64 (bE (L.take k) p:Int)∧s12=.int .i64 (k:Int)∧Hid (Below W.heap.size W wr)) (fun _ s12 _=>n-(intOf s12).toNat)
 case atStart=>exact⟨0,by omega,rfl,rfl,aBQ _ _⟩
 case round=>
  obtain⟨k,hk,rfl,rfl,HR⟩:=hrel;by_cases hlt:k<n
  ·have hlt':(k:Int)<(n:Int):=by omega
   have hLr:bR wr base (.slice a n c) L:=HL.out.ext (aA HB.out HR.out);have hform:∃g,a=some ⟨g,0,none⟩:=by
    obtain⟨g,c',e⟩:=eI hLr.1 (by omega);injection e with e _ _;exact⟨g,e⟩
   obtain⟨g,rfl⟩:=hform;have hr:=dW hLr hlt;have HTK:=aBO (IA L p k (by omega));have hle:bE (L.take k) p≤k:=by
    have h1:=List.length_filter_le (fun x=>cS p.s x.s) (L.take k);have h2:=List.length_take_le k L;unfold bE;omega
   have HPr:=aBO (aB HR.out HP.out);generalize L.getD k aE=q at *;obtain⟨bb,hbb⟩:∃bb,bb=cS p.s q.s:=⟨_,rfl⟩
   rw[←hbb] at HTK;generalize bE (L.take k) p=m at *;clear hLr
   go_upto_region 4 with (first
    |(refine wpList_load_mid rfl 128 _ rfl g (k*202) rfl (bJ q) _ hr Tryz.underlying128 rfl (cE _) ?_)
    |(refine wpList_store_row rfl 128 _ _ rfl wr.heap.size (bJ q).toArray rfl rfl 128 Tryz.zeroCells128 (aBS _ _) (cF _) (by rw[nR,List.size_toArray,eE]) (all_oneCell_toArray (cV _)) ?_))
   obtain⟨W2,hW2⟩:∃W2,W2=(wr.alloc (.cells Tryz.zeroCells128 128)).setRow wr.heap.size (bJ q).toArray:=⟨_,rfl⟩
   rw[←hW2];have hq2:W2.heap[wr.heap.size]? =some (lA q):=by rw[hW2];exact setRow_heap _ _ _ _ _ _ (aBS _ _)
   have hb2:Below wr.heap.size wr W2:=by rw[hW2];exact below_setRow (aD _ _) (aBV _) _
   have hp2:=aB hb2 HPr.out;have h1:=lB hp2;have h2:=lB hq2;have HB2:=aBO (aA HR.out hb2);clear hW2 hq2 hb2 hp2 hr;generalize wr.heap.size=gq at *;cases bb with
   |true=>
    have HTK2:Hid (bE (L.take (k+1)) p=m+1):=HTK.out;have HBB:Hid (cS p.s q.s=true):=hbb.symm;clear hbb HTK
    go_wp2_with (first
     |(refine wpList_load_mid (op:=⟨some 17,.load 124 _,_,_,_,_⟩) rfl 124 _ rfl w.heap.size 0 rfl (aQ p.s).toList _ h1 Tryz.underlying124 rfl (by rw[Array.length_toList,aF];exact bF) ?_)
     |(refine wpList_load_mid (op:=⟨some 19,.load 124 _,_,_,_,_⟩) rfl 124 _ rfl gq 0 rfl (aQ q.s).toList _ h2 Tryz.underlying124 rfl (by rw[Array.length_toList,aF];exact bF) ?_)
     |(go_at_call 137
       refine(qH p.s q.s W2).mono ?_;rintro e w3 ⟨rfl,hb3⟩;rw[HBB.out];have HB3:=aBO (aA HB2.out hb3)
       clear hb3))
    go_roundw
    case rel=>exact⟨k+1,by omega,by rw[HTK2.out];go_num,by go_num,HB3⟩
    case measure=>simp[intOf];omega
   |false=>
    have HTK2:Hid (bE (L.take (k+1)) p=m):=HTK.out;have HBB:Hid (cS p.s q.s=false):=hbb.symm;clear hbb HTK
    go_wp2_with (first
     |(refine wpList_load_mid (op:=⟨some 17,.load 124 _,_,_,_,_⟩) rfl 124 _ rfl w.heap.size 0 rfl (aQ p.s).toList _ h1 Tryz.underlying124 rfl (by rw[Array.length_toList,aF];exact bF) ?_)
     |(refine wpList_load_mid (op:=⟨some 19,.load 124 _,_,_,_,_⟩) rfl 124 _ rfl gq 0 rfl (aQ q.s).toList _ h2 Tryz.underlying124 rfl (by rw[Array.length_toList,aF];exact bF) ?_)
     |(go_at_call 137
       refine(qH p.s q.s W2).mono ?_;rintro e w3 ⟨rfl,hb3⟩;rw[HBB.out];have HB3:=aBO (aA HB2.out hb3)
       clear hb3))
    go_roundw
    case rel=>exact⟨k+1,by omega,by rw[HTK2.out],by go_num,HB3⟩
    case measure=>simp[intOf];omega
  ·obtain rfl:k=n:=by omega
   have HT:Hid (L.take k=L):=aCB (by omega);go_wp2
   go_ret
   exact⟨by rw[HT.out];rfl,aA HB.out HR.out⟩
end

section
open Go.RowKit
theorem GM{P:Program}{σ α:Type}{g:Operand}{ps:Array Tmp}{assign body:Code}{Q:Exit→Act→World→Prop}{a:Act}{w:World}{gf:Nat}{lb:Array Value}
  (hg:a.eval g=.func (.func gf) #[] lb) (eg:∀args w,(callFunc gf args).run P w=.ok (.enter gf args) w)
  {enc:α→Array Value} {ok:σ→α→Prop} {nx:σ→α→σ} {s0:σ} {Fin:σ→Prop} {Inv:σ→World→Prop} (hit:UG P gf lb enc ok nx s0 Fin Inv)
  (hps:∀x,(enc x).size=ps.size)
  (J:σ→World→Prop) (Jx:Code→World→Prop) (A:σ→α→Act→World→Prop)
  (hJ:∀s,aR w.heap.size (J s)) (hJx:∀c,aR w.heap.size (Jx c)) (hA:∀s x a,aR w.heap.size (A s x a)) (hInv:∀s W,J s W→Inv s W)
  (h0:J s0 w)
  (hassign:∀(l:Nat) (s:σ) (x:α) (W:World),ok s x→J s W→
    assign.wpIn (Fence.wide.inRound l) 0 P (Exit.then (fun a1 W1=>dI W W1∧J s W1∧A s x a1 W1) (fun _ _ _=>False)) {tmps:=(ps.zip (enc x)).foldl (fun t (p,v)=>t.setIfInBounds p v) a.tmps,defers:= []} W)
  (hbody:∀(l:Nat) (s:σ) (x:α) (a1:Act) (W:World),w.heap.size≤l→(∃r,W.heap[l]? =some (.loop r))→ok s x→J s W→A s x a1 W→
    body.wpIn (Fence.wide.inRound l) 0 P (kP (fun W'=>dI W W'∧J (nx s x) W') (fun c W'=>dI W W'∧Jx c W')) a1 W)
  (hdone:∀(D:Nat) (s:σ) (W:World),w.heap.size≤D→Fin s→J s W→W.heap[D]? =some (.deferred (some []))→Q .normal {a with defers:={target:=.collected D,args:=#[]} :: a.defers} W)
  (hstop:∀(D:Nat) (c:Code) (W:World),w.heap.size≤D→Jx c W→W.heap[D]? =some (.deferred (some []))→c.wpIn Fence.wide 0 P Q {a with defers:={target:=.collected D,args:=#[]} :: a.defers} W):
  (Code.rangeFunc g ps assign body).wpIn Fence.wide 0 P Q a w:=by
 refine wpIn_rangeFunc ?_
 intro fn hfn
 obtain⟨rec,hrec⟩:∃rec:LoopState→Option Code→Loop,rec=fun st pe=>{state:=st,pending:=pe,fn,tmps:=a.tmps,params:=ps,assign,body,defers:=w.heap.size}:=⟨_,rfl⟩
 obtain⟨W1,hW1⟩:∃W1,(w.alloc (.deferred (some []))).alloc (.loop (rec .ready none))=W1:=⟨_,rfl⟩
 have hL1:W1.heap[w.heap.size+1]? =some (.loop (rec .ready none)):=by
  rw[←hW1];have:=World.alloc_heap_new (w.alloc (.deferred (some []))) (.loop (rec .ready none));rwa [World.size_alloc] at this
 have hK1:W1.heap[w.heap.size]? =some (.deferred (some [])):=by
  rw[←hW1];exact(aBR _ _ _ (by simp)).trans (World.alloc_heap_new w _)
 have hb1:Below w.heap.size w W1:=by
  rw[←hW1];exact((aBQ _ w).alloc (aBV _) _).alloc (by simp) _
 have hI1:J s0 W1:=(hJ s0).ext h0 hb1
 have keepE:∀{W W':World} {k:Nat} {o:Obj},W.heap[k]? =some o→Below W.heap.size W W'→W'.heap[k]? =some o:=
  fun hk hb=>(hb.block _ (aBW.1 hk).1).trans hk
 refine⟨w.heap.size+1,[{target:=.collected w.heap.size,args:=#[]}],W1,{target:=.fn (.func gf) lb,args:=#[.func (.yield (w.heap.size+1)) #[] #[]]},W1,gf,
  #[.func (.yield (w.heap.size+1)) #[] #[]]++lb,W1,?_,?_,?_,?_,fun h=>by simp[Fence.wide] at h,?_⟩
 ·rw[←hW1,hrec];exact run_enterLoop_outer _ _ _ _ _
 ·simp only[resolve,hg];simp[go_sem]
 ·intro f' hf';trivial
 ·simp[invoke,go_sem,eg]
 ·refine(hit (w.heap.size+1)
   (fun s W=>J s W∧W.heap[w.heap.size+1]? =some (.loop (rec .ready none))∧W.heap[w.heap.size]? =some (.deferred (some [])))
   (fun W=>∃c,Jx c W∧W.heap[w.heap.size+1]? =some (.loop (rec .done (some c)))∧W.heap[w.heap.size]? =some (.deferred (some [])))
   W1 (fun s A B h hb=>⟨(hJ s).ext h.1 hb,keepE h.2.1 hb,keepE h.2.2 hb⟩)
   (fun A B h hb=>by obtain⟨c,h1,h2,h3⟩:=h;exact⟨c,(hJx c).ext h1 hb,keepE h2 hb,keepE h3 hb⟩)
   (fun s W h=>hInv s W h.1) ?_ ⟨hI1,hL1,hK1⟩).mono ?_
  ·rintro s x W hok ⟨hi,hl,hk⟩;have hy:=run_yield (P:=P) (args:=enc x) hl (by rw[hrec];exact hps x);rw[hrec] at hy;refine⟨fn,_,assign,body,hy,roundIn_of_wpIn hfn (wpIn_mono (hassign _ s x W hok hi) ?_)⟩;rintro e a1 V hp;cases e with
   |normal=>
    obtain⟨hkp,hiV,hAV⟩:=hp;have hlV:=hkp _ _ hl rfl;have hkV:=hkp _ _ hk rfl;have hlt:w.heap.size+1<V.heap.size:=(aBW.1 hlV).1;refine⟨_,run_beginRound hlV (by rw[hrec]),?_⟩;have hl2:(V.putObj (w.heap.size+1) (.loop {rec .ready none with state:=.busy})).heap[w.heap.size+1]? =some (.loop {rec .ready none with state:=.busy}):=World.putObj_heap_same hlt;have hk2:(V.putObj (w.heap.size+1) (.loop {rec .ready none with state:=.busy})).heap[w.heap.size]? =some (.deferred (some [])):=(World.putObj_heap_other (by omega)).trans hkV;refine wpIn_mono (hbody _ s x a1 _ (by omega) ⟨_,hl2⟩ hok ((hJ s).put _ hiV (by omega) hlV rfl) ((hA s x a1).put _ hAV (by omega) hlV rfl)) ?_
    have fin:∀(jump:Option Code) (W3:World),dI (V.putObj (w.heap.size+1) (.loop {rec .ready none with state:=.busy})) W3→
      (Instr.endRound (w.heap.size+1) jump).run P W3=.ok (.bool jump.isNone) (W3.putObj (w.heap.size+1) (.loop (rec (if jump.isNone then .ready else .done) jump)))∧
      W3.heap[w.heap.size+1]? =some (.loop {rec .ready none with state:=.busy})∧
      (W3.putObj (w.heap.size+1) (.loop (rec (if jump.isNone then .ready else .done) jump))).heap[w.heap.size+1]? =some (.loop (rec (if jump.isNone then .ready else .done) jump))∧
      (W3.putObj (w.heap.size+1) (.loop (rec (if jump.isNone then .ready else .done) jump))).heap[w.heap.size]? =some (.deferred (some [])):=fun jump W3 hk3=>by
     have hl3:=hk3 _ _ hl2 rfl;have:=run_endRound (P:=P) jump hl3;rw[hrec] at this⊢;exact⟨this,by rw[hrec] at hl3;exact hl3,World.putObj_heap_same (aBW.1 hl3).1,(World.putObj_heap_other (by omega)).trans (hk3 _ _ hk2 rfl)⟩
    rintro e a3 W3 hp;cases e with
    |normal=>
     obtain⟨hk3,hi3⟩:=hp;obtain⟨hr,hl3,hl4,hk4⟩:=fin none W3 hk3;exact⟨_,_,hr,.inl ⟨rfl,(hJ _).put _ hi3 (by omega) hl3 rfl,hl4,hk4⟩⟩
    |ret=>
     obtain⟨hk3,hi3⟩:=hp;obtain⟨hr,hl3,hl4,hk4⟩:=fin (some .ret) W3 hk3;exact⟨_,_,hr,.inr ⟨rfl,.ret,(hJx _).put _ hi3 (by omega) hl3 rfl,hl4,hk4⟩⟩
    |exit id=>
     obtain⟨hk3,hi3⟩:=hp;obtain⟨hr,hl3,hl4,hk4⟩:=fin (some (.exit id)) W3 hk3;exact⟨_,_,hr,.inr ⟨rfl,.exit id,(hJx _).put _ hi3 (by omega) hl3 rfl,hl4,hk4⟩⟩
    |goto t=>
     obtain⟨hk3,hi3⟩:=hp;obtain⟨hr,hl3,hl4,hk4⟩:=fin (some (.goto t)) W3 hk3;exact⟨_,_,hr,.inr ⟨rfl,.goto t,(hJx _).put _ hi3 (by omega) hl3 rfl,hl4,hk4⟩⟩
    |panic ch=>exact hp.elim
    |outgrown=>exact hp.elim
   |exit id=>exact hp.elim
   |goto t=>exact hp.elim
   |ret=>exact hp.elim
   |panic chain=>exact hp.elim
   |outgrown=>exact hp.elim
  ·rintro e W2 ⟨⟨v,rfl⟩,(⟨s,hS,hi,hl,hk⟩|⟨c,hi,hl,hk⟩)⟩
   ·exact⟨none,_,by have:=run_endLoop (P:=P) hl (by rw[hrec];simp);rw[hrec] at this;exact this,hdone _ s _ (aBV _) hS ((hJ s).put _ hi (by omega) hl rfl) ((World.putObj_heap_other (by omega)).trans hk)⟩
   ·exact⟨some c,_,by have:=run_endLoop (P:=P) hl (by rw[hrec];simp);rw[hrec] at this;exact this,hstop _ c _ (aBV _) ((hJx c).put _ hi (by omega) hl rfl) ((World.putObj_heap_other (by omega)).trans hk)⟩
theorem LJ{P:Program}{σ α:Type}{g:Operand}{ps:Array Tmp}{assign body:Code}{Q:Exit→Act→World→Prop}{a:Act}{w:World}{l0:Nat}{r0:Loop}(hl0:w.heap[l0]? =some (.loop r0)){gf:Nat}{lb:Array Value}
  (hg:a.eval g=.func (.func gf) #[] lb) (eg:∀args w,(callFunc gf args).run P w=.ok (.enter gf args) w)
  {enc:α→Array Value} {ok:σ→α→Prop} {nx:σ→α→σ} {s0:σ} {Fin:σ→Prop} {Inv:σ→World→Prop} (hit:UG P gf lb enc ok nx s0 Fin Inv)
  (hps:∀x,(enc x).size=ps.size)
  (J:σ→World→Prop) (Jx:Code→World→Prop) (A:σ→α→Act→World→Prop)
  (hJ:∀s,aR w.heap.size (J s)) (hJx:∀c,aR w.heap.size (Jx c)) (hA:∀s x a,aR w.heap.size (A s x a)) (hInv:∀s W,J s W→Inv s W)
  (h0:J s0 w)
  (hassign:∀(l:Nat) (s:σ) (x:α) (W:World),ok s x→J s W→
    assign.wpIn (Fence.wide.inRound l) 0 P (Exit.then (fun a1 W1=>dI W W1∧J s W1∧A s x a1 W1) (fun _ _ _=>False)) {tmps:=(ps.zip (enc x)).foldl (fun t (p,v)=>t.setIfInBounds p v) a.tmps,defers:= []} W)
  (hbody:∀(l:Nat) (s:σ) (x:α) (a1:Act) (W:World),w.heap.size≤l→(∃r,W.heap[l]? =some (.loop r))→ok s x→J s W→A s x a1 W→
    body.wpIn (Fence.wide.inRound l) 0 P (kP (fun W'=>dI W W'∧J (nx s x) W') (fun c W'=>dI W W'∧Jx c W')) a1 W)
  (hdone:∀(s:σ) (W:World),Fin s→J s W→Q .normal a W)
  (hstop:∀(c:Code) (W:World),Jx c W→c.wpIn (Fence.wide.inRound l0) 0 P Q a W):
  (Code.rangeFunc g ps assign body).wpIn (Fence.wide.inRound l0) 0 P Q a w:=by
 refine wpIn_rangeFunc ?_
 intro fn hfn
 obtain⟨rec,hrec⟩:∃rec:LoopState→Option Code→Loop,rec=fun st pe=>{state:=st,pending:=pe,fn,tmps:=a.tmps,params:=ps,assign,body,defers:=r0.defers}:=⟨_,rfl⟩
 obtain⟨W1,hW1⟩:∃W1,w.alloc (.loop (rec .ready none))=W1:=⟨_,rfl⟩
 have hL1:W1.heap[w.heap.size]? =some (.loop (rec .ready none)):=by rw[←hW1];exact World.alloc_heap_new w _
 have hb1:Below w.heap.size w W1:=by rw[←hW1];exact(aBQ _ w).alloc (aBV _) _
 have hI1:J s0 W1:=(hJ s0).ext h0 hb1
 have keepE:∀{W W':World} {k:Nat} {o:Obj},W.heap[k]? =some o→Below W.heap.size W W'→W'.heap[k]? =some o:=
  fun hk hb=>(hb.block _ (aBW.1 hk).1).trans hk
 refine⟨w.heap.size,[],W1,{target:=.fn (.func gf) lb,args:=#[.func (.yield w.heap.size) #[] #[]]},W1,gf,
  #[.func (.yield w.heap.size) #[] #[]]++lb,W1,?_,?_,?_,?_,fun h=>by simp[Fence.wide] at h,?_⟩
 ·rw[←hW1,hrec];exact run_enterLoop_inner hl0 _ _ _ _ _
 ·simp only[resolve,hg];simp[go_sem]
 ·intro f' hf';trivial
 ·simp[invoke,go_sem,eg]
 ·refine CallsIn.mono (hit w.heap.size
   (fun s W=>J s W∧W.heap[w.heap.size]? =some (.loop (rec .ready none)))
   (fun W=>∃c,Jx c W∧W.heap[w.heap.size]? =some (.loop (rec .done (some c))))
   W1 (fun s A B h hb=>⟨(hJ s).ext h.1 hb,keepE h.2 hb⟩)
   (fun A B h hb=>by obtain⟨c,h1,h2⟩:=h;exact⟨c,(hJx c).ext h1 hb,keepE h2 hb⟩)
   (fun s W h=>hInv s W h.1) ?_ ⟨hI1,hL1⟩) ?_
  ·rintro s x W hok ⟨hi,hl⟩;have hy:=run_yield (P:=P) (args:=enc x) hl (by rw[hrec];exact hps x);rw[hrec] at hy;refine⟨fn,_,assign,body,hy,roundIn_of_wpIn (F:=Fence.wide) hfn (wpIn_mono (hassign _ s x W hok hi) ?_)⟩;rintro e a1 V hp;cases e with
   |normal=>
    obtain⟨hkp,hiV,hAV⟩:=hp;have hlV:=hkp _ _ hl rfl;have hlt:w.heap.size<V.heap.size:=(aBW.1 hlV).1;refine⟨_,run_beginRound hlV (by rw[hrec]),?_⟩;have hl2:(V.putObj w.heap.size (.loop {rec .ready none with state:=.busy})).heap[w.heap.size]? =some (.loop {rec .ready none with state:=.busy}):=World.putObj_heap_same hlt;refine wpIn_mono (hbody _ s x a1 _ (aBV _) ⟨_,hl2⟩ hok ((hJ s).put _ hiV (aBV _) hlV rfl) ((hA s x a1).put _ hAV (aBV _) hlV rfl)) ?_
    have fin:∀(jump:Option Code) (W3:World),dI (V.putObj w.heap.size (.loop {rec .ready none with state:=.busy})) W3→
      (Instr.endRound w.heap.size jump).run P W3=.ok (.bool jump.isNone) (W3.putObj w.heap.size (.loop (rec (if jump.isNone then .ready else .done) jump)))∧
      W3.heap[w.heap.size]? =some (.loop {rec .ready none with state:=.busy})∧
      (W3.putObj w.heap.size (.loop (rec (if jump.isNone then .ready else .done) jump))).heap[w.heap.size]? =some (.loop (rec (if jump.isNone then .ready else .done) jump)):=fun jump W3 hk3=>by
     have hl3:=hk3 _ _ hl2 rfl;have:=run_endRound (P:=P) jump hl3;rw[hrec] at this⊢;exact⟨this,by rw[hrec] at hl3;exact hl3,World.putObj_heap_same (aBW.1 hl3).1⟩
    rintro e a3 W3 hp;cases e with
    |normal=>
     obtain⟨hk3,hi3⟩:=hp;obtain⟨hr,hl3,hl4⟩:=fin none W3 hk3;exact⟨_,_,hr,.inl ⟨rfl,(hJ _).put _ hi3 (aBV _) hl3 rfl,hl4⟩⟩
    |ret=>
     obtain⟨hk3,hi3⟩:=hp;obtain⟨hr,hl3,hl4⟩:=fin (some .ret) W3 hk3;exact⟨_,_,hr,.inr ⟨rfl,.ret,(hJx _).put _ hi3 (aBV _) hl3 rfl,hl4⟩⟩
    |exit id=>
     obtain⟨hk3,hi3⟩:=hp;obtain⟨hr,hl3,hl4⟩:=fin (some (.exit id)) W3 hk3;exact⟨_,_,hr,.inr ⟨rfl,.exit id,(hJx _).put _ hi3 (aBV _) hl3 rfl,hl4⟩⟩
    |goto t=>
     obtain⟨hk3,hi3⟩:=hp;obtain⟨hr,hl3,hl4⟩:=fin (some (.goto t)) W3 hk3;exact⟨_,_,hr,.inr ⟨rfl,.goto t,(hJx _).put _ hi3 (aBV _) hl3 rfl,hl4⟩⟩
    |panic ch=>exact hp.elim
    |outgrown=>exact hp.elim
   |exit id=>exact hp.elim
   |goto t=>exact hp.elim
   |ret=>exact hp.elim
   |panic chain=>exact hp.elim
   |outgrown=>exact hp.elim
  ·rintro e W2 ⟨⟨v,rfl⟩,(⟨s,hS,hi,hl⟩|⟨c,hi,hl⟩)⟩
   ·exact⟨none,_,by have:=run_endLoop (P:=P) hl (by rw[hrec];simp);rw[hrec] at this;exact this,hdone s _ hS ((hJ s).put _ hi (aBV _) hl rfl)⟩
   ·exact⟨some c,_,by have:=run_endLoop (P:=P) hl (by rw[hrec];simp);rw[hrec] at this;exact this,hstop c _ ((hJx c).put _ hi (aBV _) hl rfl)⟩
theorem yF{P:Program}{α:Type}{g:Operand}{ps:Array Tmp}{assign body:Code}{Q:Exit→Act→World→Prop}{a:Act}{w:World}{gf:Nat}{lb:Array Value}
  (hg:a.eval g=.func (.func gf) #[] lb) (eg:∀args w,(callFunc gf args).run P w=.ok (.enter gf args) w)
  {enc:α→Array Value} {l:List α} (I:World→Prop) (hit:xS P gf lb enc l I) (hps:∀x,(enc x).size=ps.size)
  (J:List α→List α→World→Prop) (Jx:Code→World→Prop)
  (hJ:∀d r,aR w.heap.size (J d r)) (hJx:∀c,aR w.heap.size (Jx c)) (hInv:∀d r W,J d r W→I W)
  (h0:J [] l w)
  (hround:∀(lp:Nat) (d:List α) (x:α) (r:List α) (W:World),l=d++x :: r→J d (x :: r) W→
    assign.wpIn (Fence.wide.inRound lp) 0 P (Exit.then (fun a1 W1=>dI W W1∧J d (x :: r) W1∧∀(lp:Nat) (W2:World),w.heap.size≤lp→(∃rc,W2.heap[lp]? =some (.loop rc))→J d (x :: r) W2→
     body.wpIn (Fence.wide.inRound lp) 0 P (kP (fun W'=>dI W2 W'∧J (d++ [x]) r W') (fun c W'=>dI W2 W'∧Jx c W')) a1 W2) (fun _ _ _=>False)) {tmps:=(ps.zip (enc x)).foldl (fun t (p,v)=>t.setIfInBounds p v) a.tmps,defers:= []} W)
  (hdone:∀(D:Nat) (W:World),w.heap.size≤D→J l [] W→W.heap[D]? =some (.deferred (some []))→Q .normal {a with defers:={target:=.collected D,args:=#[]} :: a.defers} W)
  (hstop:∀(D:Nat) (c:Code) (W:World),w.heap.size≤D→Jx c W→W.heap[D]? =some (.deferred (some []))→c.wpIn Fence.wide 0 P Q {a with defers:={target:=.collected D,args:=#[]} :: a.defers} W):
  (Code.rangeFunc g ps assign body).wpIn Fence.wide 0 P Q a w:=by
 refine GM (enc:=enc) hg eg hit hps (fun s W=>∃d,l=d++s∧J d s W) Jx
  (fun s x a1 _=>∀(d:List α) (lp:Nat) (W2:World),w.heap.size≤lp→(∃rc,W2.heap[lp]? =some (.loop rc))→l=d++s→J d s W2→body.wpIn (Fence.wide.inRound lp) 0 P (kP (fun W'=>dI W2 W'∧J (d++ [x]) (nxL s x) W') (fun c W'=>dI W2 W'∧Jx c W')) a1 W2)
  (fun s=>aR.ex fun d=>(aR.pure _ _).and (hJ d s)) hJx (fun _ _ _=>aR.pure _ _) (fun s W ⟨d,_,h⟩=>hInv d s W h) ⟨[],rfl,h0⟩ ?_ ?_ ?_ hstop
 ·rintro lp s x W hok ⟨d,hd,hj⟩;have hs:=pM hok;generalize nxL s x=r at hs⊢;subst hs;refine wpIn_mono (hround lp d x r W hd hj) ?_;rintro e a1 W1 he;cases e with
  |normal=>
   obtain⟨h1,h2,h3⟩:=he;refine⟨h1,⟨d,hd,h2⟩,fun d' lp' W2 hlp' hrc' hd' hj'=>?_⟩;have:d'=d:=by
    have:=hd'.symm.trans hd;exact List.append_cancel_right this
   subst this;exact h3 lp' W2 hlp' hrc' hj'
  |_=>exact he.elim
 ·rintro lp s x a1 W hlp hrc hok ⟨d,hd,hj⟩ hA;refine wpIn_mono (hA d lp W hlp hrc hd hj) ?_;rintro e a3 W3 he;cases e with
  |normal=>
   refine⟨he.1,d++ [x],?_,he.2⟩;rw[hd,List.append_assoc]
   congr 1
   exact pM hok
  |ret=>exact he
  |exit id=>exact he
  |goto t=>exact he
  |panic ch=>exact he.elim
  |outgrown=>exact he.elim
 ·rintro D s W hD hf ⟨d,hd,hj⟩ hk;have hf:s= []:=hf;subst hf;rw[List.append_nil] at hd;subst hd;exact hdone D W hD hj hk
theorem LI{P:Program}{α:Type}{g:Operand}{ps:Array Tmp}{assign body:Code}{Q:Exit→Act→World→Prop}{a:Act}{w:World}{l0:Nat}{r0:Loop}(hl0:w.heap[l0]? =some (.loop r0)){gf:Nat}{lb:Array Value}
  (hg:a.eval g=.func (.func gf) #[] lb) (eg:∀args w,(callFunc gf args).run P w=.ok (.enter gf args) w)
  {enc:α→Array Value} {l:List α} (I:World→Prop) (hit:xS P gf lb enc l I) (hps:∀x,(enc x).size=ps.size)
  (J:List α→List α→World→Prop) (Jx:Code→World→Prop)
  (hJ:∀d r,aR w.heap.size (J d r)) (hJx:∀c,aR w.heap.size (Jx c)) (hInv:∀d r W,J d r W→I W)
  (h0:J [] l w)
  (hround:∀(lp:Nat) (d:List α) (x:α) (r:List α) (W:World),l=d++x :: r→J d (x :: r) W→
    assign.wpIn (Fence.wide.inRound lp) 0 P (Exit.then (fun a1 W1=>dI W W1∧J d (x :: r) W1∧∀(lp:Nat) (W2:World),w.heap.size≤lp→(∃rc,W2.heap[lp]? =some (.loop rc))→J d (x :: r) W2→
     body.wpIn (Fence.wide.inRound lp) 0 P (kP (fun W'=>dI W2 W'∧J (d++ [x]) r W') (fun c W'=>dI W2 W'∧Jx c W')) a1 W2) (fun _ _ _=>False)) {tmps:=(ps.zip (enc x)).foldl (fun t (p,v)=>t.setIfInBounds p v) a.tmps,defers:= []} W)
  (hdone:∀(W:World),J l [] W→Q .normal a W)
  (hstop:∀(c:Code) (W:World),Jx c W→c.wpIn (Fence.wide.inRound l0) 0 P Q a W):
  (Code.rangeFunc g ps assign body).wpIn (Fence.wide.inRound l0) 0 P Q a w:=by
 refine LJ (enc:=enc) hl0 hg eg hit hps (fun s W=>∃d,l=d++s∧J d s W) Jx
  (fun s x a1 _=>∀(d:List α) (lp:Nat) (W2:World),w.heap.size≤lp→(∃rc,W2.heap[lp]? =some (.loop rc))→l=d++s→J d s W2→body.wpIn (Fence.wide.inRound lp) 0 P (kP (fun W'=>dI W2 W'∧J (d++ [x]) (nxL s x) W') (fun c W'=>dI W2 W'∧Jx c W')) a1 W2)
  (fun s=>aR.ex fun d=>(aR.pure _ _).and (hJ d s)) hJx (fun _ _ _=>aR.pure _ _) (fun s W ⟨d,_,h⟩=>hInv d s W h) ⟨[],rfl,h0⟩ ?_ ?_ ?_ hstop
 ·rintro lp s x W hok ⟨d,hd,hj⟩;have hs:=pM hok;generalize nxL s x=r at hs⊢;subst hs;refine wpIn_mono (hround lp d x r W hd hj) ?_;rintro e a1 W1 he;cases e with
  |normal=>
   obtain⟨h1,h2,h3⟩:=he;refine⟨h1,⟨d,hd,h2⟩,fun d' lp' W2 hlp' hrc' hd' hj'=>?_⟩;have:d'=d:=by
    have:=hd'.symm.trans hd;exact List.append_cancel_right this
   subst this;exact h3 lp' W2 hlp' hrc' hj'
  |_=>exact he.elim
 ·rintro lp s x a1 W hlp hrc hok ⟨d,hd,hj⟩ hA;refine wpIn_mono (hA d lp W hlp hrc hd hj) ?_;rintro e a3 W3 he;cases e with
  |normal=>
   refine⟨he.1,d++ [x],?_,he.2⟩;rw[hd,List.append_assoc]
   congr 1
   exact pM hok
  |ret=>exact he
  |exit id=>exact he
  |goto t=>exact he
  |panic ch=>exact he.elim
  |outgrown=>exact he.elim
 ·rintro s W hf ⟨d,hd,hj⟩;have hf:s= []:=hf;subst hf;rw[List.append_nil] at hd;subst hd;exact hdone W hj
end

section
open Go.RowKit Go.Shelf
structure mR(W0:World)(d:fD)(P base:Nat)(v:Value)(L:List aI)(W:World):Prop where
 bld:W.heap[P]? =some (wQ d v)
 parts:bR W base v L
 low:P<base
 bs:base≤W.heap.size
 w0:W0.heap.size≤P
 ext:Below W0.heap.size W0 W
def SP(P:Nat)(v:Value)(k:Nat):Prop:=k=P∨v.ownBlock=some k
theorem Chg.then{S T:Nat→Prop}{a b c:World}(h:Chg S a b)(k:Chg T b c)(hs:∀q,T q→S q∨a.heap.size≤q):Chg S a c:=
 ⟨k.os.trans h.os,k.tape.trans h.tape,k.output.trans h.output,aCD h.size k.size,fun q hq hn=>
  (k.block q (Nat.lt_of_lt_of_le hq h.size) (fun ht=>(hs q ht).elim hn (by omega))).trans (h.block q hq hn)⟩
theorem aR.chg{S:Nat→Prop}{w:World}{D:Nat}(hD:w.heap.size≤D):aR D (fun W=>Chg S w W):=fun W W' row h hg hr=>h.grown hg (fun k e=>.inr (aCD hD (hr k e).1))
theorem cH{w:World}{base:Nat}{e t:TypeId}{size:Nat}{v:Value}{n k:Nat}{xs:List Value}{cs:Array Value}{fr:Nat×Nat}(h:w.ownsRow base e size v n xs)(hk:w.heap[k]? =some (.cells cs t fr))(ht:t≠e):v.ownBlock≠some k:=by
 intro hv
 rcases h.2 with ⟨rfl,_⟩|⟨g,cap,cur,rfl,_,hg,_⟩
 ·cases hv
 ·simp only[Value.ownBlock,Option.some.injEq] at hv;subst hv;rw[hk] at hg;injection hg with hg;injection hg with _ hg _;exact ht hg
theorem lP{a b c:World}{row:Option Nat}(h:a.grownBy b row)(k:b.grownBy c row):a.grownBy c row:=
 ⟨k.os.trans h.os,k.tape.trans h.tape,k.output.trans h.output,aCD h.size k.size,fun q hq hn=>(k.block q (Nat.lt_of_lt_of_le hq h.size) hn).trans (h.block q hq hn)⟩
theorem gK(w:World)(row:Option Nat):w.grownBy w.drew row:=⟨rfl,rfl,rfl,aBV _,fun _ _ _=>rfl⟩
theorem qO(w:World)(row:Option Nat):w.grownBy w row:=⟨rfl,rfl,rfl,aBV _,fun _ _ _=>rfl⟩
theorem pQ(w:World):Below w.heap.size w w.drew:=bZ (aBQ _ _) 1
section
variable {W0 W W' W3:World} {d:fD} {P base:Nat} {v v':Value} {L M:List aI}
theorem mR.own(h:mR W0 d P base v L W){q:Nat}(hq:v.ownBlock=some q):base≤q∧q<W.heap.size:=cK.low h.parts hq
theorem mR.grown{row:Option Nat}(h:mR W0 d P base v L W)(hg:W.grownBy W' row)(hr:∀q,row=some q→W0.heap.size≤q∧q≠P∧v.ownBlock≠some q):mR W0 d P base v L W' where
 bld:=aK hg h.bld fun e=>(hr P e).2.1 rfl
 parts:=cK.kept h.parts hg (by
  cases e:v.ownBlock with
  |none=>exact .inl rfl
  |some q=>exact .inr fun e2=>(hr q e2.symm).2.2 e)
 low:=h.low
 bs:=aCD h.bs hg.size
 w0:=h.w0
 ext:=h.ext.grown hg h.ext.size fun q e=>(hr q e).1
theorem mR.ext'(h:mR W0 d P base v L W)(hb:Below W.heap.size W W'):mR W0 d P base v L W':=
 h.grown (row:=none) ⟨hb.os,hb.tape,hb.output,hb.size,fun k hk _=>hb.block k hk⟩ fun q e=>by cases e
theorem mR.steady{D:Nat}(hD:W0.heap.size≤D):aR D (mR W0 d P base v L):=fun W W' row h hg hr=>
 ⟨(aR.block D P (o:=wQ d v) rfl) W W' row h.bld hg hr,(aR.ownR D base v L) W W' row h.parts hg hr,h.low,aCD h.bs hg.size,h.w0,(aR.below (n₀:=W0.heap.size) (w₀:=W0) (aBV _) hD) W W' row h.ext hg hr⟩
theorem mR.cell(h:mR W0 d P base v L W):W.cell? ⟨P,4,none⟩=some v:=by rw[aBP _ _ _ _ _ _ h.bld];rfl
theorem mR.keep(h:mR W0 d P base v L W)(hc:Chg (SP P v) W W'):dI W W':=fun k o hk ho=>hc.row hk fun hs=>by
 rcases hs with rfl|hs
 ·rw[h.bld] at hk;cases hk;cases ho
 ·rcases h.parts.1.2 with ⟨e,_⟩|⟨g,cap,cur,e,_,hg,_⟩
  ·rw[e] at hs;cases hs
  ·rw[e] at hs;simp only[Value.ownBlock,Option.some.injEq] at hs;subst hs;rw[hg] at hk;cases hk;cases ho
theorem rK(h:W.heap[P]? =some (wQ d v)):W.rangeAt P 0 [.slice d.pa d.pn d.pc,.slice d.ba d.bn d.bc,.slice d.ta d.bn d.tc,.slice d.fa d.bn d.fc]:=by
 intro k u hk
 rw[aBP _ _ _ _ _ _ h,Nat.zero_add]
 have hlt:=(aBX.1 hk).1
 simp only[List.length_cons,List.length_nil,Nat.reduceAdd] at hlt
 have:k=0∨k=1∨k=2∨k=3:=by omega
 rcases this with rfl|rfl|rfl|rfl<;>simpa using hk
theorem mR.app(h:mR W0 d P base v L W)(hg:W.grownBy W3 v.ownBlock)(ho:W3.ownsRow base 128 202 v' (L.length+M.length) (L.flatMap bJ++M.flatMap bJ))(hn:L.length+M.length≤1000000):
  mR W0 d P base v' (L++M) (W3.setCell ⟨P,4,none⟩ v')∧Chg (SP P v) W (W3.setCell ⟨P,4,none⟩ v'):=by
 have hlow:=h.low
 have hw0:=h.w0
 have hb3:W3.heap[P]? =some (wQ d v):=aK hg h.bld fun e=>by have:=(h.own e).1;omega
 have g:=bA W3 P 4 v'
 have hp:bR W3 base v' (L++M):=⟨by rw[List.length_append,List.flatMap_append];exact ho,by rw[List.length_append];omega⟩
 refine⟨⟨?_,?_,hlow,?_,hw0,?_⟩,?_⟩
 ·have:=heap_setCell_same W3 P 4 _ _ v' hb3;simpa using this
 ·refine cK.kept hp g ?_;cases e:v'.ownBlock with
  |none=>exact .inl rfl
  |some q=>
   have:=(cK.low hp e).1;exact .inr fun e2=>by injection e2 with e2;omega
 ·have:=h.bs;have:=hg.size;simp;omega
 ·exact(h.ext.grown hg h.ext.size fun q e=>by have:=(h.own e).1;omega).setCell (by show W0.heap.size≤P;omega) _
 ·exact((Chg.refl (SP P v) W).grown hg (fun k e=>.inl (.inr e))).setCell (.inl (.inl rfl)) _
end
def GB(W0:World)(d:fD)(P base:Nat)(v:Value)(w:World)(L:List aI)(e:Ending)(w':World):Prop:=
 e=.returned (.tuple #[])∧∃v',mR W0 d P base v' L w'∧Chg (SP P v) w w'∧∀q,v'.ownBlock=some q→v.ownBlock=some q∨w.heap.size≤q
theorem vR:(Tryz.prog.info? 128).map (fun i=>(i.zero,i.size,i.bytes))=some (some (.agg Tryz.zeroCells128),202,216):=by kernel_rfl
end

section
open Go.RowKit
def ptC(p:aI):List Value:=.int .i64 p.kind :: ((aQ p.s).toList++ [.int .i64 p.entry])
theorem kD(p:aI):(ptC p).length=202:=by simp[ptC,aF]
theorem sI(p:aI):∀v∈ptC p,v.oneCell'=true:=by
 intro v hv
 rcases List.mem_cons.1 hv with rfl|hv
 ·rfl
 rcases aCA.1 hv with h|h
 ·have:=dE p.s;rw[Array.all_eq_true_iff_forall_mem] at this;exact this v (by simpa using h)
 ·simp only[List.mem_cons,List.not_mem_nil,or_false] at h;subst h;rfl
theorem FJ(p:aI)(k:Nat):(ptC p)[k]? =if k=0 then some (.int .i64 p.kind) else if k≤200 then (aQ p.s)[k-1]? else if k=201 then some (.int .i64 p.entry) else none:=by
 cases k with
 |zero=>rfl
 |succ k=>
  rw[ptC,List.getElem?_cons_succ,if_neg (by omega)];by_cases h:k<200
  ·rw[aCC (by rw[Array.length_toList,aF];exact h),if_pos (by omega)];simp
  ·rw[List.getElem?_append_right (by rw[Array.length_toList,aF];omega),Array.length_toList,aF,if_neg (by omega)];by_cases h2:k=200
   ·subst h2;rfl
   ·rw[if_neg (by omega),List.getElem?_eq_none (by simp;omega)]
abbrev ptV(p:aI):Value:=.agg (ptC p).toArray
theorem PZ:(Tryz.prog.info? 112).map (·.size)=some 202:=by kernel_rfl
theorem VL(p:aI):(Tryz.prog.info? 112).map (·.size)=some (ptC p).length:=by rw[kD];exact PZ
theorem wU:(Tryz.prog.info? 112).map (fun i=>(i.zero,i.size,i.bytes))=some (some (.agg Tryz.zeroCells112),202,216):=by kernel_rfl
def eD(W:World)(base:Nat)(v:Value)(L:List aI):Prop:=cK 112 202 ptC W base v L
section
variable {W W':World} {base g n c:Nat} {v:Value} {L:List aI}
theorem eD.ext(h:eD W base v L)(hb:Below W.heap.size W W'):eD W' base v L:=cK.ext h hb
theorem eD.mono{base':Nat}(h:eD W base v L)(hb:base'≤base):eD W base' v L:=cK.mono h hb
theorem eD.len(h:eD W base (.slice (some ⟨g,0,none⟩) n c) L):L.length=n:=by
 obtain⟨_,_,e⟩:=cK.form h
 injection e with _ e _
 exact e.symm
theorem eD.range(h:eD W base (.slice (some ⟨g,0,none⟩) n c) L){k:Nat}(hk:k<n):W.rangeAt g (k*202) (ptC (L.getD k aE)):=cK.range kD h aE (by rw[h.len];exact hk)
theorem jL{B q:Nat}{p:aI}(h:W.rangeAt B q (ptC p)):W.cell? ⟨B,q,none⟩=some (.int .i64 p.kind)∧W.rangeAt B (q+1) (aQ p.s).toList∧W.cell? ⟨B,q+201,none⟩=some (.int .i64 p.entry)∧∀k,k<200→W.cell? ⟨B,q+1+k,none⟩=some (.bool (p.s k)):=by
 have key:∀k v,(ptC p)[k]? =some v→W.cell? ⟨B,q+k,none⟩=some v:=fun k v hk=>h k v hk
 refine⟨key 0 _ rfl,?_,key 201 _ (by rw[FJ];rfl),fun k hk=>?_⟩
 ·intro k v hk;have hlt:k<200:=by
   apply aCF;intro hn;rw[List.getElem?_eq_none (by rw[Array.length_toList,aF];omega)] at hk;cases hk
  rw[show q+1+k=q+(k+1) by omega];refine key (k+1) v ?_;rw[FJ,if_neg (by omega),if_pos (by omega)];simpa using hk
 ·rw[show q+1+k=q+(k+1) by omega];refine key (k+1) _ ?_;rw[FJ,if_neg (by omega),if_pos (by omega),Nat.add_sub_cancel];exact iV _ _ hk
end
theorem YU(s:Nat→Bool)(kd e:Int)(cells:Array Value)(hc:cells.size=202):
  Instr.fill (fun i=>#[(0,1),(1,200),(201,1)][i]?) cells [(0,.int .i64 kd),(1,.agg (aQ s)),(2,.int .i64 e)]=some (ptC ⟨s,kd,e⟩).toArray:=by
 have s1:(Value.agg (aQ s)).cells=aQ s:=rfl
 have z1:∀v:Value,#[v].zipIdx= #[(v,0)]:=fun v=>rfl
 unfold Instr.fill
 simp only[List.getElem?_toArray,List.getElem?_cons_zero,Value.cells,List.size_toArray,List.length_cons,List.length_nil,hc]
 rw[if_neg (by simp)]
 simp only[z1,List.foldl_toArray,List.foldl_toArray',List.foldl_cons,List.foldl_nil,Nat.add_zero]
 obtain⟨c0,hc0⟩:∃c0,c0=cells.setIfInBounds 0 (.int .i64 kd):=⟨_,rfl⟩
 rw[←hc0]
 have hs0:c0.size=202:=by rw[hc0];simp[hc]
 have h0:c0[0]? =some (.int .i64 kd):=by rw[hc0,Array.getElem?_setIfInBounds];simp[hc]
 clear hc0
 unfold Instr.fill
 simp only[List.getElem?_toArray,List.getElem?_cons_succ,List.getElem?_cons_zero,s1,aF,hs0]
 rw[if_neg (by simp)]
 have h1:=fun k=>FU 1 (aQ s).toList c0 k
 rw[show(aQ s).toList.toArray=aQ s by simp] at h1
 generalize (aQ s).zipIdx.foldl (fun cs (x:Value×Nat)=>cs.setIfInBounds (1+x.2) x.1) c0=c1 at*
 have hs1:c1.size=202:=by rw[(h1 0).1,hs0]
 have h1:=fun k=>(h1 k).2
 unfold Instr.fill
 simp only[List.getElem?_toArray,List.getElem?_cons_succ,List.getElem?_cons_zero,Value.cells,List.size_toArray,List.length_cons,List.length_nil,hs1]
 rw[if_neg (by simp)]
 unfold Instr.fill
 congr 1
 apply Array.ext_getElem?
 intro k
 simp only[z1,List.foldl_toArray,List.foldl_toArray',List.foldl_cons,List.foldl_nil,Nat.add_zero,Array.getElem?_setIfInBounds,hs1,h1,Array.length_toList,aF,hs0,Array.getElem?_toList,List.getElem?_toArray,FJ]
 by_cases k1:k=201
 ·subst k1;simp
 ·by_cases k2:k=0
  ·subst k2;simpa using h0
  ·by_cases k3:k≤200
   ·rw[if_neg (by omega),if_pos (by omega),if_neg (by omega),if_pos (by omega)]
   ·rw[if_neg (by omega),if_neg (by omega),if_neg (by omega),if_neg (by omega),if_neg (by omega)];rw[Array.getElem?_eq_none (by omega)]
theorem XM(s:Nat→Bool)(kd e:Int):Tryz.prog.built 112 [(0,.int .i64 kd),(1,.agg (aQ s)),(2,.int .i64 e)]=some (ptC ⟨s,kd,e⟩).toArray:=by
 have h:=YU s kd e Tryz.zeroCells112 (by kernel_rfl)
 refine Eq.trans ?_ h
 kernel_rfl
theorem wD(s:Nat→Bool)(kd e:Int)(w:World):(Instr.build 112 #[(0,.int .i64 kd),(1,.agg (aQ s)),(2,.int .i64 e)]).run Tryz.prog w=.ok (ptV ⟨s,kd,e⟩) w:=run_build w _ _ _ (XM s kd e)
theorem JA{o:Oper}{a:Act}{w:World}{K:Act→World→Prop}{Q:Exit→Act→World→Prop}(x:Operand)(p:aI)(ho:o.op=.buildSlice 104 1 #[(0,x)])(hx:a.eval x=ptV p)
  (h:K (a.put o.dst (.slice (some ⟨w.heap.size,0,none⟩) 1 1)) (w.alloc (.cells (ptC p).toArray 112))):o.wp Tryz.prog a w K Q:=by
 obtain⟨ie,hie⟩:∃i,Tryz.prog.info? 112=some i:=Option.isSome_iff_exists.1 (by kernel_rfl)
 have hs:ie.size=202:=by have:=PZ;rw[hie] at this;simpa using this
 obtain⟨z,hz⟩:∃z,ie.zero=some z:=by
  have:(Tryz.prog.info? 112).map (fun i=>i.zero.isSome)=some true:=by kernel_rfl
  rw[hie] at this;exact Option.isSome_iff_exists.1 (by simpa using this)
 refine wp_buildSlice _ 112 1 #[(0,x)] ho (ptC p).toArray ie z Tryz.underlying104 hie hz (by rw[hs];omega) (by rw[hs];omega) ?_ h
 simp only[List.map_toArray,List.map_cons,List.map_nil,hx]
 rw[hs]
 exact vS (ptC p) _ (kD p) (by simp)
theorem DV{ops:Array Oper}{rest:List Oper}{o:Oper}{a:Act}{w:World}{Q:Exit→Act→World→Prop}(hgd:o.guard=none)(x y z:Operand)(s:Nat→Bool)(kd e:Int)(ho:o.op=.build 112 #[(0,x),(1,y),(2,z)])
  (hx:a.eval x=.int .i64 kd) (hy:a.eval y=.agg (aQ s)) (hz:a.eval z=.int .i64 e) (h:wpList Tryz.prog ops Q rest (a.put o.dst (ptV ⟨s,kd,e⟩)) w):wpList Tryz.prog ops Q (o :: rest) a w:=
 wpList_plain hgd fun K hK=>by
  unfold Oper.wp execOp;simp only[ho,List.map_toArray,List.map_cons,List.map_nil,hx,hy,hz,Sem.run_bind,wD,Result.andThen_ok,Sem.run_pure];exact hK _ _ h
theorem qQ{ops:Array Oper}{rest:List Oper}{o:Oper}{a:Act}{w:World}{Q:Exit→Act→World→Prop}(hgd:o.guard=none)(x:Operand)(p:aI)(ho:o.op=.buildSlice 104 1 #[(0,x)])(hx:a.eval x=ptV p)
  (h:wpList Tryz.prog ops Q rest (a.put o.dst (.slice (some ⟨w.heap.size,0,none⟩) 1 1)) (w.alloc (.cells (ptC p).toArray 112))):wpList Tryz.prog ops Q (o :: rest) a w:=
 wpList_plain hgd fun _ hK=>JA x p ho hx (hK _ _ h)
end

section
open Go.RowKit
attribute [local go_sem] Oper.semAt_some cT bM cC bG
theorem lD{w w':World}(hb:Below w.heap.size w w'){B q:Nat}{cs:List Value}(h:w.rangeAt B q cs):w'.rangeAt B q cs:=fun k v hk=>aH hb (h k v hk)
theorem KA(f g:Nat→Bool)(w:World):Calls Tryz.prog 77 #[.agg (aQ f),.agg (aQ g)] w fun e w'=>e=.returned (.bool (cS f g))∧Below w.heap.size w w':=by
 go_enter Tryz.func77,Tryz.ntmps77
 go_upto_region 1 with (fail)
 obtain⟨W,hW⟩:∃W,W=(w.alloc (bY f)).alloc (bY g):=⟨_,rfl⟩
 rw[←hW]
 have h0:W.heap[w.heap.size]? =some (bY f):=by rw[hW,aBR _ _ _ (by simp)];exact aBS _ _
 have h1:W.heap[w.heap.size+1]? =some (bY g):=by rw[hW,aU _ _ _ (by simp)]
 have hB:Below w.heap.size w W:=by rw[hW];exact(aD _ _).alloc (by simp) _
 have HH:=aBO (And.intro h0 (And.intro h1 hB))
 clear hW h0 h1 hB
 go_wp2
 go_loopw [5] (fun s5 wr=>∃k:Nat,k≤200∧s5=.int .i64 (k:Int)∧Hid (∀i,i<k→f i=true→g i=true)∧Hid (wr=W)) (fun s5 _=>200-(intOf s5).toNat)
 case atStart=>exact⟨0,by omega,rfl,fun i hi=>absurd hi (by omega),rfl⟩
 case round=>
  obtain⟨k,hk,rfl,HR,HW⟩:=hrel;have H0:Hid (wr.heap[w.heap.size]? =some (bY f)):=by rw[HW.out];exact HH.out.1
  have H1:Hid (wr.heap[w.heap.size+1]? =some (bY g)):=by rw[HW.out];exact HH.out.2.1
  have HB:Hid (Below w.heap.size w wr):=by rw[HW.out];exact HH.out.2.2
  by_cases hlt:k<200
  ·have hlt':(k:Int)<200:=by omega
   have c0:=cX H0.out k hlt;have c1:=cX H1.out k hlt;obtain⟨fb,hfb⟩:∃b,b=f k:=⟨_,rfl⟩
   obtain⟨gb,hgb⟩:∃b,b=g k:=⟨_,rfl⟩
   rw[←hfb] at c0;rw[←hgb] at c1;have HFB:=aBO hfb;have HGB:=aBO hgb;clear hfb hgb;cases fb with
   |false=>
    have HN:Hid (∀i,i<k+1→f i=true→g i=true):=fun i hi hf=>by
     rcases Nat.lt_or_ge i k with h|h
     ·exact HR.out i h hf
     ·obtain rfl:i=k:=by omega
      rw[←HFB.out] at hf;cases hf
    go_wp2
    go_roundw
    case rel=>exact⟨k+1,by omega,by go_num,HN,HW⟩
    case measure=>simp[intOf];omega
   |true=>
    cases gb with
    |false=>
     have HE:Hid (cS f g=false):=aBE hlt HFB.out.symm HGB.out.symm;go_wp2
     go_ret
     exact⟨by rw[HE.out];rfl,HB.out⟩
    |true=>
     have HN:Hid (∀i,i<k+1→f i=true→g i=true):=fun i hi hf=>by
      rcases Nat.lt_or_ge i k with h|h
      ·exact HR.out i h hf
      ·obtain rfl:i=k:=by omega
       exact HGB.out.symm
     go_wp2
     go_roundw
     case rel=>exact⟨k+1,by omega,by go_num,HN,HW⟩
     case measure=>simp[intOf];omega
  ·obtain rfl:k=200:=by omega
   have HE:Hid (cS f g=decide (fZ f 200<fZ g 200)):=by
    rw[Hid,UV HR.out];have e:∀h:Nat→Bool,fZ h 200=(aZ h).length:=fun _=>rfl;rw[e,e]
   clear HR;go_upto_region 6 with (fail)
   refine dL 5 [some 19,some 20,some 21,some 22,some 23] (by kernel_rfl) (by kernel_rfl) (dV [.val (.agg (aQ f)),.val (.int .i64 (fZ f 200:Nat)),.val (.agg (aQ g)),.val (.int .i64 (fZ g 200:Nat)),.val (.bool (decide (fZ f 200<fZ g 200)))]) (dN ?_) ?_ ?_
   ·intro k hk;simp only[List.mem_cons,List.not_mem_nil,or_false] at hk;rcases hk with rfl|rfl|rfl|rfl|rfl
    ·exact trivial
    ·exact trivial
    ·exact trivial
    ·exact trivial
    ·exact trivial
   ·intro i hi ν lo hi' w1 K hB hD hK;have hcase:i=0∨i=1∨i=2∨i=3∨i=4:=by omega
    clear hi;rcases hcase with rfl|rfl|rfl|rfl|rfl
    ·clear hD;refine aC rfl rfl ?_;simp only[zA,zB,zC,zD,zE,zF,zJ,zK,zG,zH,zI] at hK⊢;refine wp_load_row 107 _ rfl w.heap.size rfl 107 _ (0,0) _ (aB hB H0.out) Tryz.underlying107 rfl (by rw[aF];exact aV) ?_;exact hK _ _ (aBQ _ _) rfl
    ·have e0:=hD 0 (by kernel_rfl)
     replace e0:ν 0=(.agg (aQ f)):=e0
     clear hD;refine aC rfl rfl ?_;simp only[zA,zB,zC,zD,zE,zF,zJ,zK,zG,zH,zI,e0] at hK⊢;go_simp;refine(mN f w1).mono ?_;rintro e w3 ⟨rfl,hb3⟩;exact hK _ _ hb3 rfl
    ·clear hD;refine aC rfl rfl ?_;simp only[zA,zB,zC,zD,zE,zF,zJ,zK,zG,zH,zI] at hK⊢;refine wp_load_row 107 _ rfl (w.heap.size+1) rfl 107 _ (0,0) _ (aB hB H1.out) Tryz.underlying107 rfl (by rw[aF];exact aV) ?_;exact hK _ _ (aBQ _ _) rfl
    ·have e1:=hD 1 (by kernel_rfl)
     replace e1:ν 1=(.int .i64 (fZ f 200:Nat)):=e1
     have e2:=hD 2 (by kernel_rfl)
     replace e2:ν 2=(.agg (aQ g)):=e2
     clear hD;refine aC rfl rfl ?_;simp only[zA,zB,zC,zD,zE,zF,zJ,zK,zG,zH,zI,e1,e2] at hK⊢;go_simp;refine(mN g w1).mono ?_;rintro e w3 ⟨rfl,hb3⟩;exact hK _ _ hb3 rfl
    ·have e1:=hD 1 (by kernel_rfl)
     replace e1:ν 1=(.int .i64 (fZ f 200:Nat)):=e1
     have e3:=hD 3 (by kernel_rfl)
     replace e3:ν 3=(.int .i64 (fZ g 200:Nat)):=e3
     clear hD;refine aC rfl rfl ?_;simp only[zA,zB,zC,zD,zE,zF,zJ,zK,zG,zH,zI,e1,e3] at hK⊢;go_simp;exact hK _ _ (aBQ _ _) rfl
   ·intro ν lo hi w1 hB hS hI hD;have e0:ν 0=(.agg (aQ f)):=hS 0 (by omega);have e1:ν 1=(.int .i64 (fZ f 200:Nat)):=hS 1 (by omega);have e2:ν 2=(.agg (aQ g)):=hS 2 (by omega);have e3:ν 3=(.int .i64 (fZ g 200:Nat)):=hS 3 (by omega);have e4:ν 4=(.bool (decide (fZ f 200<fZ g 200))):=hS 4 (by omega);clear hS;simp only[List.drop_succ_cons,List.drop_zero,zA,zB,zC,zD,zE,zF,zJ,zK,zG,zH,zI,e0,e1,e2,e3,e4];have HBE:=aBO (aA HB.out hB);clear hI hD hB e0 e1 e2 e3 e4;go_wp2
    go_ret
    exact⟨by rw[HE.out];rfl,HBE.out⟩
end

section
open Go.RowKit
attribute [local go_sem] Oper.semAt_some cT bM cC bG
theorem KK(w:World)(f g:Nat→Bool):(binOp .eql 107 (.agg (aQ f)) (.agg (aQ g))).run Tryz.prog w=.ok (.bool (eqS f g)) w:=by
 rw[run_eql_struct,BU]
 rfl
theorem HU{ts:List aT}{L:List aI}(hl:ts.length≤200)(P:gU ts L){i k:Nat}(hi:i<L.length)(hk:k<L.length):
  bE (L.take (i+1)) (L.getD k aE)=bE (L.take i) (L.getD k aE)+(if cS (L.getD k aE).s (L.getD i aE).s then 1 else 0):=by
 rw[uD L hi,bE,bE,List.filter_append,List.length_append]
 generalize L.getD k aE=x
 generalize L.getD i aE=y
 cases hw:cS x.s y.s<;>simp[hw]
theorem yO(a:Option Addr)(n c base:Nat)(ts:List aT)(hl:ts.length≤200)(L:List aI)(P:gU ts L)(k:Nat)(hk:k<n)(w:World)(h:eD w base (.slice a n c) L)(hn:n≤1000):
  Calls Tryz.prog 75 #[.slice a n c,.int .i64 (k:Int)] w fun e w'=>e=.returned (.int .i64 (bE L (L.getD k aE):Nat))∧Below w.heap.size w w':=by
 have hlen:L.length=n:=by
  obtain⟨_,_,e⟩:=cK.form h;injection e with _ e _;exact e.symm
 have hform:∃g,a=some ⟨g,0,none⟩:=by
  obtain⟨g,c',e⟩:=eI h.1 (by omega);injection e with e _ _;exact⟨g,e⟩
 obtain⟨gg,rfl⟩:=hform
 have HL:=aBO h
 have HP:=aBO P
 have HLN:=aBO hlen
 clear h P hlen
 go_enter Tryz.func75,Tryz.ntmps75
 go_wp2
 go_loopw [5,6] (fun s5 s6 wr=>∃j:Nat,j≤n∧s6=.int .i64 (j:Int)∧s5=.int .i64 (bE (L.take j) (L.getD k aE):Nat)∧Hid (Below w.heap.size w wr)) (fun _ s6 _=>n-(intOf s6).toNat)
 case atStart=>exact⟨0,by omega,rfl,by simp[bE],aBQ _ _⟩
 case round=>
  obtain⟨j,hj,rfl,rfl,HB⟩:=hrel;by_cases hlt:j<n
  ·have hlt':(j:Int)<(n:Int):=by omega
   have HLr:Hid (eD wr base (.slice (some ⟨gg,0,none⟩) n c) L):=eD.ext HL.out HB.out;obtain⟨ck,rk,_,_⟩:=jL (HLr.out.range hk);obtain⟨cj,rj,_,_⟩:=jL (HLr.out.range hlt);have hst:=HU hl HP.out (i:=j) (k:=k) (by rw[HLN.out];exact hlt) (by rw[HLN.out];exact hk);have hsm:=fun h=>YW hl HP.out (i:=j) (k:=k) (by rw[HLN.out];exact hlt) (by rw[HLN.out];exact hk) h;have hcnt:bE (L.take j) (L.getD k aE)≤1000:=by
    have h1:bE (L.take j) (L.getD k aE)≤(L.take j).length:=List.length_filter_le _ _;have h2:=List.length_take_le j L;omega
   obtain⟨pj,hpj⟩:∃p,p=L.getD j aE:=⟨_,rfl⟩
   rw[←hpj] at cj rj hst hsm;obtain⟨m,hm⟩:∃m,m=bE (L.take j) (L.getD k aE):=⟨_,rfl⟩
   rw[←hm] at hst hcnt⊢;obtain⟨pk,hpk⟩:∃p,p=L.getD k aE:=⟨_,rfl⟩
   have HPK:=aBO hpk;have HPJ:=aBO hpj;rw[←hpk] at ck rk hst hsm;have HRK:=aBO rk;have HRJ:=aBO rj;clear hm hpk hpj rk rj HLr;obtain⟨V,hV⟩:∃V,V=wr:=⟨_,rfl⟩
   rw[←hV] at ck cj HRK HRJ HB⊢;clear hV;have q1:∀n':aY V,n'.val.cell? ⟨gg,j*202,none⟩=some (.int .i64 pj.kind):=aY.cell cj;have q2:∀n':aY V,n'.val.cell? ⟨gg,k*202,none⟩=some (.int .i64 pk.kind):=aY.cell ck;have q3:∀w',(∃n':aY V,w'=n'.val)→w'.rangeAt gg (j*202+1) (aQ pj.s).toList:=fun w' ⟨n',e⟩=>by rw[e];exact lD n'.ext HRJ.out
   have q4:∀w',(∃n':aY V,w'=n'.val)→w'.rangeAt gg (k*202+1) (aQ pk.s).toList:=fun w' ⟨n',e⟩=>by rw[e];exact lD n'.ext HRK.out
   have Q3:=aBO q3;have Q4:=aBO q4;clear q3 q4 cj ck HRK HRJ;have HNE:Nonempty (aY V):=⟨⟨V,aBQ _ _⟩⟩
   have hk':(k:Int)<(n:Int):=by omega
   have HIN:Hid (∀n':aY V,Calls Tryz.prog 77 #[.agg (aQ pk.s),.agg (aQ pj.s)] n'.val fun e w''=>e=.returned (.bool (cS pk.s pj.s))∧∃m:aY V,w''=m.val):=fun n'=>cG (KA pk.s pj.s n'.val);obtain⟨wi,hwi⟩:∃b,b=cS pk.s pj.s:=⟨_,rfl⟩
   rw[←hwi] at HIN hst;obtain⟨qe,hqe⟩:∃b,b=eqS pj.s pk.s:=⟨_,rfl⟩
   have heq:∀w9,(binOp .eql 107 (.agg (aQ pj.s)) (.agg (aQ pk.s))).run Tryz.prog w9=.ok (.bool qe) w9:=fun w9=>by rw[hqe];exact KK w9 _ _
   clear hwi;go_upto_region 5 with (fail)
   cases wi with
   |true=>
    have HST:=aBO hst;clear hst hsm hqe heq;refine bB (by kernel_rfl) (by kernel_rfl) ?_
    repeat (first
     |go_big_quiet_skip
     |(refine aX (o:=⟨some 17,.load 107 _,_,_,_,_⟩) (by rfl) 107 _ rfl gg (k*202+1) rfl (aQ pk.s).toList _ Q4.out Tryz.underlying107 rfl (by rw[Array.length_toList,aF];exact aV) ?_;simp only[zJ,zG,zH,zI,Array.toArray_toList])
     |(refine aX (o:=⟨some 22,.load 107 _,_,_,_,_⟩) (by rfl) 107 _ rfl gg (j*202+1) rfl (aQ pj.s).toList _ Q3.out Tryz.underlying107 rfl (by rw[Array.length_toList,aF];exact aV) ?_;simp only[zJ,zG,zH,zI,Array.toArray_toList])
     |go_big_quiet_step (first|(go_at_call 77;exact HIN.out _)))
    refine wpQuiet_nil ?_;rintro _ ⟨n',rfl⟩;have HB8:=aBO (aA HB.out n'.ext);clear q1 q2 HIN;go_wp2
    go_roundw
    case rel=>exact⟨j+1,by omega,by go_num,by rw[←HPK.out,HST.out];simp,HB8⟩
    case measure=>simp[intOf];omega
   |false=>
    have HST:=aBO hst;cases qe with
    |false=>
     clear hst hsm hqe;refine bB (by kernel_rfl) (by kernel_rfl) ?_
     repeat (first
      |go_big_quiet_skip
      |(refine aX (o:=⟨some 17,.load 107 _,_,_,_,_⟩) (by rfl) 107 _ rfl gg (k*202+1) rfl (aQ pk.s).toList _ Q4.out Tryz.underlying107 rfl (by rw[Array.length_toList,aF];exact aV) ?_;simp only[zJ,zG,zH,zI,Array.toArray_toList])
      |(refine aX (o:=⟨some 22,.load 107 _,_,_,_,_⟩) (by rfl) 107 _ rfl gg (j*202+1) rfl (aQ pj.s).toList _ Q3.out Tryz.underlying107 rfl (by rw[Array.length_toList,aF];exact aV) ?_;simp only[zJ,zG,zH,zI,Array.toArray_toList])
      |(refine aX (o:=⟨some 29,.load 107 _,_,_,_,_⟩) (by rfl) 107 _ rfl gg (j*202+1) rfl (aQ pj.s).toList _ Q3.out Tryz.underlying107 rfl (by rw[Array.length_toList,aF];exact aV) ?_;simp only[zJ,zG,zH,zI,Array.toArray_toList])
      |(refine aX (o:=⟨some 34,.load 107 _,_,_,_,_⟩) (by rfl) 107 _ rfl gg (k*202+1) rfl (aQ pk.s).toList _ Q4.out Tryz.underlying107 rfl (by rw[Array.length_toList,aF];exact aV) ?_;simp only[zJ,zG,zH,zI,Array.toArray_toList])
      |go_big_quiet_step (first|(go_at_call 77;exact HIN.out _)))
     refine wpQuiet_nil ?_;rintro _ ⟨n',rfl⟩;have HB8:=aBO (aA HB.out n'.ext);clear q1 q2 HIN heq;go_wp2
     go_roundw
     case rel=>exact⟨j+1,by omega,by go_num,by rw[←HPK.out,HST.out];simp,HB8⟩
     case measure=>simp[intOf];omega
    |true=>
     obtain rfl:=hsm hqe.symm;obtain rfl:pj=pk:=by rw[HPJ.out,HPK.out]
     clear hst hsm hqe;obtain⟨kd,hkd⟩:∃d,d=pj.kind:=⟨_,rfl⟩
     rw[←hkd] at q1 q2;clear hkd;by_cases h4:kd=4
     ·have d4:(kd==4)=true:=by simpa using h4
      have d5:(kd != 4)=false:=by simpa using h4
      clear h4;refine bB (by kernel_rfl) (by kernel_rfl) ?_
      repeat (first
       |go_big_quiet_skip
       |(refine aX (by rfl) 107 _ rfl gg (j*202+1) rfl (aQ pj.s).toList _ Q3.out Tryz.underlying107 rfl (by rw[Array.length_toList,aF];exact aV) ?_;simp only[zJ,zG,zH,zI,Array.toArray_toList])
       |go_big_quiet_step (first|(go_at_call 77;exact HIN.out _)))
      refine wpQuiet_nil ?_;rintro _ ⟨n',rfl⟩;have HB8:=aBO (aA HB.out n'.ext);clear q1 q2 HIN heq;go_wp2
      go_roundw
      case rel=>exact⟨j+1,by omega,by go_num,by rw[←HPK.out,HST.out];simp,HB8⟩
      case measure=>simp[intOf];omega
     ·have d4:(kd==4)=false:=by simpa using h4
      refine bB (by kernel_rfl) (by kernel_rfl) ?_
      repeat (first
       |go_big_quiet_skip
       |(refine aX (by rfl) 107 _ rfl gg (j*202+1) rfl (aQ pj.s).toList _ Q3.out Tryz.underlying107 rfl (by rw[Array.length_toList,aF];exact aV) ?_;simp only[zJ,zG,zH,zI,Array.toArray_toList])
       |go_big_quiet_step (first|(go_at_call 77;exact HIN.out _)))
      refine wpQuiet_nil ?_;rintro _ ⟨n',rfl⟩;have HB8:=aBO (aA HB.out n'.ext);clear q1 q2 HIN heq;go_wp2
      go_roundw
      case rel=>exact⟨j+1,by omega,by go_num,by rw[←HPK.out,HST.out];simp,HB8⟩
      case measure=>simp[intOf];omega
  ·obtain rfl:j=n:=by omega
   have HE:Hid (L.take j=L):=by rw[Hid,←HLN.out];exact List.take_length
   rw[HE.out];go_wp2
   go_ret
   exact⟨rfl,HB.out⟩
end
end Go.Proofs.YtblhmdhfhaencaaGreat
