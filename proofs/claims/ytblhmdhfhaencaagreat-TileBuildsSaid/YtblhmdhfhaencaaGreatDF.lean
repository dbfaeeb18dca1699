/-
  The document's answer to layer 17: sets of numbers, lists of sets, parents, has.
-/
import Derived.Test.YtblhmdhfhaencaaGreatRD
import Derived.Test.YtblhmdhfhaencaaGreatTR
import Derived.Test.YtblhmdhfhaencaaGreatTV
import Derived.Test.YtblhmdhfhaencaaGreatBR
import Derived.Test.YtblhmdhfhaencaaGreatSortI
import Derived.Test.YtblhmdhfhaencaaGreatFI2
import Derived.Test.YtblhmdhfhaencaaGreatQH
import Derived.Test.YtblhmdhfhaencaaGreatVP
namespace Go.Proofs.YtblhmdhfhaencaaGreat
set_option linter.unusedSimpArgs false
set_option linter.unusedVariables false
set_option linter.unusedSectionVars false
set_option maxRecDepth 100000
set_option maxHeartbeats 40000000
section
open Go.RowKit
theorem listTo_step (f : Nat → Bool) (k : Nat) : (List.range (k + 1)).filter f = (List.range k).filter f ++ if f k then [k] else [] := by
  rw [List.range_succ, List.filter_append]
  cases h : f k <;> simp [h]
theorem list17_any (f : Nat → Bool) (w : World) : Calls Tryz.prog 76 #[.agg (setA f)] w (IntsPost w (intsN (listS f))) := by
  have HK0 : Hid ((w.alloc (rsetO f)).heap[w.heap.size]? = some (rsetO f)) := heap_alloc_new _ _
  go_enter Tryz.func76, Tryz.ntmps76
  go_wp2
  go_loopw [3, 4] (fun s3 i wr => ∃ (k : Nat), k ≤ 200 ∧ i = .int .i64 k ∧ Hid (OwnI wr (w.heap.size + 1) s3 (intsN ((List.range k).filter f))) ∧ Hid (wr.heap[w.heap.size]? = some (rsetO f)) ∧ Hid (Below w.heap.size w wr)) (fun _ i _ => 200 - (intOf i).toNat)
  case atStart => exact ⟨0, by omega, rfl, OwnI.nil _ _, HK0, ext_alloc _ _⟩
  case round =>
    obtain ⟨k, hk, rfl, HO, HK, HB⟩ := hrel;obtain ⟨va, vc, rfl⟩ := HO.out.form;have HST := Lib.hid (listTo_step f k);have hlen : (intsN ((List.range k).filter f)).length ≤ 200 := by
      have := List.length_filter_le f (List.range k);simp [intsN] at this ⊢; omega
    by_cases hlt : k < 200
    · have hcell := rset_cell HK.out k hlt;have hl := lt_of_heap HK.out;cases hf : f k with
      | true =>
        rw [hf] at hcell HST;have HST2 : Hid (intsN ((List.range (k + 1)).filter f) = intsN ((List.range k).filter f) ++ [(k : Int)]) := by rw [Hid, HST.out]; simp [intsN]
        clear HST hf;generalize intsN ((List.range k).filter f) = xs at *
        go_wp2_with (
          (at_builtin
           refine wpList_append1 rfl wr (.tmp 12) (.tmp 14) 22 3 rfl (w.heap.size + 1) _ 1 8 Tryz.underlying22 infoI rfl (by omega) (.slice va xs.length vc) xs.length _ [.int .i64 (k : Int)] rfl HO.out.1 wr.heap.size rfl rfl rfl (by simp [Value.oneCell']) (by simp only [maxLen]; omega) (by omega) (by omega) ?_;intro g cap w2 hown2 hg2 hat2
           have HO2 : Hid (OwnI w2 (w.heap.size + 1) (.slice (some ⟨g, 0, none⟩) (xs.length + 1) cap) (xs ++ [(k : Int)])) := (by
             refine ⟨?_, fun z hz => ?_, by simp; omega⟩
             · have e4 : intVals (xs ++ [(k : Int)]) = intVals xs ++ [.int .i64 (k : Int)] := by simp [intVals]
               rw [e4, List.length_append];exact hown2
             · rcases List.mem_append.1 hz with h | h
               · exact HO.out.2.1 z h
               · simp only [List.mem_singleton] at h;subst h;unfold I64
                 omega)
           have HK2 := Lib.hid (grown_row hg2 HK.out (fun e => by have := (HO.out.1.lt _ e).1; omega));have HB2 := Lib.hid (HB.out.grown hg2 (by omega) (fun q e => by have := (HO.out.1.lt q e).1; omega))
           clear hown2 hg2 hat2))
        go_roundw
        case rel => exact ⟨k + 1, by omega, by go_num, by rw [HST2.out]; exact HO2, HK2, HB2⟩
        case measure => simp [intOf]; omega
      | false =>
        rw [hf] at hcell HST;have HST2 : Hid (intsN ((List.range (k + 1)).filter f) = intsN ((List.range k).filter f)) := by rw [Hid, HST.out]; simp
        clear HST hf;go_wp2
        go_roundw
        case rel => exact ⟨k + 1, by omega, by go_num, by rw [HST2.out]; exact HO, HK, HB⟩
        case measure => simp [intOf]; omega
    · obtain rfl : k = 200 := by omega
      go_wp2
      go_ret
      exact ⟨_, rfl, HO.out.mono (by omega), HB.out⟩
end

section
def entTo (ts : List TermD) (s : Nat → Bool) (i k : Nat) : Nat → Bool := fun y => s y && (pvAt ts i k y).any fun x => !s x
theorem entTo_zero (ts : List TermD) (s : Nat → Bool) : entTo ts s 0 0 = fun _ => false := by
  funext y; simp [entTo, pvAt_zero]
theorem entTo_next (ts : List TermD) (s : Nat → Bool) (i k : Nat) (h : (nx ts i).length ≤ k) : entTo ts s i k = entTo ts s (i + 1) 0 := by
  funext y; rw [entTo, entTo, pvAt_next ts i k y h]
theorem entTo_in (ts : List TermD) (s : Nat → Bool) (i : Nat) (hi : s i = true) : entTo ts s i 0 = entTo ts s (i + 1) 0 := by
  rw [← entTo_next ts s i (nx ts i).length (Nat.le_refl _)]
  have : ∀ k, k ≤ (nx ts i).length → entTo ts s i 0 = entTo ts s i k := by
    intro k
    induction k with
    | zero => intro _; rfl
    | succ k ih =>
      intro hk;rw [ih (by omega)]
      funext y
      rw [entTo, entTo, pvAt_step ts i k _ (List.getElem?_eq_getElem (by omega)) y]
      split
      · simp [hi]
      · rfl
  exact this _ (Nat.le_refl _)
theorem entTo_put (ts : List TermD) (s : Nat → Bool) (i k : Nat) (hk : k < (nx ts i).length) (hi : s i = false) (hs : s ((nx ts i).getD k 0) = true) : (fun y => if y = (nx ts i).getD k 0 then true else entTo ts s i k y) = entTo ts s i (k + 1) := by
  have hg : (nx ts i)[k]? = some ((nx ts i).getD k 0) := by simp [List.getD_eq_getElem?_getD, hk]
  funext y
  rw [entTo, entTo, pvAt_step ts i k _ hg y]
  by_cases e : y = (nx ts i).getD k 0
  · rw [if_pos e, if_pos e, e, hs]; simp [hi]
  · rw [if_neg e, if_neg e]
theorem entTo_skip (ts : List TermD) (s : Nat → Bool) (i k : Nat) (hk : k < (nx ts i).length) (hs : s ((nx ts i).getD k 0) = false) : entTo ts s i k = entTo ts s i (k + 1) := by
  have hg : (nx ts i)[k]? = some ((nx ts i).getD k 0) := by simp [List.getD_eq_getElem?_getD, hk]
  funext y
  rw [entTo, entTo, pvAt_step ts i k _ hg y]
  by_cases e : y = (nx ts i).getD k 0
  · rw [if_pos e, e, hs]; simp
  · rw [if_neg e]
theorem entTo_end {ts : List TermD} (hg : goodB ts = true) (s : Nat → Bool) : listS (entTo ts s ts.length 0) = entriesS ts s := by
  rw [entriesS, listS, listS, List.filter_filter]
  refine List.filter_congr fun y _ => ?_
  rw [entTo, pvAt_end]
  cases h : ((pv ts y).any fun x => !s x) with
  | false => simp
  | true =>
    obtain ⟨x, hx, _⟩ := List.any_eq_true.1 h;have := good_nx hg ((mem_pv ts y x).1 hx);simp [this.2]
section
variable {l : List TileD} (hp : parentsB l = true)
include hp
end
end

section
open Go.RowKit
theorem OwnI.low {w : World} {base k : Nat} {v : Value} {xs : List Int} (h : OwnI w base v xs) (hk : v.ownBlock = some k) : base ≤ k ∧ k < w.heap.size := ⟨(h.1.lt k hk).1, (h.1.lt k hk).2⟩
section
variable {P : Program} {Q : Exit → Act → World → Prop}
theorem wpList_append1I {ops : Array Oper} {rest : List Oper} {o : Oper} {a : Act} (hgd : o.guard = none) (w0 : World) (s x : Operand) (t : TypeId) (ho : o.op = .call { callee := .builtin .append, args := #[s, x], argTypes := #[t, t] })
    (base : Nat) (z : Value) (bytes : Nat) (ht : P.underlying t = some (.slice 3)) (hinfo : (P.info? 3).map (fun i => (i.zero, i.size, i.bytes)) = some (some z, 1, bytes)) (hzs : z.cells.size = 1)
    (v : Value) (xs : List Int) (hs : a.eval s = v) (hown : OwnI w0 base v xs) (y : Int) (hy : I64 y) (H : Nat) (hH : w0.heap.size = H) (hx : a.eval x = .slice (some ⟨H, 0, none⟩) 1 1) (hlen : xs.length ≤ 100000000) (hb8 : bytes ≤ 16) (hbase : base ≤ w0.heap.size)
    (h : ∀ g cap w', OwnI w' base (.slice (some ⟨g, 0, none⟩) (xs.length + 1) cap) (xs ++ [y]) → w0.grownBy w' v.ownBlock → (some g = v.ownBlock ∨ g = w0.heap.size + 1) → wpList P ops Q rest (a.put o.dst (.slice (some ⟨g, 0, none⟩) (xs.length + 1) cap)) w') :
    wpList P ops Q (o :: rest) a (w0.alloc (.cells #[.int .i64 y] 3)) := by
  subst hH
  refine wpList_append1 hgd w0 s x t 3 ho base z 1 bytes ht hinfo hzs (by omega) v xs.length _ [.int .i64 y] hs hown.1 w0.heap.size rfl hx rfl (by simp [Value.oneCell']) (by simp only [maxLen]; omega) (by
    have : (xs.length + 1) * bytes ≤ (xs.length + 1) * 16 := Nat.mul_le_mul_left _ hb8
    omega) hbase fun g cap w' h2 h3 h4 => h g cap w' ⟨?_, fun q hq => ?_, by simp; omega⟩ h3 h4
  · have e : intVals (xs ++ [y]) = intVals xs ++ [.int .i64 y] := by simp [intVals]
    rw [e, List.length_append];exact h2
  · rcases List.mem_append.1 hq with hq | hq
    · exact hown.2.1 q hq
    · simp at hq; subst hq; exact hy
end
end

section
open Go.RowKit
theorem entries17_any (pa : Option Addr) (pn pc : Nat) (ba : Option Addr) (bn bc : Nat) (bs : List BlkH) (f : Nat → Bool) (w : World) (h : BlksOK w ba bn bs) (hg : goodB (tsOf bs) = true) :
    Calls Tryz.prog 107 #[funcV pa pn pc ba bn bc, .agg (setA f)] w (IntsPost w (intsN (entriesS (tsOf bs) f))) := by
  have hbn : bn ≤ 200 := by have := ((goodB_iff _).1 hg).1.2; rw [tsOf_len, h.1.1] at this; exact this
  have HTL : Hid ((tsOf bs).length = bn) := by rw [Hid, tsOf_len, h.1.1]
  have HX : Hid (∀ k y, y ∈ nx (tsOf bs) k → y < bn) := fun k y hy => by have := good_nx hg hy; rw [HTL.out] at this; omega
  have H := Lib.hid h
  have HG := Lib.hid hg
  clear h hg
  go_enter Tryz.func107, Tryz.ntmps107
  go_upto_region 2 with (fail)
  obtain ⟨W, hW⟩ : ∃ W, W = ((w.alloc (funcO pa pn pc ba bn bc)).alloc (rsetO f)).alloc (.cells Tryz.zeroCells107 107) := ⟨_, rfl⟩
  rw [← hW]
  have ho : W.heap[w.heap.size]? = some (funcO pa pn pc ba bn bc) := by rw [hW, Below.heap_alloc _ _ _ (by simp <;> omega), Below.heap_alloc _ _ _ (by simp)]; exact heap_alloc_new _ _
  have hi : W.heap[w.heap.size + 1]? = some (rsetO f) := by rw [hW, Below.heap_alloc _ _ _ (by simp), heap_at _ _ _ (by simp)]
  have hr : W.heap[w.heap.size + 1 + 1]? = some (rsetO (entTo (tsOf bs) f 0 0)) := by rw [hW, heap_at _ _ _ (by simp), zero_rset, entTo_zero]
  have hB : Below w.heap.size w W := by rw [hW]; exact ((ext_alloc _ _).alloc (by simp) _).alloc (by simp; omega) _
  have hWs : w.heap.size + 1 + 1 + 1 ≤ W.heap.size := by rw [hW]; simp
  have HO := Lib.hid ho
  have HI := Lib.hid hi
  have HR := Lib.hid hr
  have HB := Lib.hid hB
  clear hW ho hi hr hB
  go_wp2
  go_loopw [6, 7, 8] (fun s6 _ _ wr => ∃ i : Nat, i ≤ bn ∧ s6 = .int .i64 (i : Int) ∧ Hid (wr.heap[w.heap.size]? = some (funcO pa pn pc ba bn bc)) ∧ Hid (wr.heap[w.heap.size + 1]? = some (rsetO f)) ∧ Hid (wr.heap[w.heap.size + 1 + 1]? = some (rsetO (entTo (tsOf bs) f i 0))) ∧ Hid (Below w.heap.size w wr)) (fun s6 _ _ _ => bn - (intOf s6).toNat)
  case atStart => exact ⟨0, by omega, by go_num, HO, HI, HR, HB⟩
  case round =>
    obtain ⟨i, hi, rfl, HO1, HI1, HR1, HB1⟩ := hrel;clear HO HI HR HB hWs;have kf := HO1.out;have k1 : wr.cell? ⟨w.heap.size, 1, none⟩ = some (.slice ba bn bc) := by rw [cell_of_row _ _ _ _ _ _ kf]; rfl
    clear kf;by_cases hlt : i < bn
    · have hlt' : (i : Int) < (bn : Int) := by omega
      have hsz := lt_of_heap HR1.out
      go_wp2_with (first
        | (refine wpList_load_row (o := ⟨some 16, .load 25 _, _, _, _, _⟩) rfl 25 _ rfl w.heap.size rfl 25 _ (0, 0) _ HO1.out Tryz.underlying25 rfl size_func ?_)
        | (go_at_call 96
           refine (to17_any pa pn pc ba bn bc bs i wr (H.out.ext HB1.out) hlt).mono ?_;rintro e w1 ⟨v, rfl, ho, hb⟩;rw [toD_nx HG.out] at ho;obtain ⟨va, vc, rfl⟩ := ho.form;have HNX := Lib.hid (ho.mono (show w.heap.size + 1 + 1 + 1 ≤ wr.heap.size from hsz));have HO2 := Lib.hid (block_ext hb HO1.out);have HI2 := Lib.hid (block_ext hb HI1.out);have HR2 := Lib.hid (block_ext hb HR1.out);have HB2 := Lib.hid (ext_trans HB1.out hb)
           clear ho hb k1))
      have hnl : (intsN (nx (tsOf bs) i)).length = (nx (tsOf bs) i).length := by simp [intsN]
      have hnl2 : (nx (tsOf bs) i).length ≤ 2 := by simp only [nx, List.length_map]; exact toD_len _
      rw [hnl];rw [hnl] at HNX;clear hnl HO1 HI1 HR1 HB1
      go_loopw [8] (fun s8 wi => ∃ k : Nat, k ≤ (nx (tsOf bs) i).length ∧ s8 = .int .i64 (k : Int) ∧ (f i = true → k = 0) ∧ Hid (OwnI wi (w.heap.size + 1 + 1 + 1) (.slice va (nx (tsOf bs) i).length vc) (intsN (nx (tsOf bs) i))) ∧ Hid (wi.heap[w.heap.size]? = some (funcO pa pn pc ba bn bc)) ∧ Hid (wi.heap[w.heap.size + 1]? = some (rsetO f)) ∧ Hid (wi.heap[w.heap.size + 1 + 1]? = some (rsetO (entTo (tsOf bs) f i k))) ∧ Hid (Below w.heap.size w wi)) (fun s8 _ => (nx (tsOf bs) i).length - (intOf s8).toNat)
      case atStart => exact ⟨0, by omega, by go_num, fun _ => rfl, HNX, HO2, HI2, HR2, HB2⟩
      case round =>
        obtain ⟨k, hk, rfl, hfk, HN, HO3, HI3, HR3, HB3⟩ := hrel;clear HNX HO2 HI2 HR2 HB2;have hci := rset_cell HI3.out i (by omega);by_cases hkl : k < (nx (tsOf bs) i).length
        · have hkl' : (k : Int) < ((nx (tsOf bs) i).length : Int) := by omega
          cases hfi : f i with
          | true =>
            obtain rfl := hfk hfi;rw [hfi] at hci;have HE : Hid (entTo (tsOf bs) f i 0 = entTo (tsOf bs) f (i + 1) 0) := entTo_in _ _ _ hfi;clear hfi hfk;go_wp2
            go_roundw
            case rel => exact ⟨i + 1, by omega, by go_num, HO3, HI3, by rw [← HE.out]; exact HR3, HB3⟩
            case measure => simp [intOf]; omega
          | false =>
            rw [hfi] at hci;have hyx : (nx (tsOf bs) i).getD k 0 ∈ nx (tsOf bs) i := by rw [List.getD_eq_getElem?_getD, List.getElem?_eq_getElem hkl]; exact List.getElem_mem _
            have hyb := HX.out i _ hyx;have hy : (nx (tsOf bs) i).getD k 0 < 200 := by omega
            obtain ⟨b3, o4, rfl, hcy, _⟩ := HN.out.ints.2.2 k hkl;have hey : (intsN (nx (tsOf bs) i)).getD k 0 = (((nx (tsOf bs) i).getD k 0 : Nat) : Int) := by simp [intsN, List.getD_eq_getElem?_getD, hkl]
            rw [hey] at hcy;have hcs := rset_cell HI3.out _ hy;have hcr := rset_cell HR3.out _ hy;have hfr := rset_free HR3.out ((nx (tsOf bs) i).getD k 0);have HFI := Lib.hid hfi;clear hey hyx hfi hfk;cases hfy : f ((nx (tsOf bs) i).getD k 0) with
            | true =>
              rw [hfy] at hcs;have hgr := grown_setCell wr (w.heap.size + 1 + 1) ((nx (tsOf bs) i).getD k 0) (.bool true);have HR4 := Lib.hid (rset_to (b := true) HR3.out hy (entTo_put (tsOf bs) f i k hkl HFI.out hfy));have HO4 := Lib.hid (grown_row hgr HO3.out (by simp; omega));have HI4 := Lib.hid (grown_row hgr HI3.out (by simp));have HB4 := Lib.hid (HB3.out.setCell (p := ⟨w.heap.size + 1 + 1, (nx (tsOf bs) i).getD k 0, none⟩) (by simp; omega) (.bool true));have HN4 := Lib.hid (HN.out.kept hgr (.inr (by simp only [Value.ownBlock, ne_eq, Option.some.injEq]; have := (HN.out.1.lt b3 rfl).1; omega)));clear hgr hfy HN HO3 HI3 HR3 HB3;generalize (nx (tsOf bs) i).getD k 0 = y at *;go_wp2
              go_roundw
              case rel => exact ⟨k + 1, by omega, by go_num, fun h => absurd h (by simp), HN4, HO4, HI4, HR4, HB4⟩
              case measure => simp [intOf]; omega
            | false =>
              rw [hfy] at hcs;have HR4 : Hid (wr.heap[w.heap.size + 1 + 1]? = some (rsetO (entTo (tsOf bs) f i (k + 1)))) := by rw [Hid, ← entTo_skip (tsOf bs) f i k hkl hfy]; exact HR3.out
              clear hfy hcr;generalize (nx (tsOf bs) i).getD k 0 = y at *;go_wp2
              go_roundw
              case rel => exact ⟨k + 1, by omega, by go_num, fun h => absurd h (by simp), HN, HO3, HI3, HR4, HB3⟩
              case measure => simp [intOf]; omega
        · have hk2 : k = (nx (tsOf bs) i).length := by omega
          have HE : Hid (entTo (tsOf bs) f i k = entTo (tsOf bs) f (i + 1) 0) := entTo_next _ _ _ _ (by omega);have hkl' : ¬ (k : Int) < ((nx (tsOf bs) i).length : Int) := by omega
          clear hfk;go_wp2
          go_roundw
          case rel => exact ⟨i + 1, by omega, by go_num, HO3, HI3, by rw [← HE.out]; exact HR3, HB3⟩
          case measure => simp [intOf]; omega
    · obtain rfl : i = bn := by omega
      have HE : Hid (listS (entTo (tsOf bs) f i 0) = entriesS (tsOf bs) f) := by rw [Hid, ← HTL.out]; exact entTo_end HG.out f
      have hsz := lt_of_heap HR1.out
      go_wp2_with (first
        | (refine wpList_load_row (o := ⟨some 42, .load 107 _, _, _, _, _⟩) rfl 107 _ rfl (w.heap.size + 1 + 1) rfl 107 _ (0, 0) _ HR1.out Tryz.underlying107 rfl (by rw [setA_size]; exact size_rset) ?_)
        | (go_at_call 76
           refine (list17_any (entTo (tsOf bs) f i 0) wr).mono ?_;rintro e w1 ⟨v, rfl, ho, hb⟩;rw [HE.out] at ho;have HL := Lib.hid (ho.mono (show w.heap.size ≤ wr.heap.size from HB1.out.size));have HB2 := Lib.hid (ext_trans HB1.out hb)
           clear ho hb))
      go_ret
      exact ⟨_, rfl, HL.out, HB2.out⟩
end

section
open Go.RowKit
theorem index_rset (w : World) (f : Nat → Bool) (b : Nat) (hb : b < 200) : (Instr.index 107 (.agg (setA f)) (.int .i64 (b : Int))).run Tryz.prog w = .ok (.bool (f b)) w := by
  have hz : (Go.sizeOf 4).run Tryz.prog w = .ok 1 w := by kernel_rfl
  have hb2 : (0 : Int) ≤ (b : Int) ∧ (b : Int) < ((200 : Nat) : Int) := by omega
  have h1 := part_bool (setA f) b _ w (setA_at f b hb)
  simp only [Instr.index, asIntOf, Sem.run_bind, Sem.run_pure, Result.andThen_ok, run_underlying (w := w) Tryz.underlying107, if_pos hb2, hz]
  simpa using h1
theorem equal_rset (w : World) (f g : Nat → Bool) : (Op.equalIn 10000 107 (.agg (setA f)) (.agg (setA g))).run Tryz.prog w = .ok (eqS f g) w := by
  have hi : ∃ i, Tryz.prog.info? 4 = some i := Option.isSome_iff_exists.1 (by kernel_rfl)
  obtain ⟨i, hi⟩ := hi
  have h1 : Tryz.prog.cellsOf 4 = 1 := by kernel_rfl
  rw [run_equalIn_array w 9999 _ _ Tryz.underlying107 hi, h1]
  exact eqItems_bool w f g _ _ _ (fun i hi => ⟨setA_at f i (List.mem_range.1 hi), setA_at g i (List.mem_range.1 hi)⟩)
end

section
open Go.RowKit
def ptC (p : PartD) : List Value := .int .i64 p.kind :: ((setA p.s).toList ++ [.int .i64 p.entry])
theorem ptC_len (p : PartD) : (ptC p).length = 202 := by simp [ptC, setA_size]
theorem ptC_one (p : PartD) : ∀ v ∈ ptC p, v.oneCell' = true := by
  intro v hv
  rcases List.mem_cons.1 hv with rfl | hv
  · rfl
  rcases List.mem_append.1 hv with h | h
  · have := setA_all p.s;rw [Array.all_eq_true_iff_forall_mem] at this;exact this v (by simpa using h)
  · simp only [List.mem_cons, List.not_mem_nil, or_false] at h;subst h; rfl
theorem ptC_at (p : PartD) (k : Nat) : (ptC p)[k]? = if k = 0 then some (.int .i64 p.kind) else if k ≤ 200 then (setA p.s)[k - 1]? else if k = 201 then some (.int .i64 p.entry) else none := by
  cases k with
  | zero => rfl
  | succ k =>
    rw [ptC, List.getElem?_cons_succ, if_neg (by omega)];by_cases h : k < 200
    · rw [List.getElem?_append_left (by rw [Array.length_toList, setA_size]; exact h), if_pos (by omega)];simp
    · rw [List.getElem?_append_right (by rw [Array.length_toList, setA_size]; omega), Array.length_toList, setA_size, if_neg (by omega)];by_cases h2 : k = 200
      · subst h2; rfl
      · rw [if_neg (by omega), List.getElem?_eq_none (by simp; omega)]
abbrev ptV (p : PartD) : Value := .agg (ptC p).toArray
theorem size_pt : (Tryz.prog.info? 112).map (·.size) = some 202 := by kernel_rfl
theorem size_ptC (p : PartD) : (Tryz.prog.info? 112).map (·.size) = some (ptC p).length := by rw [ptC_len]; exact size_pt
theorem infoPt : (Tryz.prog.info? 112).map (fun i => (i.zero, i.size, i.bytes)) = some (some (.agg Tryz.zeroCells112), 202, 216) := by kernel_rfl
def PtsIn (W : World) (base : Nat) (v : Value) (L : List PartD) : Prop := OwnR 112 202 ptC W base v L
section
variable {W W' : World} {base g n c : Nat} {v : Value} {L : List PartD}
theorem PtsIn.ext (h : PtsIn W base v L) (hb : Below W.heap.size W W') : PtsIn W' base v L := OwnR.ext h hb
theorem PtsIn.mono {base' : Nat} (h : PtsIn W base v L) (hb : base' ≤ base) : PtsIn W base' v L := OwnR.mono h hb
theorem PtsIn.len (h : PtsIn W base (.slice (some ⟨g, 0, none⟩) n c) L) : L.length = n := by
  obtain ⟨_, _, e⟩ := OwnR.form h
  injection e with _ e _
  exact e.symm
theorem PtsIn.range (h : PtsIn W base (.slice (some ⟨g, 0, none⟩) n c) L) {k : Nat} (hk : k < n) : W.rangeAt g (k * 202) (ptC (L.getD k zPart)) := OwnR.range ptC_len h zPart (by rw [h.len]; exact hk)
theorem pt_range {B q : Nat} {p : PartD} (h : W.rangeAt B q (ptC p)) : W.cell? ⟨B, q, none⟩ = some (.int .i64 p.kind) ∧ W.rangeAt B (q + 1) (setA p.s).toList ∧ W.cell? ⟨B, q + 201, none⟩ = some (.int .i64 p.entry) ∧ ∀ k, k < 200 → W.cell? ⟨B, q + 1 + k, none⟩ = some (.bool (p.s k)) := by
  have key : ∀ k v, (ptC p)[k]? = some v → W.cell? ⟨B, q + k, none⟩ = some v := fun k v hk => h k v hk
  refine ⟨key 0 _ rfl, ?_, key 201 _ (by rw [ptC_at]; rfl), fun k hk => ?_⟩
  · intro k v hk;have hlt : k < 200 := by
      apply Classical.byContradiction;intro hn;rw [List.getElem?_eq_none (by rw [Array.length_toList, setA_size]; omega)] at hk;cases hk
    rw [show q + 1 + k = q + (k + 1) by omega];refine key (k + 1) v ?_;rw [ptC_at, if_neg (by omega), if_pos (by omega)];simpa using hk
  · rw [show q + 1 + k = q + (k + 1) by omega];refine key (k + 1) _ ?_;rw [ptC_at, if_neg (by omega), if_pos (by omega), Nat.add_sub_cancel];exact setA_at _ _ hk
end
theorem fill_pt (s : Nat → Bool) (kd e : Int) (cells : Array Value) (hc : cells.size = 202) :
    Instr.fill (fun i => #[(0, 1), (1, 200), (201, 1)][i]?) cells [(0, .int .i64 kd), (1, .agg (setA s)), (2, .int .i64 e)] = some (ptC ⟨s, kd, e⟩).toArray := by
  have s1 : (Value.agg (setA s)).cells = setA s := rfl
  have z1 : ∀ v : Value, #[v].zipIdx = #[(v, 0)] := fun v => rfl
  unfold Instr.fill
  simp only [List.getElem?_toArray, List.getElem?_cons_zero, Value.cells, List.size_toArray, List.length_cons, List.length_nil, hc]
  rw [if_neg (by simp)]
  simp only [z1, List.foldl_toArray, List.foldl_toArray', List.foldl_cons, List.foldl_nil, Nat.add_zero]
  obtain ⟨c0, hc0⟩ : ∃ c0, c0 = cells.setIfInBounds 0 (.int .i64 kd) := ⟨_, rfl⟩
  rw [← hc0]
  have hs0 : c0.size = 202 := by rw [hc0]; simp [hc]
  have h0 : c0[0]? = some (.int .i64 kd) := by rw [hc0, Array.getElem?_setIfInBounds]; simp [hc]
  clear hc0
  unfold Instr.fill
  simp only [List.getElem?_toArray, List.getElem?_cons_succ, List.getElem?_cons_zero, s1, setA_size, hs0]
  rw [if_neg (by simp)]
  have h1 := fun k => fold_at 1 (setA s).toList c0 k
  rw [show (setA s).toList.toArray = setA s by simp] at h1
  generalize (setA s).zipIdx.foldl (fun cs (x : Value × Nat) => cs.setIfInBounds (1 + x.2) x.1) c0 = c1 at *
  have hs1 : c1.size = 202 := by rw [(h1 0).1, hs0]
  have h1 := fun k => (h1 k).2
  unfold Instr.fill
  simp only [List.getElem?_toArray, List.getElem?_cons_succ, List.getElem?_cons_zero, Value.cells, List.size_toArray, List.length_cons, List.length_nil, hs1]
  rw [if_neg (by simp)]
  unfold Instr.fill
  congr 1
  apply Array.ext_getElem?
  intro k
  simp only [z1, List.foldl_toArray, List.foldl_toArray', List.foldl_cons, List.foldl_nil, Nat.add_zero, Array.getElem?_setIfInBounds, hs1, h1, Array.length_toList, setA_size, hs0, Array.getElem?_toList, List.getElem?_toArray, ptC_at]
  by_cases k1 : k = 201
  · subst k1; simp
  · by_cases k2 : k = 0
    · subst k2; simpa using h0
    · by_cases k3 : k ≤ 200
      · rw [if_neg (by omega), if_pos (by omega), if_neg (by omega), if_pos (by omega)]
      · rw [if_neg (by omega), if_neg (by omega), if_neg (by omega), if_neg (by omega), if_neg (by omega)];rw [Array.getElem?_eq_none (by omega)]
theorem built_pt (s : Nat → Bool) (kd e : Int) : Tryz.prog.built 112 [(0, .int .i64 kd), (1, .agg (setA s)), (2, .int .i64 e)] = some (ptC ⟨s, kd, e⟩).toArray := by
  have h := fill_pt s kd e Tryz.zeroCells112 (by kernel_rfl)
  refine Eq.trans ?_ h
  kernel_rfl
theorem run_build_pt (s : Nat → Bool) (kd e : Int) (w : World) : (Instr.build 112 #[(0, .int .i64 kd), (1, .agg (setA s)), (2, .int .i64 e)]).run Tryz.prog w = .ok (ptV ⟨s, kd, e⟩) w := run_build w _ _ _ (built_pt s kd e)
theorem op_rowPt {o : Oper} {a : Act} {w : World} {K : Act → World → Prop} {Q : Exit → Act → World → Prop} (x : Operand) (p : PartD) (ho : o.op = .buildSlice 104 1 #[(0, x)]) (hx : a.eval x = ptV p)
    (h : K (a.put o.dst (.slice (some ⟨w.heap.size, 0, none⟩) 1 1)) (w.alloc (.cells (ptC p).toArray 112))) : o.wp Tryz.prog a w K Q := by
  obtain ⟨ie, hie⟩ : ∃ i, Tryz.prog.info? 112 = some i := Option.isSome_iff_exists.1 (by kernel_rfl)
  have hs : ie.size = 202 := by have := size_pt; rw [hie] at this; simpa using this
  obtain ⟨z, hz⟩ : ∃ z, ie.zero = some z := by
    have : (Tryz.prog.info? 112).map (fun i => i.zero.isSome) = some true := by kernel_rfl
    rw [hie] at this;exact Option.isSome_iff_exists.1 (by simpa using this)
  refine wp_buildSlice _ 112 1 #[(0, x)] ho (ptC p).toArray ie z Tryz.underlying104 hie hz (by rw [hs]; omega) (by rw [hs]; omega) ?_ h
  simp only [List.map_toArray, List.map_cons, List.map_nil, hx]
  rw [hs]
  exact fill_one (ptC p) _ (ptC_len p) (by simp)
theorem wpList_pt {ops : Array Oper} {rest : List Oper} {o : Oper} {a : Act} {w : World} {Q : Exit → Act → World → Prop} (hgd : o.guard = none) (x y z : Operand) (s : Nat → Bool) (kd e : Int) (ho : o.op = .build 112 #[(0, x), (1, y), (2, z)])
    (hx : a.eval x = .int .i64 kd) (hy : a.eval y = .agg (setA s)) (hz : a.eval z = .int .i64 e) (h : wpList Tryz.prog ops Q rest (a.put o.dst (ptV ⟨s, kd, e⟩)) w) : wpList Tryz.prog ops Q (o :: rest) a w :=
  wpList_plain hgd fun K hK => by
    unfold Oper.wp execOp;simp only [ho, List.map_toArray, List.map_cons, List.map_nil, hx, hy, hz, Sem.run_bind, run_build_pt, Result.andThen_ok, Sem.run_pure];exact hK _ _ h
theorem wpList_rowPt {ops : Array Oper} {rest : List Oper} {o : Oper} {a : Act} {w : World} {Q : Exit → Act → World → Prop} (hgd : o.guard = none) (x : Operand) (p : PartD) (ho : o.op = .buildSlice 104 1 #[(0, x)]) (hx : a.eval x = ptV p)
    (h : wpList Tryz.prog ops Q rest (a.put o.dst (.slice (some ⟨w.heap.size, 0, none⟩) 1 1)) (w.alloc (.cells (ptC p).toArray 112))) : wpList Tryz.prog ops Q (o :: rest) a w :=
  wpList_plain hgd fun _ hK => op_rowPt x p ho hx (hK _ _ h)
end

section
open Go.RowKit
attribute [local go_sem] Oper.semAt_some wide_fn wide_depth wide_fnR wide_depthR
theorem rangeAt_ext {w w' : World} (hb : Below w.heap.size w w') {B q : Nat} {cs : List Value} (h : w.rangeAt B q cs) : w'.rangeAt B q cs := fun k v hk => cell_ext hb (h k v hk)
theorem in17_any (f g : Nat → Bool) (w : World) : Calls Tryz.prog 77 #[.agg (setA f), .agg (setA g)] w fun e w' => e = .returned (.bool (withinB f g)) ∧ Below w.heap.size w w' := by
  go_enter Tryz.func77, Tryz.ntmps77
  go_upto_region 1 with (fail)
  obtain ⟨W, hW⟩ : ∃ W, W = (w.alloc (rsetO f)).alloc (rsetO g) := ⟨_, rfl⟩
  rw [← hW]
  have h0 : W.heap[w.heap.size]? = some (rsetO f) := by rw [hW, Below.heap_alloc _ _ _ (by simp)]; exact heap_alloc_new _ _
  have h1 : W.heap[w.heap.size + 1]? = some (rsetO g) := by rw [hW, heap_at _ _ _ (by simp)]
  have hB : Below w.heap.size w W := by rw [hW]; exact (ext_alloc _ _).alloc (by simp) _
  have HH := Lib.hid (And.intro h0 (And.intro h1 hB))
  clear hW h0 h1 hB
  go_wp2
  go_loopw [5] (fun s5 wr => ∃ k : Nat, k ≤ 200 ∧ s5 = .int .i64 (k : Int) ∧ Hid (∀ i, i < k → f i = true → g i = true) ∧ Hid (wr = W)) (fun s5 _ => 200 - (intOf s5).toNat)
  case atStart => exact ⟨0, by omega, rfl, fun i hi => absurd hi (by omega), rfl⟩
  case round =>
    obtain ⟨k, hk, rfl, HR, HW⟩ := hrel;have H0 : Hid (wr.heap[w.heap.size]? = some (rsetO f)) := by rw [HW.out]; exact HH.out.1
    have H1 : Hid (wr.heap[w.heap.size + 1]? = some (rsetO g)) := by rw [HW.out]; exact HH.out.2.1
    have HB : Hid (Below w.heap.size w wr) := by rw [HW.out]; exact HH.out.2.2
    by_cases hlt : k < 200
    · have hlt' : (k : Int) < 200 := by omega
      have c0 := rset_cell H0.out k hlt;have c1 := rset_cell H1.out k hlt;obtain ⟨fb, hfb⟩ : ∃ b, b = f k := ⟨_, rfl⟩
      obtain ⟨gb, hgb⟩ : ∃ b, b = g k := ⟨_, rfl⟩
      rw [← hfb] at c0;rw [← hgb] at c1;have HFB := Lib.hid hfb;have HGB := Lib.hid hgb;clear hfb hgb;cases fb with
      | false =>
        have HN : Hid (∀ i, i < k + 1 → f i = true → g i = true) := fun i hi hf => by
          rcases Nat.lt_or_ge i k with h | h
          · exact HR.out i h hf
          · obtain rfl : i = k := by omega
            rw [← HFB.out] at hf; cases hf
        go_wp2
        go_roundw
        case rel => exact ⟨k + 1, by omega, by go_num, HN, HW⟩
        case measure => simp [intOf]; omega
      | true =>
        cases gb with
        | false =>
          have HE : Hid (withinB f g = false) := in_no hlt HFB.out.symm HGB.out.symm;go_wp2
          go_ret
          exact ⟨by rw [HE.out]; rfl, HB.out⟩
        | true =>
          have HN : Hid (∀ i, i < k + 1 → f i = true → g i = true) := fun i hi hf => by
            rcases Nat.lt_or_ge i k with h | h
            · exact HR.out i h hf
            · obtain rfl : i = k := by omega
              exact HGB.out.symm
          go_wp2
          go_roundw
          case rel => exact ⟨k + 1, by omega, by go_num, HN, HW⟩
          case measure => simp [intOf]; omega
    · obtain rfl : k = 200 := by omega
      have HE : Hid (withinB f g = decide (cntS f 200 < cntS g 200)) := by
        rw [Hid, in_end HR.out];have e : ∀ h : Nat → Bool, cntS h 200 = (listS h).length := fun _ => rfl;rw [e, e]
      clear HR;go_upto_region 6 with (fail)
      refine region_free 5 [some 19, some 20, some 21, some 22, some 23] (by kernel_rfl) (by kernel_rfl) (specB [.val (.agg (setA f)), .val (.int .i64 (cntS f 200 : Nat)), .val (.agg (setA g)), .val (.int .i64 (cntS g 200 : Nat)), .val (.bool (decide (cntS f 200 < cntS g 200)))]) (specB_mono ?_) ?_ ?_
      · intro k hk;simp only [List.mem_cons, List.not_mem_nil, or_false] at hk;rcases hk with rfl | rfl | rfl | rfl | rfl
        · exact trivial
        · exact trivial
        · exact trivial
        · exact trivial
        · exact trivial
      · intro i hi ν lo hi' w1 K hB hD hK;have hcase : i = 0 ∨ i = 1 ∨ i = 2 ∨ i = 3 ∨ i = 4 := by omega
        clear hi;rcases hcase with rfl | rfl | rfl | rfl | rfl
        · clear hD;refine wpOp_atK rfl rfl ?_;simp only [zA,zB,zC,zD,zE,zF,zJ,zK,zG,zH,zI] at hK ⊢;refine wp_load_row 107 _ rfl w.heap.size rfl 107 _ (0, 0) _ (block_ext hB H0.out) Tryz.underlying107 rfl (by rw [setA_size]; exact size_rset) ?_;exact hK _ _ (Below.refl _ _) rfl
        · have e0 := hD 0 (by kernel_rfl)
          replace e0 : ν 0 = (.agg (setA f)) := e0
          clear hD;refine wpOp_atK rfl rfl ?_;simp only [zA,zB,zC,zD,zE,zF,zJ,zK,zG,zH,zI, e0] at hK ⊢;go_simp;refine (many17_any f w1).mono ?_;rintro e w3 ⟨rfl, hb3⟩;exact hK _ _ hb3 rfl
        · clear hD;refine wpOp_atK rfl rfl ?_;simp only [zA,zB,zC,zD,zE,zF,zJ,zK,zG,zH,zI] at hK ⊢;refine wp_load_row 107 _ rfl (w.heap.size + 1) rfl 107 _ (0, 0) _ (block_ext hB H1.out) Tryz.underlying107 rfl (by rw [setA_size]; exact size_rset) ?_;exact hK _ _ (Below.refl _ _) rfl
        · have e1 := hD 1 (by kernel_rfl)
          replace e1 : ν 1 = (.int .i64 (cntS f 200 : Nat)) := e1
          have e2 := hD 2 (by kernel_rfl)
          replace e2 : ν 2 = (.agg (setA g)) := e2
          clear hD;refine wpOp_atK rfl rfl ?_;simp only [zA,zB,zC,zD,zE,zF,zJ,zK,zG,zH,zI, e1, e2] at hK ⊢;go_simp;refine (many17_any g w1).mono ?_;rintro e w3 ⟨rfl, hb3⟩;exact hK _ _ hb3 rfl
        · have e1 := hD 1 (by kernel_rfl)
          replace e1 : ν 1 = (.int .i64 (cntS f 200 : Nat)) := e1
          have e3 := hD 3 (by kernel_rfl)
          replace e3 : ν 3 = (.int .i64 (cntS g 200 : Nat)) := e3
          clear hD;refine wpOp_atK rfl rfl ?_;simp only [zA,zB,zC,zD,zE,zF,zJ,zK,zG,zH,zI, e1, e3] at hK ⊢;go_simp;exact hK _ _ (Below.refl _ _) rfl
      · intro ν lo hi w1 hB hS hI hD;have e0 : ν 0 = (.agg (setA f)) := hS 0 (by omega);have e1 : ν 1 = (.int .i64 (cntS f 200 : Nat)) := hS 1 (by omega);have e2 : ν 2 = (.agg (setA g)) := hS 2 (by omega);have e3 : ν 3 = (.int .i64 (cntS g 200 : Nat)) := hS 3 (by omega);have e4 : ν 4 = (.bool (decide (cntS f 200 < cntS g 200))) := hS 4 (by omega);clear hS;simp only [List.drop_succ_cons, List.drop_zero, zA,zB,zC,zD,zE,zF,zJ,zK,zG,zH,zI, e0, e1, e2, e3, e4];have HBE := Lib.hid (ext_trans HB.out hB);clear hI hD hB e0 e1 e2 e3 e4;go_wp2
        go_ret
        exact ⟨by rw [HE.out]; rfl, HBE.out⟩
end

section
open Go.RowKit
attribute [local go_sem] Oper.semAt_some wide_fn wide_depth wide_fnR wide_depthR
theorem eql_rset (w : World) (f g : Nat → Bool) : (binOp .eql 107 (.agg (setA f)) (.agg (setA g))).run Tryz.prog w = .ok (.bool (eqS f g)) w := by
  rw [run_eql_struct, equal_rset]
  rfl
theorem around_stepC {ts : List TermD} {L : List PartD} (hl : ts.length ≤ 200) (P : PartsOK ts L) {i k : Nat} (hi : i < L.length) (hk : k < L.length) :
    aroundP (L.take (i + 1)) (L.getD k zPart) = aroundP (L.take i) (L.getD k zPart) + (if withinB (L.getD k zPart).s (L.getD i zPart).s then 1 else 0) := by
  rw [take_stepP L hi, aroundP, aroundP, List.filter_append, List.length_append]
  generalize L.getD k zPart = x
  generalize L.getD i zPart = y
  cases hw : withinB x.s y.s <;> simp [hw]
theorem depth17_any (a : Option Addr) (n c base : Nat) (ts : List TermD) (hl : ts.length ≤ 200) (L : List PartD) (P : PartsOK ts L) (k : Nat) (hk : k < n) (w : World) (h : PtsIn w base (.slice a n c) L) (hn : n ≤ 1000) :
    Calls Tryz.prog 75 #[.slice a n c, .int .i64 (k : Int)] w fun e w' => e = .returned (.int .i64 (aroundP L (L.getD k zPart) : Nat)) ∧ Below w.heap.size w w' := by
  have hlen : L.length = n := by
    obtain ⟨_, _, e⟩ := OwnR.form h;injection e with _ e _;exact e.symm
  have hform : ∃ g, a = some ⟨g, 0, none⟩ := by
    obtain ⟨g, c', e⟩ := own_form h.1 (by omega);injection e with e _ _;exact ⟨g, e⟩
  obtain ⟨gg, rfl⟩ := hform
  have HL := Lib.hid h
  have HP := Lib.hid P
  have HLN := Lib.hid hlen
  clear h P hlen
  go_enter Tryz.func75, Tryz.ntmps75
  go_wp2
  go_loopw [5, 6] (fun s5 s6 wr => ∃ j : Nat, j ≤ n ∧ s6 = .int .i64 (j : Int) ∧ s5 = .int .i64 (aroundP (L.take j) (L.getD k zPart) : Nat) ∧ Hid (Below w.heap.size w wr)) (fun _ s6 _ => n - (intOf s6).toNat)
  case atStart => exact ⟨0, by omega, rfl, by simp [aroundP], Below.refl _ _⟩
  case round =>
    obtain ⟨j, hj, rfl, rfl, HB⟩ := hrel;by_cases hlt : j < n
    · have hlt' : (j : Int) < (n : Int) := by omega
      have HLr : Hid (PtsIn wr base (.slice (some ⟨gg, 0, none⟩) n c) L) := PtsIn.ext HL.out HB.out;obtain ⟨ck, rk, _, _⟩ := pt_range (HLr.out.range hk);obtain ⟨cj, rj, _, _⟩ := pt_range (HLr.out.range hlt);have hst := around_stepC hl HP.out (i := j) (k := k) (by rw [HLN.out]; exact hlt) (by rw [HLN.out]; exact hk);have hsm := fun h => eq_same hl HP.out (i := j) (k := k) (by rw [HLN.out]; exact hlt) (by rw [HLN.out]; exact hk) h;have hcnt : aroundP (L.take j) (L.getD k zPart) ≤ 1000 := by
        have h1 : aroundP (L.take j) (L.getD k zPart) ≤ (L.take j).length := List.length_filter_le _ _;have h2 := List.length_take_le j L;omega
      obtain ⟨pj, hpj⟩ : ∃ p, p = L.getD j zPart := ⟨_, rfl⟩
      rw [← hpj] at cj rj hst hsm;obtain ⟨m, hm⟩ : ∃ m, m = aroundP (L.take j) (L.getD k zPart) := ⟨_, rfl⟩
      rw [← hm] at hst hcnt ⊢;obtain ⟨pk, hpk⟩ : ∃ p, p = L.getD k zPart := ⟨_, rfl⟩
      have HPK := Lib.hid hpk;have HPJ := Lib.hid hpj;rw [← hpk] at ck rk hst hsm;have HRK := Lib.hid rk;have HRJ := Lib.hid rj;clear hm hpk hpj rk rj HLr;obtain ⟨V, hV⟩ : ∃ V, V = wr := ⟨_, rfl⟩
      rw [← hV] at ck cj HRK HRJ HB ⊢;clear hV;have q1 : ∀ n' : ExtW V, n'.val.cell? ⟨gg, j * 202, none⟩ = some (.int .i64 pj.kind) := ExtW.cell cj;have q2 : ∀ n' : ExtW V, n'.val.cell? ⟨gg, k * 202, none⟩ = some (.int .i64 pk.kind) := ExtW.cell ck;have q3 : ∀ w', (∃ n' : ExtW V, w' = n'.val) → w'.rangeAt gg (j * 202 + 1) (setA pj.s).toList := fun w' ⟨n', e⟩ => by rw [e]; exact rangeAt_ext n'.ext HRJ.out
      have q4 : ∀ w', (∃ n' : ExtW V, w' = n'.val) → w'.rangeAt gg (k * 202 + 1) (setA pk.s).toList := fun w' ⟨n', e⟩ => by rw [e]; exact rangeAt_ext n'.ext HRK.out
      have Q3 := Lib.hid q3;have Q4 := Lib.hid q4;clear q3 q4 cj ck HRK HRJ;have HNE : Nonempty (ExtW V) := ⟨⟨V, Below.refl _ _⟩⟩
      have hk' : (k : Int) < (n : Int) := by omega
      have HIN : Hid (∀ n' : ExtW V, Calls Tryz.prog 77 #[.agg (setA pk.s), .agg (setA pj.s)] n'.val fun e w'' => e = .returned (.bool (withinB pk.s pj.s)) ∧ ∃ m : ExtW V, w'' = m.val) := fun n' => quiet_ext (in17_any pk.s pj.s n'.val);obtain ⟨wi, hwi⟩ : ∃ b, b = withinB pk.s pj.s := ⟨_, rfl⟩
      rw [← hwi] at HIN hst;obtain ⟨qe, hqe⟩ : ∃ b, b = eqS pj.s pk.s := ⟨_, rfl⟩
      have heq : ∀ w9, (binOp .eql 107 (.agg (setA pj.s)) (.agg (setA pk.s))).run Tryz.prog w9 = .ok (.bool qe) w9 := fun w9 => by rw [hqe]; exact eql_rset w9 _ _
      clear hwi;go_upto_region 5 with (fail)
      cases wi with
      | true =>
        have HST := Lib.hid hst;clear hst hsm hqe heq;refine region_ext (by kernel_rfl) (by kernel_rfl) ?_
        repeat (first
          | go_big_quiet_skip
          | (refine wpQuiet_load_mid (o := ⟨some 17, .load 107 _, _, _, _, _⟩) (by rfl) 107 _ rfl gg (k * 202 + 1) rfl (setA pk.s).toList _ Q4.out Tryz.underlying107 rfl (by rw [Array.length_toList, setA_size]; exact size_rset) ?_; simp only [zJ,zG,zH,zI, Array.toArray_toList])
          | (refine wpQuiet_load_mid (o := ⟨some 22, .load 107 _, _, _, _, _⟩) (by rfl) 107 _ rfl gg (j * 202 + 1) rfl (setA pj.s).toList _ Q3.out Tryz.underlying107 rfl (by rw [Array.length_toList, setA_size]; exact size_rset) ?_; simp only [zJ,zG,zH,zI, Array.toArray_toList])
          | go_big_quiet_step (first | (go_at_call 77; exact HIN.out _)))
        refine wpQuiet_nil ?_;rintro _ ⟨n', rfl⟩;have HB8 := Lib.hid (ext_trans HB.out n'.ext);clear q1 q2 HIN;go_wp2
        go_roundw
        case rel => exact ⟨j + 1, by omega, by go_num, by rw [← HPK.out, HST.out]; simp, HB8⟩
        case measure => simp [intOf]; omega
      | false =>
        have HST := Lib.hid hst;cases qe with
        | false =>
          clear hst hsm hqe;refine region_ext (by kernel_rfl) (by kernel_rfl) ?_
          repeat (first
            | go_big_quiet_skip
            | (refine wpQuiet_load_mid (o := ⟨some 17, .load 107 _, _, _, _, _⟩) (by rfl) 107 _ rfl gg (k * 202 + 1) rfl (setA pk.s).toList _ Q4.out Tryz.underlying107 rfl (by rw [Array.length_toList, setA_size]; exact size_rset) ?_; simp only [zJ,zG,zH,zI, Array.toArray_toList])
            | (refine wpQuiet_load_mid (o := ⟨some 22, .load 107 _, _, _, _, _⟩) (by rfl) 107 _ rfl gg (j * 202 + 1) rfl (setA pj.s).toList _ Q3.out Tryz.underlying107 rfl (by rw [Array.length_toList, setA_size]; exact size_rset) ?_; simp only [zJ,zG,zH,zI, Array.toArray_toList])
            | (refine wpQuiet_load_mid (o := ⟨some 29, .load 107 _, _, _, _, _⟩) (by rfl) 107 _ rfl gg (j * 202 + 1) rfl (setA pj.s).toList _ Q3.out Tryz.underlying107 rfl (by rw [Array.length_toList, setA_size]; exact size_rset) ?_; simp only [zJ,zG,zH,zI, Array.toArray_toList])
            | (refine wpQuiet_load_mid (o := ⟨some 34, .load 107 _, _, _, _, _⟩) (by rfl) 107 _ rfl gg (k * 202 + 1) rfl (setA pk.s).toList _ Q4.out Tryz.underlying107 rfl (by rw [Array.length_toList, setA_size]; exact size_rset) ?_; simp only [zJ,zG,zH,zI, Array.toArray_toList])
            | go_big_quiet_step (first | (go_at_call 77; exact HIN.out _)))
          refine wpQuiet_nil ?_;rintro _ ⟨n', rfl⟩;have HB8 := Lib.hid (ext_trans HB.out n'.ext);clear q1 q2 HIN heq;go_wp2
          go_roundw
          case rel => exact ⟨j + 1, by omega, by go_num, by rw [← HPK.out, HST.out]; simp, HB8⟩
          case measure => simp [intOf]; omega
        | true =>
          obtain rfl := hsm hqe.symm;obtain rfl : pj = pk := by rw [HPJ.out, HPK.out]
          clear hst hsm hqe;obtain ⟨kd, hkd⟩ : ∃ d, d = pj.kind := ⟨_, rfl⟩
          rw [← hkd] at q1 q2;clear hkd;by_cases h4 : kd = 4
          · have d4 : (kd == 4) = true := by simpa using h4
            have d5 : (kd != 4) = false := by simpa using h4
            clear h4;refine region_ext (by kernel_rfl) (by kernel_rfl) ?_
            repeat (first
              | go_big_quiet_skip
              | (refine wpQuiet_load_mid (by rfl) 107 _ rfl gg (j * 202 + 1) rfl (setA pj.s).toList _ Q3.out Tryz.underlying107 rfl (by rw [Array.length_toList, setA_size]; exact size_rset) ?_; simp only [zJ,zG,zH,zI, Array.toArray_toList])
              | go_big_quiet_step (first | (go_at_call 77; exact HIN.out _)))
            refine wpQuiet_nil ?_;rintro _ ⟨n', rfl⟩;have HB8 := Lib.hid (ext_trans HB.out n'.ext);clear q1 q2 HIN heq;go_wp2
            go_roundw
            case rel => exact ⟨j + 1, by omega, by go_num, by rw [← HPK.out, HST.out]; simp, HB8⟩
            case measure => simp [intOf]; omega
          · have d4 : (kd == 4) = false := by simpa using h4
            refine region_ext (by kernel_rfl) (by kernel_rfl) ?_
            repeat (first
              | go_big_quiet_skip
              | (refine wpQuiet_load_mid (by rfl) 107 _ rfl gg (j * 202 + 1) rfl (setA pj.s).toList _ Q3.out Tryz.underlying107 rfl (by rw [Array.length_toList, setA_size]; exact size_rset) ?_; simp only [zJ,zG,zH,zI, Array.toArray_toList])
              | go_big_quiet_step (first | (go_at_call 77; exact HIN.out _)))
            refine wpQuiet_nil ?_;rintro _ ⟨n', rfl⟩;have HB8 := Lib.hid (ext_trans HB.out n'.ext);clear q1 q2 HIN heq;go_wp2
            go_roundw
            case rel => exact ⟨j + 1, by omega, by go_num, by rw [← HPK.out, HST.out]; simp, HB8⟩
            case measure => simp [intOf]; omega
    · obtain rfl : j = n := by omega
      have HE : Hid (L.take j = L) := by rw [Hid, ← HLN.out]; exact List.take_length
      rw [HE.out];go_wp2
      go_ret
      exact ⟨rfl, HB.out⟩
end
end Go.Proofs.YtblhmdhfhaencaaGreat
