/-
  EdgeLeaves: does a row leave, and enter, just what it does?
-/
import Derived.Test.YtblhmdhfhaencaaEM
import Derived.Test.YtblhmdhfhaencaaEX
import Derived.Test.YtblhmdhfhaencaaEZ
namespace Go.Proofs.Ytblhmdhfhaencaa
set_option linter.unusedSimpArgs false
set_option linter.unusedVariables false
open Go.RowKit
attribute [local go_sem] Oper.semAt_some wide_fn wide_depth wide_fnR wide_depthR

abbrev rowV (r : RowD) (lv en : Value) : Value := .agg #[.int .i64 r.e.fr, .int .i64 r.e.arm, .int .i64 r.e.to, lv, en]
abbrev rowO (r : RowD) (lv en : Value) : Obj := .cells #[.int .i64 r.e.fr, .int .i64 r.e.arm, .int .i64 r.e.to, lv, en] 41 (0, 0)
structure CrossOK (l : List TileD) (r : RowD) : Prop where
  at_ : ∀ k, k < l.length → (r.lv.contains (k : Int) = ((allL l k).contains r.e.fr && !(allL l k).contains r.e.to)) ∧ (r.en.contains (k : Int) = ((allL l k).contains r.e.to && !(allL l k).contains r.e.fr))
  lvs : ∀ i, 1 ≤ i → i < r.lv.length → 0 ≤ r.lv.getD (i - 1) 0 ∧ r.lv.getD (i - 1) 0 < l.length ∧ parL l (r.lv.getD (i - 1) 0).toNat = r.lv.getD i 0
  ens : ∀ i, 1 ≤ i → i < r.en.length → 0 ≤ r.en.getD i 0 ∧ r.en.getD i 0 < l.length ∧ parL l (r.en.getD i 0).toNat = r.en.getD (i - 1) 0
  some : 0 < r.lv.length + r.en.length
set_option maxRecDepth 100000 in
set_option maxHeartbeats 4000000 in
theorem crosses_any (a : Option Addr) (n c : Nat) (ls : List TileR) (w : World) (ht : TilesOK w a n ls) (hT : totL (tdOf ls) ≤ 1000000) (r : RowD) (la : Option Addr) (ln lc : Nat) (ea : Option Addr) (en ec : Nat)
    (hl : Ints w la ln r.lv) (he : Ints w ea en r.en) (hC : CrossOK (tdOf ls) r) (hfr : I64 r.e.fr ∧ I64 r.e.to) :
    Calls Try.prog 14 #[.slice a n c, rowV r (.slice la ln lc) (.slice ea en ec)] w fun e w' => e = .returned (.bool true) ∧ Below w.heap.size w w' := by
  have hn := ht.1.2.1
  have hlnM := hl.2.1
  have henM := he.2.1
  have HLL : Hid ((tdOf ls).length = n) := by rw [Hid, tdOf_len, ht.1.1]
  have HT := Lib.hid ht
  have HTOT := Lib.hid hT
  have HLV := Lib.hid hl
  have HEN := Lib.hid he
  have HC := Lib.hid hC
  clear ht hT hl he hC
  obtain ⟨⟨fr, arm, tt⟩, lv, ev⟩ := r
  go_enter Try.func14, Try.ntmps14
  go_upto_region 1 with (fail)
  obtain ⟨W, hW⟩ : ∃ W, W = w.alloc (rowO ⟨⟨fr, arm, tt⟩, lv, ev⟩ (.slice la ln lc) (.slice ea en ec)) := ⟨_, rfl⟩
  rw [← hW]
  have hk0 : W.heap[w.heap.size]? = some (rowO ⟨⟨fr, arm, tt⟩, lv, ev⟩ (.slice la ln lc) (.slice ea en ec)) := by rw [hW]; exact heap_alloc_new _ _
  have hB : Below w.heap.size w W := by rw [hW]; exact ext_alloc _ _
  have HK := Lib.hid hk0
  have HB := Lib.hid hB
  clear hW hk0 hB
  go_wp2
  go_loopw [5] (fun i wr => ∃ k : Nat, k ≤ n ∧ i = .int .i64 k ∧ Hid (Below W.heap.size W wr)) (fun i _ => n - (intOf i).toNat)
  case atStart => exact ⟨0, by omega, rfl, Below.refl _ _⟩
  case round =>
    obtain ⟨k, hk, rfl, HBr⟩ := hrel
    by_cases hlt : k < n
    · have HCk := Lib.hid (HC.out.at_ k (by rw [HLL.out]; exact hlt))
      go_upto_region 5 with (
        (go_at_call 22
         refine (all_any a n c ls (k : Int) wr (HT.out.ext (ext_trans HB.out HBr.out)) (by unfold I64; omega) HTOT.out).mono ?_
         rintro e w3 ⟨v, rfl, ho, hb3⟩
         obtain ⟨al, cl, rfl⟩ := ho.form
         have HO := Lib.hid ho.ints
         have HB3 := Lib.hid (ext_trans HBr.out hb3)
         clear ho hb3))
      generalize allL (tdOf ls) (k : Int) = xs at *
      obtain ⟨hc1, hc2⟩ := HCk.out
      clear HCk
      generalize e1 : xs.contains fr = b1 at *
      generalize e2 : xs.contains tt = b2 at *
      have HA1 : Hid (∀ n' : ExtW w3, Calls Try.prog 41 #[.slice al xs.length cl, .int .i64 fr] n'.val fun e w'' => e = .returned (.bool b1) ∧ ∃ m : ExtW w3, w'' = m.val) := fun n' =>
        (among_any al xs.length cl xs fr n'.val (HO.out.ext n'.ext)).mono fun e w'' h => ⟨by rw [h.1, e1], n', h.2.symm⟩
      have HA2 : Hid (∀ n' : ExtW w3, Calls Try.prog 41 #[.slice al xs.length cl, .int .i64 tt] n'.val fun e w'' => e = .returned (.bool b2) ∧ ∃ m : ExtW w3, w'' = m.val) := fun n' =>
        (among_any al xs.length cl xs tt n'.val (HO.out.ext n'.ext)).mono fun e w'' h => ⟨by rw [h.1, e2], n', h.2.symm⟩
      have kf := block_ext HB3.out HK.out
      have q0 : ∀ n' : ExtW w3, n'.val.cell? ⟨w.heap.size, 0, none⟩ = some (.int .i64 fr) := ExtW.cell (by rw [cell_of_row _ _ _ _ _ _ kf]; rfl)
      have q2 : ∀ n' : ExtW w3, n'.val.cell? ⟨w.heap.size, 2, none⟩ = some (.int .i64 tt) := ExtW.cell (by rw [cell_of_row _ _ _ _ _ _ kf]; rfl)
      have HNE : Nonempty (ExtW w3) := ⟨⟨w3, Below.refl _ _⟩⟩
      clear kf
      go_wp2
      refine region_ext (by kernel_rfl) (by kernel_rfl) ?_
      repeat (first
        | go_big_quiet_skip
        | go_big_quiet_step (first
          | (go_at_call 41; (first | (with_reducible exact HA1.out _) | (with_reducible exact HA2.out _)))))
      refine wpQuiet_nil ?_
      intro _ hw'
      obtain ⟨n', rfl⟩ := hw'
      obtain ⟨W4, hW4⟩ : ∃ W4, W4 = n'.val := ⟨_, rfl⟩
      have HB4 : Hid (Below W.heap.size W W4) := by rw [Hid, hW4]; exact ext_trans HB3.out n'.ext
      rw [← hW4]
      clear hW4 n' HA1 HA2 q0 q2
      have kf := block_ext HB4.out HK.out
      have c3 : W4.cell? ⟨w.heap.size, 3, none⟩ = some (.slice la ln lc) := by rw [cell_of_row _ _ _ _ _ _ kf]; rfl
      have c4 : W4.cell? ⟨w.heap.size, 4, none⟩ = some (.slice ea en ec) := by rw [cell_of_row _ _ _ _ _ _ kf]; rfl
      have HA3 := Lib.hid (among_any la ln lc lv (k : Int) W4 (HLV.out.ext (ext_trans HB.out HB4.out)))
      have HA4 := Lib.hid (among_any ea en ec ev (k : Int) W4 (HEN.out.ext (ext_trans HB.out HB4.out)))
      rw [hc1] at HA3
      rw [hc2] at HA4
      clear kf hc1 hc2 e1 e2
      cases b1 <;> cases b2
      all_goals
        simp only [Bool.not_true, Bool.not_false, Bool.and_true, Bool.and_false, Bool.true_and, Bool.false_and] at HA3 HA4
        go_wp2_with (first
          | (go_at_call 41
             first
             | (with_reducible refine HA4.out.mono ?_
                rintro e w5 ⟨rfl, rfl⟩)
             | (with_reducible refine HA3.out.mono ?_
                rintro e w5 ⟨rfl, rfl⟩)))
        go_roundw
        case rel => exact ⟨k + 1, by omega, by go_num, HB4⟩
        case measure => simp [intOf]; omega
    · obtain rfl : k = n := by omega
      have kf := block_ext HBr.out HK.out
      have c3 : wr.cell? ⟨w.heap.size, 3, none⟩ = some (.slice la ln lc) := by rw [cell_of_row _ _ _ _ _ _ kf]; rfl
      have HTw := Lib.hid (HT.out.ext (ext_trans HB.out HBr.out))
      have HLw := Lib.hid (HLV.out.ext (ext_trans HB.out HBr.out))
      have HEw := Lib.hid (HEN.out.ext (ext_trans HB.out HBr.out))
      have HKw := Lib.hid kf
      have HLVL : Hid (lv.length = ln) := HLV.out.1
      have HENL : Hid (ev.length = en) := HEN.out.1
      have HBw := Lib.hid (ext_trans HB.out HBr.out)
      clear kf HK HBr HB HT HLV HEN
      obtain ⟨wo, rfl⟩ : ∃ wo : World, wo = wr := ⟨_, rfl⟩
      go_wp2
      go_loopw [9] (fun i wi => ∃ j q : Nat, i = .int .i64 ((j : Int) + 1) ∧ wi = wo.drewN q) (fun i _ => ln - (intOf i).toNat)
      case atStart => exact ⟨0, 0, rfl, rfl⟩
      case round =>
        obtain ⟨j, q, rfl, rfl⟩ := hrel
        by_cases hjl : j + 1 < ln
        · obtain ⟨hx0, hx1, hxp⟩ := HC.out.lvs (j + 1) (by omega) (by show j + 1 < lv.length; rw [HLVL.out]; exact hjl)
          simp only [Nat.add_sub_cancel] at hx0 hx1 hxp
          rw [HLL.out] at hx1
          obtain ⟨b1, o1, e1, ca, _⟩ := HLw.out.2.2 j (by omega)
          obtain ⟨b2, o2, e2, cb, _⟩ := HLw.out.2.2 (j + 1) hjl
          have e3 := e1.symm.trans e2
          injection e3 with e3
          injection e3 with e3 e4
          subst e3 e4
          obtain ⟨m, hm⟩ : ∃ m : Nat, lv.getD j 0 = m := ⟨(lv.getD j 0).toNat, by omega⟩
          rw [hm] at ca hx0 hx1 hxp
          rw [Int.toNat_natCast] at hxp
          obtain ⟨t, b3, o3, hlk, _, e5, _, cp, _⟩ := HTw.out.cells (show m < k by omega)
          have htd : parL (tdOf ls) m = t.d.parent := by rw [parL, tdOf_at ls m t hlk]
          rw [← htd, hxp] at cp
          subst e1 e5
          clear htd hlk hxp hm e2
          generalize lv.getD (j + 1) 0 = y at *
          have hj1 : (j : Int) + 1 < (ln : Int) := by omega
          go_wp2
          go_quiet (fail)
          go_wp2
          go_roundw
          case rel => exact ⟨j + 1, _, by go_num, rfl⟩
          case measure => simp [intOf]; omega
        · have kf := HKw.out
          have c4 : (wo.drewN q).cell? ⟨w.heap.size, 4, none⟩ = some (.slice ea en ec) := by show wo.cell? _ = _; rw [cell_of_row _ _ _ _ _ _ kf]; rfl
          clear kf
          have hj1 : ¬ ((j : Int) + 1 < (ln : Int)) := by omega
          go_wp2
          go_loopw [10] (fun i wi => ∃ j q : Nat, i = .int .i64 ((j : Int) + 1) ∧ wi = wo.drewN q) (fun i _ => en - (intOf i).toNat)
          case atStart => exact ⟨0, q, rfl, rfl⟩
          case round =>
            obtain ⟨j2, q2, rfl, rfl⟩ := hrel
            have c4 : wo.cell? ⟨w.heap.size, 4, none⟩ = some (.slice ea en ec) := by have kf := HKw.out; rw [cell_of_row _ _ _ _ _ _ kf]; rfl
            by_cases hjl : j2 + 1 < en
            · obtain ⟨hx0, hx1, hxp⟩ := HC.out.ens (j2 + 1) (by omega) (by show j2 + 1 < ev.length; rw [HENL.out]; exact hjl)
              simp only [Nat.add_sub_cancel] at hx0 hx1 hxp
              rw [HLL.out] at hx1
              obtain ⟨b1, o1, e1, ca, _⟩ := HEw.out.2.2 (j2 + 1) hjl
              obtain ⟨b2, o2, e2, cb, _⟩ := HEw.out.2.2 j2 (by omega)
              have e3 := e1.symm.trans e2
              injection e3 with e3
              injection e3 with e3 e4
              subst e3 e4
              obtain ⟨m, hm⟩ : ∃ m : Nat, ev.getD (j2 + 1) 0 = m := ⟨(ev.getD (j2 + 1) 0).toNat, by omega⟩
              rw [hm] at ca hx0 hx1 hxp
              rw [Int.toNat_natCast] at hxp
              obtain ⟨t, b3, o3, hlk, _, e5, _, cp, _⟩ := HTw.out.cells (show m < k by omega)
              have htd : parL (tdOf ls) m = t.d.parent := by rw [parL, tdOf_at ls m t hlk]
              rw [← htd, hxp] at cp
              subst e1 e5
              clear htd hlk hxp hm e2 hj1
              generalize ev.getD j2 0 = y at *
              have hj1 : (j2 : Int) + 1 < (en : Int) := by omega
              go_wp2
              go_quiet (fail)
              go_wp2
              go_roundw
              case rel => exact ⟨j2 + 1, _, by go_num, rfl⟩
              case measure => simp [intOf]; omega
            · have kf := HKw.out
              have c5 : (wo.drewN q2).cell? ⟨w.heap.size, 3, none⟩ = some (.slice la ln lc) := by show wo.cell? _ = _; rw [cell_of_row _ _ _ _ _ _ kf]; rfl
              have c6 : (wo.drewN q2).cell? ⟨w.heap.size, 4, none⟩ = some (.slice ea en ec) := by show wo.cell? _ = _; rw [cell_of_row _ _ _ _ _ _ kf]; rfl
              have hs := HC.out.some
              simp only at hs
              rw [HLVL.out, HENL.out] at hs
              have hs2 : (0 : Int) < (ln : Int) + (en : Int) := by omega
              clear kf hj1 hs
              have hj1 : ¬ ((j2 : Int) + 1 < (en : Int)) := by omega
              go_wp2
              go_ret
              exact ⟨rfl, ext_drewN HBw.out _⟩


theorem rowsTo_append (l : List TileD) (ask : EdgeD → Bool) (d d' : List EdgeD) : rowsTo l ask (d ++ d') = rowsTo l ask d ++ rowsTo l ask d' := by
  simp [rowsTo, List.filter_append]
theorem rows_at {l : List TileD} {ask : EdgeD → Bool} {d : List EdgeD} {k : Nat} {x : EdgeD} (hx : d[k]? = some x) (hb : betwB l ask x = true) : (rowsTo l ask d)[(rowsTo l ask (d.take k)).length]? = some (rowOf l x) := by
  obtain ⟨hk, e⟩ := List.getElem?_eq_some_iff.1 hx
  have h1 : d = d.take k ++ ([x] ++ d.drop (k + 1)) := by
    rw [List.singleton_append, ← e, ← List.drop_eq_getElem_cons hk, List.take_append_drop]
  have h2 : rowsTo l ask [x] = [rowOf l x] := by
    have := rowsTo_step l ask [] x
    rw [hb] at this
    simpa [rowsTo] using this
  have h3 : rowsTo l ask d = rowsTo l ask (d.take k) ++ ([rowOf l x] ++ rowsTo l ask (d.drop (k + 1))) := by
    rw [← h2, ← rowsTo_append, ← rowsTo_append, ← h1]
  rw [h3, List.getElem?_append_right (by omega), Nat.sub_self]
  rfl
theorem rows_len {l : List TileD} {ask : EdgeD → Bool} {d : List EdgeD} {k : Nat} {x : EdgeD} (hx : d[k]? = some x) : (rowsTo l ask (d.take (k + 1))).length = (rowsTo l ask (d.take k)).length + if betwB l ask x then 1 else 0 := by
  rw [List.take_add_one, hx, Option.toList_some, rowsTo_step, List.length_append]
  split <;> rfl
theorem allE_eq {ts : List TermD} (hf : fitsB ts = true) : allE ts = edgesL ts := by rw [allE, if_pos hf]
/-- how many rows the first k edges give -/
def rowN (ts : List TermD) (l : List TileD) (k : Nat) : Nat := (rowsTo l (fun _ => true) ((allE ts).take k)).length
theorem rowN_step {ts : List TermD} {l : List TileD} {k : Nat} {x : EdgeD} (hx : (allE ts)[k]? = some x) : rowN ts l (k + 1) = rowN ts l k + if ownF l x.fr.toNat = ownF l x.to.toNat then 0 else 1 := by
  rw [rowN, rowN, rows_len hx]
  congr 1
  by_cases e : ownF l x.fr.toNat = ownF l x.to.toNat
  · rw [if_pos e, if_neg]; simp [betwB, e]
  · rw [if_neg e, if_pos]; simp [betwB, e]
theorem rowN_at {ts : List TermD} {l : List TileD} {k : Nat} {x : EdgeD} (hf : fitsB ts = true) (hx : (allE ts)[k]? = some x) (hne : ownF l x.fr.toNat ≠ ownF l x.to.toNat) : (rowsL ts l fun _ => true)[rowN ts l k]? = some (rowOf l x) := by
  have := rows_at (l := l) (ask := fun _ => true) hx (by simp [betwB, hne])
  rw [allE_eq hf] at this
  rw [rowN, allE_eq hf]
  exact this
theorem rowN_all {ts : List TermD} {l : List TileD} (hf : fitsB ts = true) : rowN ts l (allE ts).length = (rowsL ts l fun _ => true).length := by
  rw [rowN, List.take_length, allE_eq hf]; rfl
/-- rows into and out of the first k tiles -/
def cntN (ts : List TermD) (l : List TileD) (k : Nat) : Nat := ((List.range k).map fun (q : Nat) => (rowsL ts l (intoB l q)).length).sum + ((List.range k).map fun (q : Nat) => (rowsL ts l (outB l q)).length).sum
theorem cntN_step (ts : List TermD) (l : List TileD) (k : Nat) : cntN ts l (k + 1) = cntN ts l k + (rowsL ts l (intoB l k)).length + (rowsL ts l (outB l k)).length := by
  simp only [cntN, List.range_succ, List.map_append, List.sum_append, List.map_cons, List.map_nil, List.sum_cons, List.sum_nil]
  omega
theorem cntN_all {ts : List TermD} {l : List TileD} (hr : rightB ts l = true) : cntN ts l l.length = 2 * (rowsL ts l fun _ => true).length := by
  have hf : fitsB ts = true := right_fits hr
  have hb : ∀ x ∈ edgesL ts, ownF l x.to.toNat < l.length ∧ ownF l x.fr.toNat < l.length := fun x hx => by
    rw [← allE_eq hf] at hx
    have := own_both hr hx
    exact ⟨this.2, this.1⟩
  have h1 := rows_count hr (fun x => ownF l x.to.toNat) fun x hx => (hb x hx).1
  have h2 := rows_count hr (fun x => ownF l x.fr.toNat) fun x hx => (hb x hx).2
  unfold cntN
  have e1 : ((List.range l.length).map fun (q : Nat) => (rowsL ts l (intoB l q)).length).sum = (rowsL ts l fun _ => true).length := h1
  have e2 : ((List.range l.length).map fun (q : Nat) => (rowsL ts l (outB l q)).length).sum = (rowsL ts l fun _ => true).length := h2
  omega
theorem rowsL_len {ts : List TermD} {l : List TileD} {ask : EdgeD → Bool} (hf : fitsB ts = true) : (rowsL ts l ask).length ≤ 400 := by
  rw [rowsL, List.length_map]
  refine Nat.le_trans (List.length_filter_le _ _) ?_
  rw [← allE_eq hf]
  exact allE_len
theorem cntN_le {ts : List TermD} {l : List TileD} (hf : fitsB ts = true) : ∀ k, cntN ts l k ≤ 800 * k
  | 0 => by simp [cntN]
  | k + 1 => by
    have := cntN_le (l := l) hf k
    have h1 : (rowsL ts l (intoB l k)).length ≤ 400 := rowsL_len hf
    have h2 : (rowsL ts l (outB l k)).length ≤ 400 := rowsL_len hf
    rw [cntN_step]
    omega
theorem into_of {ts : List TermD} {l : List TileD} (hf : fitsB ts = true) {k : Int} {r : RowD} (h : r ∈ rowsL ts l (intoB l k)) : r.e ∈ allE ts ∧ (ownF l r.e.to.toNat : Int) = k := by
  rw [rowsL, List.mem_map] at h
  obtain ⟨x, hx, rfl⟩ := h
  rw [List.mem_filter] at hx
  rw [allE_eq hf]
  refine ⟨hx.1, ?_⟩
  have := hx.2
  simp only [betwB, intoB, Bool.and_eq_true, beq_iff_eq] at this
  exact this.2

open Go.RowKit
attribute [local go_sem] Oper.semAt_some wide_fn wide_depth wide_fnR wide_depthR

theorem rows_cells {w : World} {base : Nat} {a : Option Addr} {n c : Nat} {hs : List RowH} (h : RowsIn w base (.slice a n c) hs) {k : Nat} {x : RowH} (hx : hs[k]? = some x) :
    ∃ b o, a = some ⟨b, o, none⟩ ∧ (w.cell? ⟨b, o + k * 5, none⟩ = some (.int .i64 x.r.e.fr) ∧ w.cell? ⟨b, o + k * 5 + 1, none⟩ = some (.int .i64 x.r.e.arm) ∧ w.cell? ⟨b, o + k * 5 + 2, none⟩ = some (.int .i64 x.r.e.to) ∧
      w.cell? ⟨b, o + k * 5 + 3, none⟩ = some x.lv ∧ w.cell? ⟨b, o + k * 5 + 4, none⟩ = some x.en) ∧ (∃ la lc, x.lv = .slice la x.r.lv.length lc ∧ Ints w la x.r.lv.length x.r.lv) ∧ ∃ ea ec, x.en = .slice ea x.r.en.length ec ∧ Ints w ea x.r.en.length x.r.en := by
  have hr := h.1.recs csR_len
  obtain ⟨b, o, e, hc⟩ := hr.2.2 k x hx
  obtain ⟨h1, h2, _⟩ := h.2 x (List.mem_of_getElem? hx)
  refine ⟨b, o, e, ⟨hc 0 (by omega), hc 1 (by omega), hc 2 (by omega), hc 3 (by omega), hc 4 (by omega)⟩, ?_, ?_⟩
  · obtain ⟨la, lc, e1⟩ := h1.form
    rw [e1] at h1
    exact ⟨la, lc, e1, h1.ints⟩
  · obtain ⟨ea, ec, e1⟩ := h2.form
    rw [e1] at h2
    exact ⟨ea, ec, e1, h2.ints⟩
set_option maxRecDepth 100000 in
set_option maxHeartbeats 8000000 in
theorem leaves18_any (pa : Option Addr) (pn pc : Nat) (hpn : pn ≤ 17592186044416) (ba : Option Addr) (bn bc : Nat) (bs : List BlkH) (a : Option Addr) (n c : Nat) (ls : List TileR) (w : World) (h : BlksX w ba bn bs) (ht : TilesOK w a n ls) :
    Calls Try.prog 3 #[funcV pa pn pc ba bn bc, .slice a n c] w fun e w' => e = .returned (.bool true) ∧ Below w.heap.size w w' := by
  have HX := Lib.hid h
  have hn := ht.1.2.1
  have HLL : Hid ((tdOf ls).length = n) := by rw [Hid, tdOf_len, ht.1.1]
  have HT := Lib.hid ht
  clear h ht
  go_enter Try.func3, Try.ntmps3
  go_upto_region 1 with (fail)
  obtain ⟨W, hW⟩ : ∃ W, W = w.alloc (funcO pa pn pc ba bn bc) := ⟨_, rfl⟩
  rw [← hW]
  have hk0 : W.heap[w.heap.size]? = some (funcO pa pn pc ba bn bc) := by rw [hW]; exact heap_alloc_new _ _
  have hB : Below w.heap.size w W := by rw [hW]; exact ext_alloc _ _
  have HK := Lib.hid hk0
  have HB := Lib.hid hB
  clear hW hk0 hB
  go_upto_region 3 with (
    (go_at_call 7
     refine (awake18_any W).mono ?_
     rintro e w1 ⟨rfl, hb⟩
     have HK1 := Lib.hid (block_ext hb HK.out)
     have HB1 := Lib.hid (ext_trans HB.out hb)
     clear hb))
  clear HK HB
  go_upto_region 5 with (first
    | (refine wpList_load_row (o := ⟨some 22, .load 25 _, _, _, _, _⟩) rfl 25 _ rfl w.heap.size rfl 25 _ (0, 0) _ HK1.out Try.underlying25 rfl size_func ?_)
    | (go_at_call 8
       refine (great18_any pa pn pc hpn ba bn bc bs a n c ls w1 (HX.out.ext HB1.out) (HT.out.ext HB1.out)).mono ?_
       rintro e w2 ⟨gb, rfl, hb, hgr⟩
       have HK2 := Lib.hid (block_ext hb HK1.out)
       have HB2 := Lib.hid (ext_trans HB1.out hb)
       have HGR := Lib.hid hgr
       clear hb hgr
       cases gb))
  all_goals first | (go_ret; exact ⟨rfl, HB2.out⟩) | skip
  clear HK1 HB1
  have HTOT : Hid (totL (tdOf ls) ≤ 1000000) := by have := (HGR.out (by trivial)).2.1; rw [Hid]; omega
  have hn90 : n ≤ 90 := by have := (HGR.out (by trivial)).2.1; omega
  clear HGR
  cases hr : rightB (tsOf bs) (tdOf ls) with
  | false =>
    have HR := Lib.hid hr
    clear hr
    cases hf : fitsB (tsOf bs) with
    | false =>
      have HF := Lib.hid hf
      have HE : Hid (overErr (tsOf bs) (tdOf ls) = 2) := by rw [Hid, overErr, hf]; rfl
      clear hf
      have kf := HK2.out
      go_wp2_with (first
        | (refine wpList_load_row (o := ⟨some 26, .load 25 _, _, _, _, _⟩) rfl 25 _ rfl w.heap.size rfl 25 _ (0, 0) _ HK2.out Try.underlying25 rfl size_func ?_)
        | (go_at_call 9
           refine (between_any pa pn pc ba bn bc bs a n c ls w2 (HX.out.1.ext HB2.out) (HT.out.ext HB2.out) HTOT.out).mono ?_
           rintro e w3 ⟨v, rfl, hb, h0, h1⟩
           obtain rfl := h0 HR.out
           rw [HE.out]
           have HK3 := Lib.hid (block_ext hb HK2.out)
           have HB3 := Lib.hid (ext_trans HB2.out hb)
           clear hb h0 h1)
        | (refine wpList_load_row (o := ⟨some 32, .load 25 _, _, _, _, _⟩) rfl 25 _ rfl w.heap.size rfl 25 _ (0, 0) _ HK3.out Try.underlying25 rfl size_func ?_)
        | (go_at_call 10
           refine (town_any pa pn pc ba bn bc bs a n c ls w3 (HX.out.1.ext HB3.out) (HT.out.ext HB3.out)).mono ?_
           rintro e w4 ⟨v, en, rfl, hb, h0, h1, h2⟩
           obtain ⟨rfl, rfl⟩ := h0 HF.out
           have HK4 := Lib.hid (block_ext hb HK3.out)
           have HB4 := Lib.hid (ext_trans HB3.out hb)
           have kf4 := HK4.out
           have k40 : w4.cell? ⟨w.heap.size, 0, none⟩ = some (.slice pa pn pc) := (by rw [cell_of_row _ _ _ _ _ _ kf4]; rfl)
           have k41 : w4.cell? ⟨w.heap.size, 1, none⟩ = some (.slice ba bn bc) := (by rw [cell_of_row _ _ _ _ _ _ kf4]; rfl)
           clear hb h0 h1 h2 kf4)
        | (go_at_call 11
           refine (tfits_any pa pn pc ba bn bc bs w4 (HX.out.1.ext HB4.out)).mono ?_
           rintro e w5 ⟨rfl, hb⟩
           rw [HF.out]
           have HB5 := Lib.hid (ext_trans HB4.out hb)
           clear hb))
      go_ret
      exact ⟨rfl, HB5.out⟩
    | true =>
      have HF := Lib.hid hf
      have HE : Hid (overErr (tsOf bs) (tdOf ls) = 12) := by rw [Hid, overErr, hf, HR.out]; rfl
      clear hf
      go_wp2_with (first
        | (refine wpList_load_row (o := ⟨some 26, .load 25 _, _, _, _, _⟩) rfl 25 _ rfl w.heap.size rfl 25 _ (0, 0) _ HK2.out Try.underlying25 rfl size_func ?_)
        | (go_at_call 9
           refine (between_any pa pn pc ba bn bc bs a n c ls w2 (HX.out.1.ext HB2.out) (HT.out.ext HB2.out) HTOT.out).mono ?_
           rintro e w3 ⟨v, rfl, hb, h0, h1⟩
           obtain rfl := h0 HR.out
           rw [HE.out]
           have HK3 := Lib.hid (block_ext hb HK2.out)
           have HB3 := Lib.hid (ext_trans HB2.out hb)
           clear hb h0 h1)
        | (refine wpList_load_row (o := ⟨some 32, .load 25 _, _, _, _, _⟩) rfl 25 _ rfl w.heap.size rfl 25 _ (0, 0) _ HK3.out Try.underlying25 rfl size_func ?_)
        | (go_at_call 10
           refine (town_any pa pn pc ba bn bc bs a n c ls w3 (HX.out.1.ext HB3.out) (HT.out.ext HB3.out)).mono ?_
           rintro e w4 ⟨v, en, rfl, hb, h0, h1, h2⟩
           have HK4 := Lib.hid (block_ext hb HK3.out)
           have HB4 := Lib.hid (ext_trans HB3.out hb)
           have kf4 := HK4.out
           have k40 : w4.cell? ⟨w.heap.size, 0, none⟩ = some (.slice pa pn pc) := (by rw [cell_of_row _ _ _ _ _ _ kf4]; rfl)
           have k41 : w4.cell? ⟨w.heap.size, 1, none⟩ = some (.slice ba bn bc) := (by rw [cell_of_row _ _ _ _ _ _ kf4]; rfl)
           clear hb h0 h1 h2 kf4)
        | (go_at_call 12
           refine (tright_any pa pn pc ba bn bc bs a n c ls w4 (HX.out.1.ext HB4.out) (HT.out.ext HB4.out) HTOT.out).mono ?_
           rintro e w5 ⟨rfl, hb⟩
           rw [HR.out]
           have HB5 := Lib.hid (ext_trans HB4.out hb)
           clear hb))
      go_ret
      exact ⟨rfl, HB5.out⟩
  | true =>
    have HR := Lib.hid hr
    have HF : Hid (fitsB (tsOf bs) = true) := right_fits hr
    have HE : Hid (overErr (tsOf bs) (tdOf ls) = 0) := by rw [Hid, overErr, HF.out, hr]; rfl
    have hbl : (tsOf bs).length = bn := by rw [tsOf_len]; exact HX.out.1.1.1
    have HOB : Hid (ownB (tdOf ls) bn = true) := by rw [Hid, ← hbl]; exact (right_parts hr).2
    have hbn : bn ≤ 200 := by
      have := ((goodB_iff _).1 (fits_good HF.out)).1.2
      omega
    clear hr
    go_upto_region 11 with (first
      | (refine wpList_load_row (o := ⟨some 26, .load 25 _, _, _, _, _⟩) rfl 25 _ rfl w.heap.size rfl 25 _ (0, 0) _ HK2.out Try.underlying25 rfl size_func ?_)
      | (go_at_call 9
         refine (between_any pa pn pc ba bn bc bs a n c ls w2 (HX.out.1.ext HB2.out) (HT.out.ext HB2.out) HTOT.out).mono ?_
         rintro e w3 ⟨v, rfl, hb, h0, h1⟩
         obtain ⟨hs, hrw, hmap⟩ := h1 HR.out
         rw [HE.out]
         obtain ⟨ra, rc, rfl⟩ := hrw.1.form
         have HRW := Lib.hid hrw
         have HMAP := Lib.hid hmap
         have HK3 := Lib.hid (block_ext hb HK2.out)
         have HB3 := Lib.hid (ext_trans HB2.out hb)
         clear hb h0 h1 hrw hmap)
      | (refine wpList_load_row (o := ⟨some 32, .load 25 _, _, _, _, _⟩) rfl 25 _ rfl w.heap.size rfl 25 _ (0, 0) _ HK3.out Try.underlying25 rfl size_func ?_)
      | (go_at_call 10
         refine (town_any pa pn pc ba bn bc bs a n c ls w3 (HX.out.1.ext HB3.out) (HT.out.ext HB3.out)).mono ?_
         rintro e w4 ⟨v, en, rfl, hb, h0, h1, h2⟩
         obtain ⟨rfl, g, oc, rfl, hown⟩ := h2 HF.out HOB.out
         have HRW4 := Lib.hid (HRW.out.ext hb)
         have HOW := Lib.hid hown.ints
         have HK4 := Lib.hid (block_ext hb HK3.out)
         have HB4 := Lib.hid (ext_trans HB3.out hb)
         clear hb h0 h1 h2 hown))
    clear HK2 HB2 HK3 HB3 HRW
    have hlen : (allE (tsOf bs)).length ≤ 400 := allE_len
    have hrl : hs.length ≤ 400 := by
      have : (hs.map (·.r)).length ≤ 400 := by rw [HMAP.out]; exact rowsL_len HF.out
      simpa using this
    go_wp2_with (first
      | (refine wpList_load_row (o := ⟨some 63, .load 25 _, _, _, _, _⟩) rfl 25 _ rfl w.heap.size rfl 25 _ (0, 0) _ HK4.out Try.underlying25 rfl size_func ?_)
      | (go_at_call 13
         refine (allE_any pa pn pc ba bn bc bs w4 (HX.out.1.ext HB4.out)).mono ?_
         intro e w5 hp
         obtain ⟨la, lc, rfl, ho, hs5, hb⟩ := hp.form
         have HS5 := Lib.hid hs5
         have HK5 := Lib.hid (block_ext hb HK4.out)
         have HB5 := Lib.hid (ext_trans HB4.out hb)
         have HRW5 := Lib.hid (HRW4.out.ext hb)
         have HO5 := Lib.hid (HOW.out.ext hb)
         clear hb ho hs5 hp))
    clear HK4 HB4 HRW4 HOW
    go_loopw [10, 11, 12] (fun s10 s11 _ wr => ∃ k : Nat, k ≤ (allE (tsOf bs)).length ∧ s11 = .int .i64 k ∧ s10 = .int .i64 (rowN (tsOf bs) (tdOf ls) k : Nat) ∧ Hid (Below w5.heap.size w5 wr)) (fun _ s11 _ _ => (allE (tsOf bs)).length - (intOf s11).toNat)
    case atStart => exact ⟨0, by omega, rfl, rfl, Below.refl _ _⟩
    case round =>
      obtain ⟨k, hk, rfl, rfl, HBr⟩ := hrel
      by_cases hlt : k < (allE (tsOf bs)).length
      · obtain ⟨x, b, o, hx, rfl, c0, c1, c2⟩ := edges_cells (HS5.out.ext csE_len HBr.out) hlt
        have hbx := allE_mem (List.mem_of_getElem? hx)
        rw [hbl] at hbx
        obtain ⟨fr, arm, tt⟩ := x
        simp only at hbx c0 c1 c2
        obtain ⟨i, rfl⟩ : ∃ i : Nat, fr = i := ⟨fr.toNat, by omega⟩
        obtain ⟨j, rfl⟩ : ∃ j : Nat, tt = j := ⟨tt.toNat, by omega⟩
        have HXK := Lib.hid hx
        have HST := Lib.hid (rowN_step (l := tdOf ls) hx)
        have hlt' : (k : Int) < ((allE (tsOf bs)).length : Int) := by omega
        have hk0 : (0 : Int) ≤ (k : Int) := by omega
        clear hx
        go_upto_region 17 with (
          (refine wpList_store_rowB rfl 39 _ _ rfl wr.heap.size #[.int .i64 (i : Int), .int .i64 arm, .int .i64 (j : Int)] rfl rfl 39 _ (heap_alloc_new wr _) (by kernel_rfl) rfl (by simp [Value.oneCell']) wr.heap.size wr (ext_alloc wr _) (Nat.le_refl _) ?_
           intro W6 hb6 hx6
           have HB6 := Lib.hid (ext_trans HBr.out hb6)
           have HX6 := Lib.hid hx6
           have HX6B : Hid (∃ T, T = wr.heap.size) := ⟨_, rfl⟩
           clear hb6 hx6))
        clear c0 c1 c2
        generalize wr.heap.size = T at *
        obtain ⟨b1, o1, e1, ci, _⟩ := (HO5.out.ext HB6.out).2.2 i (by omega)
        injection e1 with e1
        injection e1 with e1 e2
        subst e1 e2
        obtain ⟨b2, o2, e1, cj, _⟩ := (HO5.out.ext HB6.out).2.2 j (by omega)
        injection e1 with e1
        injection e1 with e1 e2
        subst e1 e2
        rw [own_at (by omega), Nat.zero_add] at ci cj
        have kx := HX6.out
        have x0 : W6.cell? ⟨T, 0, none⟩ = some (.int .i64 (i : Int)) := by rw [cell_of_row _ _ _ _ _ _ kx]; rfl
        have x1 : W6.cell? ⟨T, 1, none⟩ = some (.int .i64 arm) := by rw [cell_of_row _ _ _ _ _ _ kx]; rfl
        have x2 : W6.cell? ⟨T, 2, none⟩ = some (.int .i64 (j : Int)) := by rw [cell_of_row _ _ _ _ _ _ kx]; rfl
        clear kx
        have hi0 : (0 : Int) ≤ (i : Int) ∧ (i : Int) < (bn : Int) := by omega
        have hj0 : (0 : Int) ≤ (j : Int) ∧ (j : Int) < (bn : Int) := by omega
        by_cases he : ownF (tdOf ls) i = ownF (tdOf ls) j
        · have hd : ((ownF (tdOf ls) i : Int) == (ownF (tdOf ls) j : Int)) = true := by rw [he]; simp
          have HN : Hid (rowN (tsOf bs) (tdOf ls) (k + 1) = rowN (tsOf bs) (tdOf ls) k) := by rw [Hid, HST.out]; simp [he]
          clear he HST
          go_quiet (fail)
          go_wp2
          go_roundw
          case rel => exact ⟨k + 1, by omega, by go_num, by rw [HN.out], ext_drewN HB6.out _⟩
          case measure => simp [intOf]; omega
        · have hd : ((ownF (tdOf ls) i : Int) == (ownF (tdOf ls) j : Int)) = false := by simp; omega
          have HN : Hid (rowN (tsOf bs) (tdOf ls) (k + 1) = rowN (tsOf bs) (tdOf ls) k + 1) := by rw [Hid, HST.out]; simp [he]
          have hrow := rowN_at HF.out HXK.out (l := tdOf ls) (by simpa using he)
          rw [← HMAP.out, List.getElem?_map, Option.map_eq_some_iff] at hrow
          obtain ⟨y, hy, hyr⟩ := hrow
          have hpl : rowN (tsOf bs) (tdOf ls) k < hs.length := (List.getElem?_eq_some_iff.1 hy).1
          have HCO : Hid (CrossOK (tdOf ls) (rowOf (tdOf ls) ⟨(i : Int), arm, (j : Int)⟩)) := ⟨fun q hq => cross_in HR.out (List.mem_of_getElem? HXK.out) hq, cross_lv HR.out (List.mem_of_getElem? HXK.out), cross_en HR.out (List.mem_of_getElem? HXK.out), cross_some HR.out (List.mem_of_getElem? HXK.out) (by simpa using he)⟩
          obtain ⟨rb, ro, e3, ⟨d0, d1, d2, d3, d4⟩, ⟨xa, xc, e4, i4⟩, ya, yc, e5, i5⟩ := rows_cells (HRW5.out.ext HB6.out) hy
          obtain ⟨yr, yl, ye⟩ := y
          simp only at hyr e4 e5 d0 d1 d2 d3 d4 i4 i5
          subst hyr e4 e5 e3
          have HI4 := Lib.hid i4
          have HI5 := Lib.hid i5
          clear he HST i4 i5 hy HXK
          go_quiet (fail)
          go_wp2
          obtain ⟨W7, hW7⟩ : ∃ W7, W7 = W6.drewN nq := ⟨_, rfl⟩
          rw [← hW7]
          have HB67 : Hid (Below W6.heap.size W6 W7) := by rw [Hid, hW7]; exact ext_drewN (Below.refl _ _) _
          have q0 : ∀ n' : ExtW W7, n'.val.cell? ⟨rb, ro + rowN (tsOf bs) (tdOf ls) k * 5, none⟩ = some (.int .i64 (i : Int)) := ExtW.cell (cell_ext HB67.out d0)
          have q1 : ∀ n' : ExtW W7, n'.val.cell? ⟨rb, ro + rowN (tsOf bs) (tdOf ls) k * 5 + 1, none⟩ = some (.int .i64 arm) := ExtW.cell (cell_ext HB67.out d1)
          have q2 : ∀ n' : ExtW W7, n'.val.cell? ⟨rb, ro + rowN (tsOf bs) (tdOf ls) k * 5 + 2, none⟩ = some (.int .i64 (j : Int)) := ExtW.cell (cell_ext HB67.out d2)
          obtain ⟨L, hL⟩ : ∃ L, L = (rowOf (tdOf ls) ⟨(i : Int), arm, (j : Int)⟩).lv.length := ⟨_, rfl⟩
          obtain ⟨M, hM⟩ : ∃ M, M = (rowOf (tdOf ls) ⟨(i : Int), arm, (j : Int)⟩).en.length := ⟨_, rfl⟩
          have q3 : ∀ n' : ExtW W7, n'.val.cell? ⟨rb, ro + rowN (tsOf bs) (tdOf ls) k * 5 + 3, none⟩ = some (.slice xa L xc) := ExtW.cell (cell_ext HB67.out (by rw [hL]; exact d3))
          have q4 : ∀ n' : ExtW W7, n'.val.cell? ⟨rb, ro + rowN (tsOf bs) (tdOf ls) k * 5 + 4, none⟩ = some (.slice ya M yc) := ExtW.cell (cell_ext HB67.out (by rw [hM]; exact d4))
          have y0 := ExtW.cell (cell_ext HB67.out x0)
          have y1 := ExtW.cell (cell_ext HB67.out x1)
          have y2 := ExtW.cell (cell_ext HB67.out x2)
          have HCR : Hid (∀ n' : ExtW W7, Calls Try.prog 14 #[.slice a n c, .agg #[.int .i64 (i : Int), .int .i64 arm, .int .i64 (j : Int), .slice xa L xc, .slice ya M yc]] n'.val fun e w'' => e = .returned (.bool true) ∧ ∃ m : ExtW W7, w'' = m.val) := fun n' => by
            have hbn' := ext_trans HB67.out n'.ext
            refine quiet_ext (crosses_any a n c ls n'.val (HT.out.ext (ext_trans HB5.out (ext_trans HB6.out hbn'))) HTOT.out (rowOf (tdOf ls) ⟨(i : Int), arm, (j : Int)⟩) xa L xc ya M yc ?_ ?_ HCO.out ?_)
            · rw [hL]; exact HI4.out.ext hbn'
            · rw [hM]; exact HI5.out.ext hbn'
            · constructor <;> constructor <;> simp [rowOf] <;> omega
          have hpd : ((rowN (tsOf bs) (tdOf ls) k : Int) == (hs.length : Int)) = false := by rw [beq_eq_false_iff_ne]; omega
          have hp0 : (0 : Int) ≤ (rowN (tsOf bs) (tdOf ls) k : Int) ∧ (rowN (tsOf bs) (tdOf ls) k : Int) < (hs.length : Int) := by omega
          have hq : ∀ w, (binOp .neq 39 (.agg #[.int .i64 (i : Int), .int .i64 arm, .int .i64 (j : Int)]) (.agg #[.int .i64 (i : Int), .int .i64 arm, .int .i64 (j : Int)])).run Try.prog w = .ok (.bool false) w := fun w => by
            have := neq_edge w ⟨(i : Int), arm, (j : Int)⟩ ⟨(i : Int), arm, (j : Int)⟩
            rw [(sameE_iff _ _).2 rfl] at this
            exact this
          have HNE : Nonempty (ExtW W7) := ⟨⟨W7, Below.refl _ _⟩⟩
          clear hW7 d0 d1 d2 d3 d4 x0 x1 x2 ci cj hL hM HI4 HI5 HCO hd
          generalize rowN (tsOf bs) (tdOf ls) k = p at *
          refine region_ext (by kernel_rfl) (by kernel_rfl) ?_
          repeat (first
            | go_big_quiet_skip
            | go_big_quiet_step (first
              | (go_at_call 14; exact HCR.out _)))
          refine wpQuiet_nil ?_
          intro _ hw'
          obtain ⟨n', rfl⟩ := hw'
          obtain ⟨W8, hW8⟩ : ∃ W8, W8 = n'.val := ⟨_, rfl⟩
          have HB8 : Hid (Below w5.heap.size w5 W8) := by rw [Hid, hW8]; exact ext_trans HB6.out (ext_trans HB67.out n'.ext)
          rw [← hW8]
          clear hW8 n' HCR q0 q1 q2 q3 q4 y0 y1 y2
          go_wp2
          go_roundw
          case rel => exact ⟨k + 1, by omega, by go_num, by rw [HN.out]; go_num, HB8⟩
          case measure => simp [intOf]; omega
      · obtain rfl : k = (allE (tsOf bs)).length := by omega
        have HNA : Hid (rowN (tsOf bs) (tdOf ls) (allE (tsOf bs)).length = hs.length) := by rw [Hid, rowN_all HF.out, ← HMAP.out, List.length_map]
        rw [HNA.out]
        have HB6 := Lib.hid (ext_trans HB5.out HBr.out)
        have HK6 := Lib.hid (block_ext HBr.out HK5.out)
        have HO6 := Lib.hid (HO5.out.ext HBr.out)
        clear HNA HK5 HO5 HRW5 HS5 HBr HB5
        obtain ⟨wo, rfl⟩ : ∃ wo : World, wo = wr := ⟨_, rfl⟩
        go_wp2
        go_loopw [13, 14, 15, 16, 17, 18, 19] (fun s13 s14 _ _ _ _ _ wi => ∃ k : Nat, k ≤ n ∧ s14 = .int .i64 k ∧ s13 = .int .i64 (cntN (tsOf bs) (tdOf ls) k : Nat) ∧ Hid (Below wo.heap.size wo wi)) (fun _ s14 _ _ _ _ _ _ => n - (intOf s14).toNat)
        case atStart => exact ⟨0, by omega, rfl, rfl, Below.refl _ _⟩
        case round =>
          obtain ⟨k, hk2, rfl, rfl, HBi⟩ := hrel
          have HC0 := cntN_le HF.out k (l := tdOf ls)
          have HKi := Lib.hid (block_ext HBi.out HK6.out)
          have HBw := Lib.hid (ext_trans HB6.out HBi.out)
          by_cases hkn : k < n
          · have HST := Lib.hid (cntN_step (tsOf bs) (tdOf ls) k)
            go_upto_region 27 with (first
              | (refine wpList_load_row (o := ⟨some 117, .load 25 _, _, _, _, _⟩) rfl 25 _ rfl w.heap.size rfl 25 _ (0, 0) _ HKi.out Try.underlying25 rfl size_func ?_)
              | (go_at_call 15
                 refine (eInto_any pa pn pc ba bn bc bs a n c ls (k : Int) wr (HX.out.1.ext HBw.out) (HT.out.ext HBw.out) HTOT.out).mono ?_
                 rintro e w7 ⟨v, rfl, hb, h0, h1⟩
                 obtain ⟨hi, hrw, hmap⟩ := h1 HR.out
                 rw [HE.out]
                 obtain ⟨ia, ic, rfl⟩ := hrw.1.form
                 have HRI := Lib.hid hrw
                 have HMI := Lib.hid hmap
                 have HK7 := Lib.hid (block_ext hb HKi.out)
                 have HB7 := Lib.hid (ext_trans HBi.out hb)
                 clear hb h0 h1 hrw hmap)
              | (refine wpList_load_row (o := ⟨some 124, .load 25 _, _, _, _, _⟩) rfl 25 _ rfl w.heap.size rfl 25 _ (0, 0) _ HK7.out Try.underlying25 rfl size_func ?_)
              | (go_at_call 16
                 refine (eOut_any pa pn pc ba bn bc bs a n c ls (k : Int) w7 (HX.out.1.ext (ext_trans HB6.out HB7.out)) (HT.out.ext (ext_trans HB6.out HB7.out)) HTOT.out).mono ?_
                 rintro e w8 ⟨v, rfl, hb, h0, h1⟩
                 obtain ⟨ho, hrw, hmap⟩ := h1 HR.out
                 rw [HE.out]
                 obtain ⟨ja, jc, rfl⟩ := hrw.1.form
                 have HMO := Lib.hid hmap
                 have HB8 := Lib.hid (ext_trans HB7.out hb)
                 have HRI8 := Lib.hid (HRI.out.ext hb)
                 clear hb h0 h1 hrw hmap))
            have h1l : hi.length = (rowsL (tsOf bs) (tdOf ls) (intoB (tdOf ls) (k : Int))).length := by rw [← HMI.out, List.length_map]
            have h2l : ho.length = (rowsL (tsOf bs) (tdOf ls) (outB (tdOf ls) (k : Int))).length := by rw [← HMO.out, List.length_map]
            have hil : hi.length ≤ 400 := by rw [h1l]; exact rowsL_len HF.out
            have hol : ho.length ≤ 400 := by rw [h2l]; exact rowsL_len HF.out
            have HN : Hid (cntN (tsOf bs) (tdOf ls) (k + 1) = cntN (tsOf bs) (tdOf ls) k + hi.length + ho.length) := by rw [Hid, HST.out, h1l, h2l]
            have HO8 := Lib.hid (HO6.out.ext HB8.out)
            clear h1l h2l HST HMO HK7 HB7 HRI HKi
            generalize cntN (tsOf bs) (tdOf ls) k = z at *
            go_wp2
            go_loopw [19] (fun s19 wi => ∃ m : Nat, m ≤ hi.length ∧ s19 = .int .i64 m ∧ Hid (wi = w8)) (fun s19 _ => hi.length - (intOf s19).toNat)
            case atStart => exact ⟨0, by omega, rfl, rfl⟩
            case round =>
              obtain ⟨m, hm, rfl, HW8⟩ := hrel
              obtain rfl : wr = w8 := HW8.out
              by_cases hmi : m < hi.length
              · obtain ⟨rb, ro, e3, ⟨d0, d1, d2, d3, d4⟩, _, _⟩ := rows_cells HRI8.out (List.getElem?_eq_getElem hmi)
                have hin := into_of HF.out (k := (k : Int)) (r := (hi[m]).r) (by rw [← HMI.out]; exact List.mem_map_of_mem (List.getElem_mem _))
                generalize hi[m] = y at *
                obtain ⟨⟨⟨yf, yarm, yt⟩, ylv, yen⟩, yl, ye⟩ := y
                simp only at hin d2
                obtain ⟨hin1, hin2⟩ := hin
                have hbx := allE_mem hin1
                rw [hbl] at hbx
                simp only at hbx
                obtain ⟨j, rfl⟩ : ∃ j : Nat, yt = j := ⟨yt.toNat, by omega⟩
                rw [Int.toNat_natCast] at hin2
                subst e3
                obtain ⟨b2, o2, e1, cj, _⟩ := HO8.out.2.2 j (by omega)
                injection e1 with e1
                injection e1 with e1 e2
                subst e1 e2
                rw [own_at (by omega), Nat.zero_add, hin2] at cj
                have hj0 : (0 : Int) ≤ (j : Int) ∧ (j : Int) < (bn : Int) := by omega
                have hm0 : (0 : Int) ≤ (m : Int) ∧ (m : Int) < (hi.length : Int) := by omega
                clear hin1 hin2 d0 d1 d3 d4
                go_wp2
                go_roundw
                case rel => exact ⟨m + 1, by omega, by go_num, Lib.hid trivial⟩
                case measure => simp [intOf]; omega
              · obtain rfl : m = hi.length := by omega
                go_wp2
                go_roundw
                case rel => exact ⟨k + 1, by omega, by go_num, by rw [HN.out]; go_num, HB8⟩
                case measure => simp [intOf]; omega
          · obtain rfl : k = n := by omega
            have HCN : Hid (cntN (tsOf bs) (tdOf ls) k = 2 * hs.length) := by
              have := cntN_all HR.out
              rw [HLL.out] at this
              rw [Hid, this, ← HMAP.out, List.length_map]
            have hq2 : ((2 * hs.length : Nat) : Int) = 2 * (hs.length : Int) := by omega
            rw [HCN.out, hq2]
            clear hq2 HC0
            go_wp2
            go_ret
            exact ⟨rfl, HBw.out⟩
end Go.Proofs.Ytblhmdhfhaencaa
