/-
  Edge: going through a function's edges.
-/
import Derived.Test.YtblhmdhfhaencaaEP
import Derived.Test.YtblhmdhfhaencaaFlatBase
import Derived.Test.YtblhmdhfhaencaaTD
import Derived.Test.YtblhmdhfhaencaaTI
import Derived.Test.YtblhmdhfhaencaaWB
namespace Go.Proofs.Ytblhmdhfhaencaa
set_option linter.unusedSimpArgs false
set_option linter.unusedVariables false
set_option linter.unusedSectionVars false
section
open Go.RowKit Go.Shelf
attribute [local go_sem] Oper.semAt_some wide_fn wide_depth wide_fnR wide_depthR

def encE (x : EdgeD) : Array Value := #[.agg #[.int .i64 x.fr, .int .i64 x.arm, .int .i64 x.to]]
theorem cell_heap {w w' : World} {b o : Nat} (h : w'.heap[b]? = w.heap[b]?) : w'.cell? ⟨b, o, none⟩ = w.cell? ⟨b, o, none⟩ := by
  unfold World.cell?
  simp only [h]
theorem Ints.heap {w w' : World} {a : Option Addr} {n : Nat} {xs : List Int} (h : Ints w a n xs) (hb : ∀ b o, a = some ⟨b, o, none⟩ → w'.heap[b]? = w.heap[b]?) : Ints w' a n xs :=
  ⟨h.1, h.2.1, fun k hk => by
    obtain ⟨b, o, e, hc, hi⟩ := h.2.2 k hk
    exact ⟨b, o, e, (cell_heap (hb b o e)).trans hc, hi⟩⟩
theorem each40_any (pa : Option Addr) (pn pc : Nat) (ba : Option Addr) (bn bc : Nat) (w : World) : Calls Try.prog 40 #[funcV pa pn pc ba bn bc] w fun e w' => e = .returned (.func (.func 75) #[] #[.pointer (some ⟨w.heap.size, 0, none⟩)]) ∧ w' = w.alloc (funcO pa pn pc ba bn bc) := by
  go_enter Try.func40, Try.ntmps40
  go_wp2
  go_ret
  exact ⟨rfl, rfl⟩
set_option maxRecDepth 100000 in
set_option maxHeartbeats 4000000 in
theorem eachE_iterTI (pa : Option Addr) (pn pc : Nat) (ba : Option Addr) (bn bc : Nat) (bs : List BlkH) (G : Nat) : IterTI Try.prog 75 #[.pointer (some ⟨G, 0, none⟩)] encE (edgesL (tsOf bs)) (fun W => W.heap[G]? = some (funcO pa pn pc ba bn bc) ∧ BlksOK W ba bn bs) := by
  intro l K Kx T W hK hKx hInv hT0 hTg hY h0
  refine callsIn_of_wp Try.func75 rfl trivial ?_ rfl
  simp only [Try.ntmps75, List.size_toArray, List.length_cons, List.length_nil, Nat.reduceAdd, Nat.reduceSub, Array.replicate_succ, Array.replicate_zero, List.push_toArray, List.append_toArray, List.nil_append, List.cons_append]
  have HY := Lib.hid hY
  have HI := Lib.hid hInv
  have HK0 := Lib.hid hK
  have HT0 := Lib.hid hT0
  have HTG := Lib.hid hTg
  have H0 : Hid (K (edgesFrom (tsOf bs) 0) W) := h0
  have hg0 : W.cell? ⟨G, 1, none⟩ = some (.slice ba bn bc) := by rw [cell_of_row _ _ _ _ _ _ (hInv _ _ h0).1]; rfl
  have hbn := (hInv _ _ h0).2.1.2.1
  have HLN := Lib.hid (hInv _ _ h0).2.1.1
  clear hY hInv hK hKx h0 hT0 hTg
  gi_wp2
  gi_loopw [3, 4, 5, 6, 10] (fun _ _ _ _ i wr => ∃ k : Nat, i = .int .i64 k ∧ k ≤ bn ∧ Hid (K (edgesFrom (tsOf bs) k) wr)) (fun _ _ _ _ i _ => bn - (intOf i).toNat)
  case atStart => exact ⟨0, rfl, by omega, H0.out⟩
  case round =>
    obtain ⟨k, rfl, hk, HK⟩ := hrel
    clear hg0
    by_cases hlt : k < bn
    · obtain ⟨x, b, o, hbx, hxo, rfl, c0, c1, c2, c3, c4⟩ := (HI.out _ _ HK.out).2.cells hlt
      have htd := tsOf_at bs k x hbx
      have HES : Hid (edgesFrom (tsOf bs) k = armsF k 0 (toD x.t) ++ edgesFrom (tsOf bs) (k + 1)) := by
        rw [Hid, edgesFrom_step _ _ (by rw [tsOf_len, HLN.out]; exact hlt), edgesAt, htd]
      have HXO := Lib.hid hxo
      have hlt' : (k : Int) < (bn : Int) := by omega
      clear hbx htd hxo
      gi_wp2_with (
        (gi_at_call 67
         refine (callsIn_wide.2 (to_any x.t _ HXO.out)).mono ?_
         rintro e w2 ⟨v, rfl, ho, hb⟩
         obtain ⟨va, vc, rfl⟩ := ho.form
         have hbw := ext_trans (ext_alloc wr (blkO x)) hb
         have HV := Lib.hid ho.ints
         have HK2 := Lib.hid (HK0.out _ _ _ HK.out hbw)
         have HNT : Hid (∀ q o, va = some ⟨q, o, none⟩ → ¬ T w2 q) := (fun q o e ht => by
           have h1 := HT0.out _ _ _ HK.out (HTG.out _ _ _ _ HK.out hbw ht)
           have h2 := (ho.1.lt q (by rw [e]; rfl)).1
           simp at h2
           omega)
         clear ho hb hbw))
      obtain ⟨wo, rfl⟩ : ∃ wo : World, wo = wr := ⟨_, rfl⟩
      gi_loopw [5, 6, 19] (fun _ _ i wi => ∃ j : Nat, i = .int .i64 j ∧ j ≤ (toD x.t).length ∧ Hid (K (armsF k j ((toD x.t).drop j) ++ edgesFrom (tsOf bs) (k + 1)) wi) ∧ Hid (Ints wi va (toD x.t).length (toD x.t)) ∧ Hid (∀ q o, va = some ⟨q, o, none⟩ → ¬ T wi q)) (fun _ _ i _ => (toD x.t).length - (intOf i).toNat)
      case atStart => exact ⟨0, rfl, by omega, by rw [Hid, List.drop_zero, ← HES.out]; exact HK2.out, HV, HNT⟩
      case round =>
        obtain ⟨j, rfl, hj, HKj, HVj, HNTj⟩ := hrel
        clear HK2 HV HNT
        by_cases hjl : j < (toD x.t).length
        · obtain ⟨b3, o3, rfl, hcy, _⟩ := HVj.out.2.2 j hjl
          have HL : Hid (armsF k j ((toD x.t).drop j) ++ edgesFrom (tsOf bs) (k + 1) = ⟨k, j, (toD x.t).getD j 0⟩ :: (armsF k (j + 1) ((toD x.t).drop (j + 1)) ++ edgesFrom (tsOf bs) (k + 1))) := by
            rw [Hid, List.drop_eq_getElem_cons hjl]
            simp [armsF, List.getD_eq_getElem?_getD, hjl]
          have hjl' : (j : Int) < ((toD x.t).length : Int) := by omega
          obtain ⟨fn, tmps, assign, body, hy, hR⟩ := HY.out _ ⟨k, j, (toD x.t).getD j 0⟩ wr (by rw [HL.out]; rfl) HKj.out
          unfold encE at hy
          have hT : nxL (armsF k j ((toD x.t).drop j) ++ edgesFrom (tsOf bs) (k + 1)) ⟨k, j, (toD x.t).getD j 0⟩ = armsF k (j + 1) ((toD x.t).drop (j + 1)) ++ edgesFrom (tsOf bs) (k + 1) := by rw [HL.out]; rfl
          rw [hT] at hR
          have HR2 := Lib.hid hR
          clear hT hR
          have hj2 := toD_len x.t
          generalize (toD x.t).getD j 0 = y at *
          gi_wp2
          refine HR2.out.mono ?_
          rintro e W' (⟨rfl, hJ', hT'⟩ | ⟨rfl, hX'⟩)
          · have HKn := Lib.hid hJ'
            have HVn := Lib.hid (HVj.out.heap fun b o e => hT'.2.1 b (by
              obtain ⟨b4, o4, e4, hc4, _⟩ := HVj.out.2.2 j hjl
              rw [e4] at e
              injection e with e
              injection e with e _ _
              subst e
              exact World.block_lt_of_cell? _ _ hc4) (HNTj.out b o e))
            have HNn : Hid (∀ q o, some (⟨b3, o3, none⟩ : Addr) = some ⟨q, o, none⟩ → ¬ T W' q) := fun q o e ht => by
              rcases hT'.2.2 q ht with h | h
              · exact HNTj.out q o e h
              · have := World.block_lt_of_cell? _ _ hcy
                injection e with e
                injection e with e _ _
                subst e
                simp at this
                omega
            clear hJ' hT' hy HR2 hcy
            gi_wp2
            go_roundw
            case rel => exact ⟨j + 1, by go_num, by omega, HKn, HVn, HNn⟩
            case measure => simp [intOf]; omega
          · have HX := Lib.hid hX'
            clear hX' hy HR2
            gi_wp2
            exact bodyPost_ret (v := .tuple #[]) (by simp [results, Try.results75, go_sem]) rfl ⟨⟨_, rfl⟩, Or.inr HX.out⟩
        · obtain rfl : j = (toD x.t).length := by omega
          have HKe : Hid (K (edgesFrom (tsOf bs) (k + 1)) wr) := by
            have := HKj.out
            rw [List.drop_length] at this
            exact this
          clear HKj HVj HNTj
          gi_wp2
          go_roundw
          case rel => exact ⟨k + 1, by go_num, by omega, HKe⟩
          case measure => simp [intOf]; omega
    · obtain rfl : k = bn := by omega
      have HE : Hid (edgesFrom (tsOf bs) k = []) := edgesFrom_end _ _ (by rw [tsOf_len, HLN.out]; omega)
      gi_wp2
      go_end0
      exact ⟨⟨_, rfl⟩, Or.inl ⟨_, HE.out, HK.out⟩⟩
end

section
open Go.RowKit

theorem zero_int (w : World) : (zeroValue 3).run Try.prog w = .ok (.int .i64 0) w := by kernel_rfl
/-- what holds between the rounds of All -/
def AllJ (w : World) (ls : List TileR) (k m M : Nat) (v : Value) (wr : World) : Prop :=
  IMap wr M (belowF (tdOf ls) k m) ∧ OwnI wr (M + 1) v (rawL (tdOf ls) k m) ∧ Below w.heap.size w wr ∧ w.heap.size ≤ M ∧ M < wr.heap.size
set_option maxRecDepth 100000 in
set_option maxHeartbeats 4000000 in
theorem all_any (a : Option Addr) (n c : Nat) (ls : List TileR) (k : Int) (w : World) (h : TilesOK w a n ls) (hk : I64 k) (hT : totL (tdOf ls) ≤ 1000000) :
    Calls Try.prog 22 #[.slice a n c, .int .i64 k] w (IntsPost w (allL (tdOf ls) k)) := by
  have hn := h.1.2.1
  have HL := Lib.hid h.1.1
  have H := Lib.hid h
  obtain ⟨hk1, hk2⟩ := hk
  clear h
  by_cases hr : 0 ≤ k ∧ k < n
  rotate_left
  · have HE : Hid (allL (tdOf ls) k = []) := by
      rw [Hid, allL, if_neg]
      rw [tdOf_len, HL.out]
      exact fun h => hr ⟨h.1, h.2.1⟩
    by_cases h0 : k < 0
    all_goals
      go_enter Try.func22, Try.ntmps22
      go_wp2
      go_ret
      rw [HE.out]
      exact ⟨_, rfl, OwnI.nil _ _, Below.refl _ _⟩
  obtain ⟨hr1, hr2⟩ := hr
  have hr3 : ¬ k < 0 := by omega
  obtain ⟨kn, rfl⟩ : ∃ kn : Nat, k = (kn : Int) := ⟨k.toNat, by omega⟩
  by_cases hp : parentsB (tdOf ls) = true
  rotate_left
  · have HE : Hid (allL (tdOf ls) (kn : Int) = []) := by
      rw [Hid, allL, if_neg]
      exact fun h => hp h.2.2
    have hp' : parentsB (tdOf ls) = false := by simpa using hp
    have HP := Lib.hid hp'
    clear hp hp'
    go_enter Try.func22, Try.ntmps22
    go_wp2_with (go_at_call 35; refine (parents_any a n c ls w H.out).mono ?_; rintro e w1 ⟨rfl, hb⟩; rw [HP.out]; have HB := Lib.hid hb; clear hb)
    go_ret
    rw [HE.out]
    exact ⟨_, rfl, OwnI.nil _ _, HB.out⟩
  have HP := Lib.hid hp
  have hkl : kn < ls.length := by rw [HL.out]; omega
  have HEA : Hid (allL (tdOf ls) (kn : Int) = sortD (rawL (tdOf ls) kn (tdOf ls).length)) := by
    rw [Hid, allL, if_pos ⟨by omega, by rw [tdOf_len]; omega, hp⟩, Int.toNat_natCast]
  clear hp
  have hmm := @run_makeMap Try.prog
  go_enter Try.func22, Try.ntmps22
  go_upto_region 3 with (first
    | (go_at_call 35
       refine (parents_any a n c ls w H.out).mono ?_
       rintro e w1 ⟨rfl, hb⟩
       rw [HP.out]
       have HB := Lib.hid hb
       clear hb))
  obtain ⟨o0, hput0, hmap0⟩ := IMap.put (P := Try.prog) (IMap.made w1) Try.underlying88 Try.underlying3 (kn : Int) (.int .i64 1)
  rw [belowF_zero (tdOf ls)] at hmap0
  have HM0 := Lib.hid hmap0
  clear hmap0
  go_upto_region 4 with (fail)
  obtain ⟨W, hW⟩ : ∃ W, W = (w1.alloc (.map #[] 0)).putObj w1.heap.size o0 := ⟨_, rfl⟩
  rw [← hW]
  rw [← hW] at HM0
  have hWB : Below w1.heap.size w1 W := by rw [hW]; exact ((Below.refl _ w1).alloc (Nat.le_refl _) _).grown (grownBy_putObj' _ w1.heap.size o0) (by simp) (fun k e => by cases e; exact Nat.le_refl _)
  have hWs : W.heap.size = w1.heap.size + 1 := by rw [hW]; simp
  have HWB := Lib.hid hWB
  have HWs := Lib.hid hWs
  obtain ⟨t, b, o, hlk, hok, rfl, c0, c1, c2⟩ := ((H.out.ext HB.out).ext hWB).cells (k := kn) (by omega)
  have HTK : Hid (blkL (tdOf ls) kn = t.d.blocks) := by rw [Hid, blkL, tdOf_at ls kn t hlk]
  have HOK := Lib.hid hok.1
  clear hput0 hmm hW hWB hWs hlk hok
  go_upto_region 5 with (first
    | (go_at_call 47
       refine (cloneInts_any t.ba t.bn t.bc t.d.blocks W HOK.out).mono ?_
       rintro e w2 ⟨v, rfl, ho, hb⟩
       have HO := Lib.hid ho
       have HB2 := Lib.hid hb
       clear ho hb))
  have HJ0 : Hid (AllJ w ls kn 0 w1.heap.size v w2) := by
    refine ⟨HM0.out.ext HB2.out, ?_, ext_trans (ext_trans HB.out HWB.out) HB2.out, HB.out.size, ?_⟩
    · have h1 := HO.out.mono (base' := w1.heap.size + 1) (by rw [HWs.out]; omega)
      rw [rawL_zero, HTK.out]
      exact h1
    · have := HB2.out.size; rw [HWs.out] at this; omega
  generalize w1.heap.size = M at *
  clear c0 c1 c2 HOK HTK HO HB2 HM0 HWB HWs HB
  go_wp2
  go_loopg [6, 33] n (fun gg s6 s33 wr => ∃ (m : Nat), s33 = .int .i64 (m : Int) ∧ m ≤ n ∧ n ≤ gg + m ∧ Hid (AllJ w ls kn m M s6 wr))
  case atStart => exact ⟨0, rfl, Nat.zero_le _, Nat.le_refl _, HJ0⟩
  case round =>
    obtain ⟨m, rfl, hm, hgg, HJ⟩ := hrel
    clear HJ0
    by_cases hlt : m < n
    · have hml : m < (tdOf ls).length := by rw [tdOf_len, HL.out]; exact hlt
      have hkl2 : kn < (tdOf ls).length := by rw [tdOf_len]; exact hkl
      obtain ⟨t, b2, o2, hlk, hok, e2, c0', c1', c2'⟩ := H.out.cells hlt
      have c0 := cell_ext HJ.out.2.2.1 c0'
      have c1 := cell_ext HJ.out.2.2.1 c1'
      have c2 := cell_ext HJ.out.2.2.1 c2'
      clear c0' c1' c2'
      injection e2 with e2
      injection e2 with e2 e3
      subst e2 e3
      have htd := tdOf_at ls m t hlk
      have HTP : Hid (parL (tdOf ls) m = t.d.parent) := by rw [Hid, parL, htd]
      have HTB : Hid (blkL (tdOf ls) m = t.d.blocks) := by rw [Hid, blkL, htd]
      have HRS := Lib.hid (rawL_step HP.out kn m hkl2 hml)
      have HBS := Lib.hid (belowF_step HP.out kn m hkl2 hml)
      have HBP := Lib.hid (belowF_par HP.out kn m hml)
      have HRL := Lib.hid (rawL_len (tdOf ls) kn m (by omega))
      have HOK := Lib.hid hok.1
      have hp1 := hok.2.2.2.1
      have hp2 := hok.2.2.2.2
      have hbl : t.d.blocks.length = t.bn := hok.1.1
      have hble := blkL_le (tdOf ls) m
      rw [HTB.out, hbl] at hble
      have HBL := Lib.hid hbl
      clear hlk htd hok hbl
      go_upto_region 8 with (fail)
      obtain ⟨W1, hW1⟩ : ∃ W1, W1 = wr.alloc (tileO t) := ⟨_, rfl⟩
      rw [← hW1]
      have hB1 : Below wr.heap.size wr W1 := by rw [hW1]; exact ext_alloc _ _
      have hx1 : W1.heap[wr.heap.size]? = some (tileO t) := by rw [hW1, heap_alloc_new]
      have d1 : W1.cell? ⟨wr.heap.size, 1, none⟩ = some (.int .i64 t.d.parent) := by rw [cell_of_row _ _ _ _ _ _ hx1]; rfl
      have d2 : W1.cell? ⟨wr.heap.size, 2, none⟩ = some (.slice t.ba t.bn t.bc) := by rw [cell_of_row _ _ _ _ _ _ hx1]; rfl
      have HIM := Lib.hid (HJ.out.1.ext hB1)
      have HO := Lib.hid (HJ.out.2.1.ext hB1)
      have HBW := Lib.hid (ext_trans HJ.out.2.2.1 hB1)
      have hMs : M < W1.heap.size := by have := HJ.out.2.2.2.2; have := hB1.size; omega
      have hwM := HJ.out.2.2.2.1
      have hqM : M < wr.heap.size := HJ.out.2.2.2.2
      have hlk := IMap.look (w := W1) (P := Try.prog) HIM.out Try.underlying88 Try.underlying3 (zero_int _) t.d.parent
      have HX1 := Lib.hid hx1
      have HB1 := Lib.hid hB1
      clear hW1 hx1 hB1 c0 c1 c2 HJ
      generalize hq : wr.heap.size = q at *
      clear hq
      have HUP : Hid ((decide (0 ≤ t.d.parent) && (belowF (tdOf ls) kn m t.d.parent).isSome) = upB (tdOf ls) kn m) := by rw [Hid, ← HTP.out]; exact HBP.out
      have HLK : Hid (∀ x, belowF (tdOf ls) kn m x = none ∨ belowF (tdOf ls) kn m x = some (.int .i64 1)) := fun x => by
        unfold belowF
        by_cases hc : x = kn ∨ (0 ≤ x ∧ x < m ∧ descB (tdOf ls) kn x.toNat = true)
        · exact .inr (if_pos hc)
        · exact .inl (if_neg hc)
      cases hu : upB (tdOf ls) kn m with
      | false =>
        have HN : Hid (AllJ w ls kn (m + 1) M u6 W1) := by
          refine ⟨?_, ?_, HBW.out, hwM, hMs⟩
          · rw [HBS.out, hu]; exact HIM.out
          · rw [HRS.out, hu]; exact HO.out
        have hu2 := HUP.out
        rw [hu] at hu2
        by_cases h0 : 0 ≤ t.d.parent
        · have hno : belowF (tdOf ls) kn m t.d.parent = none := by
            rcases HLK.out t.d.parent with e | e
            · exact e
            · rw [e, decide_eq_true h0] at hu2; cases hu2
          rw [hno] at hlk
          simp only [Option.getD_none] at hlk
          clear hu2 hu hno
          go_wp2
          go_roundg (n - (m + 1))
          case measure => omega
          case rel => exact ⟨m + 1, by go_num, by omega, by omega, HN⟩
        · clear hu2 hu hlk
          go_wp2
          go_roundg (n - (m + 1))
          case measure => omega
          case rel => exact ⟨m + 1, by go_num, by omega, by omega, HN⟩
      | true =>
        have hu2 := HUP.out
        rw [hu] at hu2
        have h0 : 0 ≤ t.d.parent := by
          by_cases h0 : 0 ≤ t.d.parent
          · exact h0
          · rw [decide_eq_false h0] at hu2; cases hu2
        have hyes : belowF (tdOf ls) kn m t.d.parent = some (.int .i64 1) := by
          rcases HLK.out t.d.parent with e | e
          · rw [e, decide_eq_true h0] at hu2; cases hu2
          · exact e
        rw [hyes] at hlk
        simp only [Option.getD_some] at hlk
        obtain ⟨o1, hput1, hmap1⟩ := IMap.put (P := Try.prog) HIM.out Try.underlying88 Try.underlying3 (m : Int) (.int .i64 1)
        have hgp := grownBy_putObj' W1 M o1
        have HIM2 : Hid (IMap (W1.putObj M o1) M (belowF (tdOf ls) kn (m + 1))) := by rw [Hid, HBS.out, hu]; exact hmap1
        have HR2 : Hid (rawL (tdOf ls) kn (m + 1) = rawL (tdOf ls) kn m ++ t.d.blocks) := by rw [Hid, HRS.out, hu, ← HTB.out]; rfl
        have hlow : ∀ r, u6.ownBlock = some r → M + 1 ≤ r := fun r e => (HO.out.1.lt r e).1
        have HO2 := Lib.hid (HO.out.kept hgp (by
          cases e : u6.ownBlock with
          | none => exact .inl rfl
          | some r => exact .inr fun e2 => by injection e2 with e2; have := hlow r e; omega))
        have HBW2 := Lib.hid (HBW.out.grown hgp (by omega) (fun r e => by cases e; exact hwM))
        have hx2 : (W1.putObj M o1).heap[q]? = some (tileO t) := (World.putObj_heap_other (by omega)).trans HX1.out
        have d3 : (W1.putObj M o1).cell? ⟨q, 2, none⟩ = some (.slice t.ba t.bn t.bc) := by rw [cell_of_row _ _ _ _ _ _ hx2]; rfl
        have HI2 : Hid (Ints (W1.putObj M o1) t.ba t.bn t.d.blocks) := HOK.out.ext HBW2.out
        have hsz2 : (W1.putObj M o1).heap.size = W1.heap.size := by simp
        obtain ⟨av, cv, hv⟩ := HO.out.form
        have hrl := HRL.out
        have hh := HO.out.2.1
        clear hu2 hu hyes hmap1 hgp hx2
        have HHH := Lib.hid hh
        clear hh
        go_wp2_with (
          (at_builtin
           refine wpList_appendR (W1.putObj M o1) rfl (.tmp 50) (.tmp 52) 22 3 rfl (M + 1) _ 1 8 Try.underlying22 infoI rfl (by omega) u6 (rawL (tdOf ls) kn m).length _ rfl HO2.out.1 t.ba t.bn t.bc rfl (intVals t.d.blocks) (by rw [intVals_len, HBL.out, Nat.mul_one]) HI2.out.news (intVals_one _) (by simp only [maxLen]; omega) (by omega) (by simp; omega) ?_
           intro v3 w3 ho3 hg3 hv3
           have HO3 := Lib.hid ho3
           have HG3 := Lib.hid hg3
           clear ho3 hg3 hv3))
        go_roundg (n - (m + 1))
        case measure => omega
        case rel =>
          refine ⟨m + 1, by go_num, by omega, by omega, HIM2.out.grown HG3.out (fun e => by have := hlow M e.symm; omega), ?_, HBW2.out.grown HG3.out (by rw [hsz2]; omega) (fun r e => by have := hlow r e; omega), hwM, by have := HG3.out.size; rw [hsz2] at this; omega⟩
          rw [HR2.out]
          refine ⟨?_, ?_, by rw [List.length_append, HBL.out]; omega⟩
          · have e3 : (rawL (tdOf ls) kn m ++ t.d.blocks).length = (rawL (tdOf ls) kn m).length + t.bn := by rw [List.length_append, HBL.out]
            have e4 : intVals (rawL (tdOf ls) kn m ++ t.d.blocks) = intVals (rawL (tdOf ls) kn m) ++ intVals t.d.blocks := by simp [intVals]
            rw [e3, e4]
            exact HO3.out
          · intro z hz
            rcases List.mem_append.1 hz with hz | hz
            · exact HHH.out z hz
            · exact HOK.out.mem z hz
    · obtain rfl : m = n := by omega
      have HJ1 := HJ.out.2.1
      have HJ2 := Lib.hid HJ.out.2.2
      have HO := Lib.hid HJ1
      clear HJ1 HJ
      go_wp2_with (first
        | (go_at_call 49
           refine (compactI_any _ _ _ w4 HO4.out).mono ?_
           rintro e w5 ⟨v5, rfl, ho, hg⟩
           have HO5 := Lib.hid ho
           have HG5 := Lib.hid hg
           clear ho hg)
        | (go_at_call 48
           refine (sortI_any _ _ _ wr HO.out).mono ?_
           rintro e w4 ⟨rfl, ho, hg⟩
           have HO4 := Lib.hid ho
           have HG4 := Lib.hid hg
           clear ho hg))
      go_ret
      have e1 : (tdOf ls).length = m := by rw [tdOf_len, HL.out]
      rw [HEA.out, e1, ← compact_sort]
      have hlow : ∀ r, u6.ownBlock = some r → M + 1 ≤ r := fun r e => (HO.out.1.lt r e).1
      have hs4 := HG4.out.size
      refine ⟨_, rfl, HO5.out.mono (by have := HJ2.out.2.1; omega), (HJ2.out.1.grown HG4.out HJ2.out.1.size (fun r e => by have := hlow r e; have := HJ2.out.2.1; omega)).grown HG5.out (by have := HJ2.out.1.size; omega) (fun r e => by have := hlow r e; have := HJ2.out.2.1; omega)⟩
end
end Go.Proofs.Ytblhmdhfhaencaa
