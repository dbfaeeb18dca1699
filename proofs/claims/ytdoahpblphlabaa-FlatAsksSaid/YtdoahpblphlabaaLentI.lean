/-
  Walks: LentInts, KeptInts.
-/
import Derived.Test.YtdoahpblphlabaaMark
import Derived.Test.YtdoahpblphlabaaRows2
import Derived.Test.YtdoahpblphlabaaAppend
import Derived.Test.YtdoahpblphlabaaFlatBase
namespace Go.Proofs.Ytdoahpblphlabaa
set_option linter.unusedSimpArgs false
set_option linter.unusedVariables false
open Go.RowKit

theorem infoI : (Try.prog.info? 3).map (fun i => (i.zero, i.size, i.bytes)) = some (some (.int .i64 0), 1, 8) := by kernel_rfl
def marks : List Int := (List.range 12).map fun (i : Nat) => markV 1 (i : Int)
theorem marks_len : marks.length = 12 := by simp [marks]
theorem marks_at (k : Nat) (h : k < 12) : marks.getD k 0 = markV 1 (k : Int) := by simp [marks, List.getD, h]
def intVals (xs : List Int) : List Value := xs.map (Value.int .i64)
theorem intVals_len (xs : List Int) : (intVals xs).length = xs.length := by simp [intVals]
theorem intVals_one (xs : List Int) : ∀ u ∈ intVals xs, u.oneCell' = true := by
  intro u hu
  simp only [intVals, List.mem_map] at hu
  obtain ⟨x, _, rfl⟩ := hu
  rfl

/-- what is lent: the list, with marks behind it -/
def Lent (w : World) (base : Nat) (v : Value) (xs : List Int) : Prop :=
  ∃ g cap, v = .slice (some ⟨g, 0, none⟩) xs.length cap ∧ w.ownsRow base 3 1 (.slice (some ⟨g, 0, none⟩) (xs.length + 12) cap) (xs.length + 12) (intVals (xs ++ marks))
def LentPost (w : World) (xs : List Int) (e : Ending) (w' : World) : Prop := ∃ v, e = .returned v ∧ Lent w' w.heap.size v xs ∧ Below w.heap.size w w'

theorem Lent.ext {w w' : World} {base : Nat} {v : Value} {xs : List Int} (h : Lent w base v xs) (hb : Below w.heap.size w w') : Lent w' base v xs := by
  obtain ⟨g, cap, rfl, hown⟩ := h
  exact ⟨g, cap, rfl, (Steady.ownsRow w.heap.size _ _ _ _ _ _).ext hown hb⟩
theorem Lent.cells {w : World} {base : Nat} {v : Value} {xs : List Int} (h : Lent w base v xs) : ∃ g cap, v = .slice (some ⟨g, 0, none⟩) xs.length cap ∧ xs.length + 12 ≤ cap ∧ cap ≤ maxLen ∧
    (∀ k, k < xs.length → w.cell? ⟨g, k, none⟩ = some (.int .i64 (xs.getD k 0))) ∧ (∀ k, k < 12 → w.cell? ⟨g, xs.length + k, none⟩ = some (.int .i64 (markV 1 (k : Int)))) := by
  obtain ⟨g, cap, rfl, hown⟩ := h
  have hadd : ∀ k, (⟨g, 0, none⟩ : Addr).add k = ⟨g, k, none⟩ := fun k => by unfold Addr.add; split <;> simp_all
  have hc : xs.length + 12 ≤ cap ∧ cap ≤ maxLen := by
    rcases hown.2 with ⟨h0, _⟩ | ⟨g', cap', cur, hv, _, _, h1, h2, _⟩
    · cases h0
    · injection hv with _ _ hcc
      subst hcc
      exact ⟨h1, h2⟩
  refine ⟨g, cap, rfl, hc.1, hc.2, fun k hk => ?_, fun k hk => ?_⟩
  · have := hown.cells (g := g) rfl k (.int .i64 (xs.getD k 0)) (by rw [intVals, List.map_append, List.getElem?_append_left (by simpa using hk)]; simp [List.getD, hk])
    rwa [hadd] at this
  · have := hown.cells (g := g) rfl (xs.length + k) (.int .i64 (marks.getD k 0)) (by
      have hk' : k < marks.length := by rw [marks_len]; exact hk
      simp [intVals, List.getElem?_append_right, List.getD, hk'])
    rw [marks_at k hk, hadd] at this
    exact this
theorem Lent.ints {w : World} {base : Nat} {v : Value} {xs : List Int} (h : Lent w base v xs) (hl : xs.length ≤ 17592186044416) (hw : ∀ x ∈ xs, I64 x) : ∃ a c, v = .slice a xs.length c ∧ Ints w a xs.length xs := by
  obtain ⟨g, cap, rfl, _, _, h1, _⟩ := h.cells
  exact ⟨_, _, rfl, rfl, hl, fun k hk => ⟨g, 0, rfl, by simpa using h1 k hk, hw _ (by simp [List.getD, hk])⟩⟩

set_option maxRecDepth 100000 in
set_option maxHeartbeats 1000000 in
theorem lentInts_any (a : Option Addr) (n c : Nat) (xs : List Int) (w : World) (h : Ints w a n xs) (hn : n ≤ 1000000) :
    Calls Try.prog 19 #[.slice a n c] w (LentPost w xs) := by
  obtain ⟨i0, hi, hz0, hz1, hz2⟩ := info_parts (P := Try.prog) infoI
  have HL := Lib.hid h.1
  have H := Lib.hid h
  clear h
  go_enter Try.func19, Try.ntmps19
  go_wp2_with (first
    | (at_make
       refine wpList_make_own _ rfl _ _ 22 rfl w.heap.size 3 i0 (.int .i64 0) 1 Try.underlying22 hi hz0 hz1 .i64 .i64 _ (n + 12) rfl rfl (by omega) (by rw [hz2]; omega) (by simp only [maxLen]; omega) (Nat.le_refl _) ?_
       intro w1 hown1 hg1
       have HO1 := Lib.hid hown1
       have HB1 : Hid (Below w.heap.size w w1) := (Below.refl _ _).grown hg1 (Nat.le_refl _) (by simp)
       clear hown1 hg1)
    | (at_builtin
       refine wpList_appendS _ rfl (.tmp 9) (.tmp 10) 22 3 rfl w.heap.size (.int .i64 0) 8 Try.underlying22 infoI rfl _ 0 [] rfl HO1.out a n c rfl (intVals xs) (by rw [intVals_len, HL.out]) (by
         intro j u hu
         have hj : j < n := by
           have := (List.getElem?_eq_some_iff.1 hu).1
           rwa [intVals_len, HL.out] at this
         obtain ⟨b, o, rfl, hc, _⟩ := (H.out.ext HB1.out).2.2 j hj
         refine ⟨_, rfl, ?_⟩
         have hadd : (⟨b, o, none⟩ : Addr).add j = ⟨b, o + j, none⟩ := by unfold Addr.add; split <;> simp_all
         rw [hadd, hc]
         have hj' : j < xs.length := by rw [HL.out]; exact hj
         simp [intVals, hj'] at hu
         simp [List.getD, hj', hu]) (intVals_one xs) (by simp only [maxLen]; omega) (by omega) HB1.out.size ?_
       intro v2 w2 hown2 hg2 hat2
       have HO2 := Lib.hid hown2
       have HB2 : Hid (Below w.heap.size w w2) := HB1.out.grown hg2 HB1.out.size (fun k e => (HO1.out.lt k e).1)
       clear hown2 hg2 hat2))
  have HO3 : Hid (w2.ownsRow w.heap.size 3 1 v2 (n + 0) (intVals (xs ++ marks.take 0))) := by
    have := HO2.out
    rw [Hid]
    simpa using this
  clear HO2 HO1 HB1
  go_loopw [3, 4] (fun v i wr => ∃ (k : Nat), k ≤ 12 ∧ i = .int .i64 k ∧ Hid (wr.ownsRow w.heap.size 3 1 v (n + k) (intVals (xs ++ marks.take k))) ∧ Hid (Below w.heap.size w wr)) (fun _ i _ => 12 - (intOf i).toNat)
  case atStart => exact ⟨0, by omega, rfl, HO3, HB2⟩
  case round =>
    clear HO3 HB2
    obtain ⟨k, hk, rfl, HO, HB⟩ := hrel
    by_cases hlt : k < 12
    · have HS : Hid (intVals (xs ++ marks.take (k + 1)) = intVals (xs ++ marks.take k) ++ [.int .i64 (markV 1 (k : Int))]) := by
        rw [Hid, takeS marks k 0 (by rw [marks_len]; exact hlt), marks_at k hlt, ← List.append_assoc, intVals, List.map_append]
        rfl
      go_wp2_with (first
        | (go_at_call 40; refine (mark_any _ _ _ (by omega) (by omega)).mono ?_; rintro e w' ⟨rfl, rfl⟩)
        | (at_builtin
           refine wpList_append1 rfl wr (.tmp 16) (.tmp 19) 22 3 rfl w.heap.size _ 1 8 Try.underlying22 infoI rfl (by omega) u3 (n + k) _ [.int .i64 (markV 1 (k : Int))] rfl HO.out wr.heap.size rfl rfl rfl (by simp [Value.oneCell']) (by simp only [maxLen]; omega) (by omega) HB.out.size ?_
           intro g cap w2 hown2 hg2 hat2
           have HO2 : Hid (w2.ownsRow w.heap.size 3 1 (.slice (some ⟨g, 0, none⟩) (n + k + 1) cap) (n + k + 1) (intVals (xs ++ marks.take (k + 1)))) := by rw [Hid, HS.out]; exact hown2
           have HB2 : Hid (Below w.heap.size w w2) := HB.out.grown hg2 HB.out.size (fun j e => (HO.out.lt j e).1)
           clear hown2 hat2 hg2))
      go_roundw
      case rel => exact ⟨k + 1, by omega, by go_num, HO2, HB2⟩
      case measure => simp [intOf]; omega
    · obtain rfl : k = 12 := by omega
      have hown := HO.out
      have hform : ∃ g cap, u3 = .slice (some ⟨g, 0, none⟩) (n + 12) cap ∧ n + 12 ≤ cap ∧ cap ≤ maxLen := by
        rcases hown.2 with ⟨_, h0⟩ | ⟨g', cap', cur, hv, _, _, h1, h2, _⟩
        · omega
        · exact ⟨_, _, hv, h1, h2⟩
      obtain ⟨g, cap, rfl, hc1, hc2⟩ := hform
      clear hown
      unfold maxLen at hc2
      go_wp2
      go_ret
      refine ⟨_, rfl, ⟨g, cap, by rw [HL.out]; rfl, ?_⟩, HB.out⟩
      have := HO.out
      rw [HL.out]
      rw [List.take_of_length_le (by rw [marks_len]; omega)] at this
      exact this
theorem quiet_left {P : Program} {f : FuncId} {args : Array Value} {w : World} {n : Nat} {v : Value}
    (h : Calls P f args (w.drewN n) fun e w' => e = .returned v ∧ w.drewN n = w') : Calls P f args (w.drewN n) fun e w'' => e = .returned v ∧ ∃ m, w'' = w.drewN m :=
  h.mono fun _ _ ⟨he, hm⟩ => ⟨he, n, hm.symm⟩
theorem quiet_add_left {P : Program} {f : FuncId} {args : Array Value} {w : World} {a n : Nat} {v : Value}
    (h : Calls P f args (w.drewN (a + n)) fun e w' => e = .returned v ∧ w.drewN (a + n) = w') :
    Calls P f args (w.drewN (a + n)) fun e w'' => e = .returned v ∧ ∃ m, w'' = w.drewN (a + m) :=
  h.mono fun _ _ ⟨he, hm⟩ => ⟨he, n, hm.symm⟩

set_option maxRecDepth 100000 in
set_option maxHeartbeats 1000000 in
theorem keptInts_any (base : Nat) (v : Value) (a : Option Addr) (n c : Nat) (xs : List Int) (w : World) (hL : Lent w base v xs) (h : Ints w a n xs) (hn : n ≤ 1000000) :
    Calls Try.prog 27 #[v, .slice a n c] w fun e w' => e = .returned (.bool true) ∧ ∃ q, w' = w.drewN q := by
  obtain ⟨g, cap, rfl, hc1, hc2, hx, hm⟩ := hL.cells
  obtain ⟨hl, _, hc⟩ := h
  rw [hl] at hc1 hx hm ⊢
  have HX := Lib.hid hx
  have HM := Lib.hid hm
  have HC := Lib.hid hc
  clear hx hm hc hL hl
  unfold maxLen at hc2
  have b0 : ((n : Int) != (n : Int)) = false := by simp
  go_enter Try.func27, Try.ntmps27
  go_wp2
  go_loopw [6] (fun i wr => ∃ (k q : Nat), k ≤ n + 12 ∧ i = .int .i64 k ∧ wr = w.drewN q) (fun i _ => n + 12 - (intOf i).toNat)
  case atStart => exact ⟨0, 0, by omega, rfl, rfl⟩
  case round =>
    obtain ⟨k, q, hk, rfl, rfl⟩ := hrel
    by_cases hlt : k < n + 12
    · by_cases hkn : k < n
      · obtain ⟨b, o, rfl, hcell, _⟩ := HC.out k hkn
        have hcell' := HX.out k hkn
        have d1 : decide (k < n) = true := by simpa using hkn
        have d2 : decide (n ≤ k) = false := by simp; omega
        generalize xs.getD k 0 = x at *
        go_wp2
        go_quiet (fail)
        go_wp2
        go_roundw
        case rel => exact ⟨k + 1, _, by omega, by go_num, rfl⟩
        case measure => simp [intOf]; omega
      · obtain ⟨j, rfl⟩ : ∃ j, k = n + j := ⟨k - n, by omega⟩
        have hcell' := HM.out j (by omega)
        have hj : j < 12 := by omega
        have d1 : decide (n + j < n) = false := by simp
        have d2 : decide (n ≤ n + j) = true := by simp
        have d3 : decide ((n : Int) + (j : Int) < (n : Int)) = false := by simp; omega
        have d4 : decide ((n : Int) ≤ (n : Int) + (j : Int)) = true := by simp; omega
        have d5 : IntKind.i64.wrap ((n : Int) + (j : Int) - (n : Int)) = (j : Int) := by rw [IntKind.wrap_i64]; omega
        clear hkn
        go_wp2
        go_quiet ((go_at_call 40; exact quiet_add_left (mark_any 1 (j : Int) _ (by omega) (by omega))))
        go_wp2
        go_roundw
        case rel => exact ⟨n + j + 1, _, by omega, by go_num, rfl⟩
        case measure => simp [intOf]; omega
    · go_wp2
      go_ret
      exact ⟨rfl, _, rfl⟩
end Go.Proofs.Ytdoahpblphlabaa
