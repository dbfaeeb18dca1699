/-
  SlotApart: the walk of the law.
-/
import Derived.Test.YtkakanjoeofjcaaApart
import Derived.Test.YtkakanjoeofjcaaShares
import Derived.Test.YtkakanjoeofjcaaOrderWalk
import Derived.Deep.CutRange
import Derived.Deep.DeepCutAuto
namespace Go.Proofs.Ytkakanjoeofjcaa
open Go.RowKit

/-- the same in parts -/
structure ApartG (xs : List Int) (ps : List (Int × Int)) (t : Bool) (vs hs : List Int) (tm : Int) (z : Nat) (own : List Int) : Prop where
  size1 : z ≤ 400
  apart : ∀ k, k < ps.length → shareB vs xs (ps.getD k (0, 0)).1 (ps.getD k (0, 0)).2 = false
  vlt : ∀ i, i < xs.length → ∃ j : Nat, vs.getD i 0 = (j : Int) ∧ j < z
  ownEq : own = hs ++ (if t then [tm] else [])
  ownLt : ∀ k, k < own.length → ∃ j : Nat, own.getD k 0 = (j : Int) ∧ j < z
  ownNew : ∀ k, k < own.length → own.getD k 0 ∉ vs ++ own.take k
  full : ∀ j : Nat, j < z → (j : Int) ∈ vs ++ own
  last : t = false → tm = -1 ∧ (xs.length = 0 ∨ (z : Int) - own.length ≤ (widestOf ps xs : Int) + 1)
def GoodPost (w : World) (xs : List Int) (ps : List (Int × Int)) (t : Bool) (n l : Nat) (e : Ending) (w' : World) : Prop :=
  ∃ (a1 a2 : Option Addr) (c1 c2 : Nat) (vs hs : List Int) (tm : Int) (z : Nat) (own : List Int), e = .returned (.tuple #[.agg #[.slice a1 n c1, .slice a2 l c2, .int .i64 tm, .int .i64 (z : Int)], .int .i64 0]) ∧
    Ints w' a1 n vs ∧ Ints w' a2 l hs ∧ Below w.heap.size w w' ∧ ApartG xs ps t vs hs tm z own ∧ z ≤ n + l + 1 ∧ n ≤ c1 ∧ l ≤ c2 ∧ c1 ≤ 9223372036854775807 ∧ c2 ≤ 9223372036854775807 ∧ -1 ≤ tm ∧ tm < 1000 ∧ n ≤ 200 ∧ l ≤ 64
theorem getD_mem {α : Type} {l : List α} {k : Nat} {d : α} (h : k < l.length) : l.getD k d ∈ l := by
  rw [List.getD_eq_getElem?_getD, List.getElem?_eq_getElem h]
  simp
theorem of_good (a : Option Addr) (n c : Nat) (xs : List Int) (a' : Option Addr) (m c' : Nat) (ps : List (Int × Int)) (a'' : Option Addr) (l c'' : Nat) (rs : List Int) (t : Bool) (w : World)
    (h : Ints w a n xs) (h' : Prs w a' m ps) (h'' : Ints w a'' l rs) (hm : m ≤ 1000000) (hok : okAll xs ps rs = true) :
    Calls Try.prog 11 #[.slice a n c, .slice a' m c', .slice a'' l c'', .bool t] w (GoodPost w xs ps t n l) := by
  refine (of_any a n c xs a' m c' ps a'' l c'' rs t w h h' h'' hm).mono ?_
  have A := apartF_of xs ps rs t hok
  have S := fr_small xs ps rs t
  generalize frOf xs ps rs t = F at *
  rintro e w' ⟨a1, c1, a2, c2, rfl, -, -, h1, h2, k1, k2, k3, k4, -, hb⟩
  have e1 : F.vars.length = n := A.vlen.trans h.1
  have e2 : F.homes.length = l := A.hlen.trans h''.1
  obtain ⟨z, hz⟩ : ∃ z : Nat, F.size = (z : Int) := ⟨F.size.toNat, by omega⟩
  rw [e1] at h1 k1 ⊢
  rw [e2] at h2 k2 ⊢
  rw [A.err, hz]
  refine ⟨a1, a2, c1, c2, F.vars, F.homes, F.temp, z, ownOf F t, rfl, h1, h2, hb, ⟨?_, ?_, ?_, A.ownEq, ?_, A.ownNew, ?_, ?_⟩, ?_, k1, k2, k3, k4, S.2.2.2.2.1, S.2.2.2.2.2.1, ?_, ?_⟩
  · have := A.size2; omega
  · intro k hk
    exact A.apart _ (getD_mem hk)
  · intro i hi
    have := A.vlt i hi
    exact ⟨(F.vars.getD i 0).toNat, by omega, by omega⟩
  · intro k hk
    have := A.ownLt k hk
    exact ⟨((ownOf F t).getD k 0).toNat, by omega, by omega⟩
  · intro j hj
    exact A.full j (by omega)
  · intro ht
    have := A.last ht
    rw [hz] at this
    exact this
  · have := A.size1
    rw [h.1, h''.1] at this
    omega
  · have := S.1; omega
  · have := S.2.1; omega
theorem okAll_fr (xs : List Int) (ps : List (Int × Int)) (rs : List Int) (t : Bool) (hok : okAll xs ps rs = false) : frOf xs ps rs t = ⟨[], [], 0, 0, 2⟩ := by simp [frOf, hok]

theorem used_made (z : Nat) (vs : List Int) : (madeCells (Value.int .i64 0).cells (z * 1)).toList = intVals (usedOf z (vs.take 0)) := by
  have : (Value.int .i64 0).cells = #[.int .i64 0] := rfl
  rw [this, toList_madeCells_one, Nat.mul_one]
  refine List.ext_getElem (by simp [intVals, usedOf]) fun i h1 h2 => ?_
  simp [intVals, usedOf]
theorem intVals_set (l : List Int) (j : Nat) (x : Int) : (intVals l).set j (.int .i64 x) = intVals (l.set j x) := by simp [intVals, List.map_set]
theorem val_max (a b : Nat) : Value.int .i64 (if a < b then (b : Int) else (a : Int)) = .int .i64 ((max a b : Nat) : Int) := by
  congr 1
  split <;> omega
/-- a slice that reads as a list, of the call's own, behind u -/
def Behind (W : World) (u : Nat) (v : Value) (xs : List Int) : Prop := ∃ a c, v = .slice a xs.length c ∧ Ints W a xs.length xs ∧ ∀ g o s, a = some ⟨g, o, s⟩ → u < g
theorem behind_of {W : World} {base u : Nat} {v : Value} {xs : List Int} {n : Nat} (h : W.ownsRow base 3 1 v n (intVals xs)) (hn : xs.length = n) (hl : xs.length ≤ 17592186044416) (hw : ∀ x ∈ xs, I64 x) (hu : u < base) : Behind W u v xs := by
  subst hn
  obtain ⟨a, c, rfl, hi⟩ := ints_of_own h hl hw
  refine ⟨a, c, rfl, hi, fun g o s e => ?_⟩
  subst e
  have := (World.ownsRow.lt h g rfl).1
  omega
theorem Ints.set_ {w : World} {a : Option Addr} {n : Nat} {xs : List Int} (h : Ints w a n xs) (p : Addr) (v : Value) (hp : ∀ g o s, a = some ⟨g, o, s⟩ → g ≠ p.block) : Ints (w.setCell p v) a n xs :=
  ⟨h.1, h.2.1, fun k hk => by
    obtain ⟨b, o, rfl, hc, hi⟩ := h.2.2 k hk
    refine ⟨b, o, rfl, ?_, hi⟩
    rw [World.cell?_setCell_other _ _ _ _ (fun e => hp b o none rfl (by subst e; rfl))]
    exact hc⟩
/-- the row of marks -/
def Used (w : World) (base u z : Nat) (l : List Int) : Prop := w.ownsRow base 3 1 (.slice (some ⟨u, 0, none⟩) z z) z (intVals (usedOf z l))
theorem used_start {w : World} {base u z : Nat} (vs : List Int) (h : w.ownsRow base 3 1 (.slice (some ⟨u, 0, none⟩) z z) z (madeCells (Value.int .i64 0).cells (z * 1)).toList) : Used w base u z (vs.take 0) := by
  rw [used_made z vs] at h
  exact h
theorem Used.ext {w w' : World} {base u z : Nat} {l : List Int} (h : Used w base u z l) (hb : Below w.heap.size w w') : Used w' base u z l := (Steady.ownsRow w.heap.size _ _ _ _ _ _).ext h hb
theorem Used.drewN {w : World} {base u z : Nat} {l : List Int} (h : Used w base u z l) (q : Nat) : Used (w.drewN q) base u z l := h
theorem Used.at_ {w : World} {base u z : Nat} {l : List Int} (h : Used w base u z l) (j : Nat) (hj : j < z) : w.cell? ⟨u, j, none⟩ = some (.int .i64 (if (j : Int) ∈ l then 1 else 0)) ∧ w.frozen? ⟨u, j, none⟩ = false := by
  refine ⟨?_, World.ownsRow.frozenAt h j⟩
  rw [World.ownsRow.cellAt h j (by omega)]
  have := usedOf_at z l j hj
  have hl := usedOf_len z l
  rw [List.getD_eq_getElem?_getD] at this
  have e : (usedOf z l)[j]? = some (if (j : Int) ∈ l then 1 else 0) := by
    rw [List.getElem?_eq_getElem (by omega)] at this ⊢
    exact congrArg some this
  simp [intVals, e]
theorem Used.set_ {w : World} {base u z : Nat} {l : List Int} (h : Used w base u z l) (x : Int) (j : Nat) (hx : x = (j : Int)) (hj : j < z) : Used (w.setCell ⟨u, j, none⟩ (.int .i64 1)) base u z (l ++ [x]) := by
  have := (World.ownsRow.stored h j (.int .i64 1)).1
  rw [intVals_set, usedOf_set z l x j hx hj] at this
  exact this
theorem Used.base {w : World} {base u z : Nat} {l : List Int} (h : Used w base u z l) : base ≤ u ∧ u < w.heap.size := World.ownsRow.lt h u rfl

set_option maxRecDepth 100000 in
set_option maxHeartbeats 4000000 in
theorem apart_walk (a a' a'' : Option Addr) (n c m c' l c'' : Nat) (xs : List Int) (ps : List (Int × Int)) (rs : List Int) (t : Bool) (w : World) (h : Ints w a n xs) (h' : Prs w a' m ps) (h'' : Ints w a'' l rs) :
    Calls Try.prog 6 #[.slice a n c, .slice a' m c', .slice a'' l c'', .bool t] w fun e w' => e = .returned (.bool true) ∧ Below w.heap.size w w' := by
  have q1 := h.2.1
  have q2 := h'.2.1
  have q3 := h''.2.1
  have H := Lib.hid h
  have H' := Lib.hid h'
  have H'' := Lib.hid h''
  clear h h' h''
  by_cases hbig : 300 < n + m + l
  · have hg : greatB n m l = true := decide_eq_true hbig
    go_enter Try.func6, Try.ntmps6
    go_wp2_with (first
      | (go_at_call 9; refine (awake_any _).mono ?_; rintro e w' ⟨rfl, hb⟩; have HB := Lib.hid hb; clear hb)
      | (go_at_call 8; refine (great_any a a' a'' n c m c' l c'' _ (by omega) (by omega) (by omega)).mono ?_; rintro e w' ⟨rfl, rfl⟩; rw [hg]))
    go_ret
    exact ⟨rfl, HB.out⟩
  · have hg : greatB n m l = false := decide_eq_false hbig
    by_cases hok : okAll xs ps rs = true
    · have HK := Lib.hid hok
      clear hok
      go_enter Try.func6, Try.ntmps6
      go_wp2_with (first
        | (go_at_call 9; refine (awake_any _).mono ?_; rintro e w1 ⟨rfl, hb⟩; have HB := Lib.hid hb; clear hb)
        | (go_at_call 8; refine (great_any a a' a'' n c m c' l c'' _ (by omega) (by omega) (by omega)).mono ?_; rintro e w' ⟨rfl, rfl⟩; rw [hg])
        | (go_at_call 11
           refine (of_good a n c xs a' m c' ps a'' l c'' rs t _ (by exact H.out.ext HB.out) (by exact H'.out.ext HB.out) (by exact H''.out.ext HB.out) (by omega) HK.out).mono ?_
           rintro e w2 ⟨a1, a2, c1, c2, vs, hs, tm, z, own, rfl, hi1, hi2, hb, hA, hz1, k1, k2, k3, k4, ht1, ht2, hn2, hl2⟩
           have HI1 := Lib.hid hi1
           have HI2 := Lib.hid hi2
           have HB2 := Lib.hid (ext_trans HB.out hb)
           have hz4 := hA.size1
           have HA := Lib.hid hA
           clear hi1 hi2 hb hA))
      have hb3 := ext_trans HB2.out (ext_alloc w2 (frC (.slice a1 n c1) (.slice a2 l c2) tm (z : Int) 28))
      have hfr : (w2.alloc (frC (.slice a1 n c1) (.slice a2 l c2) tm (z : Int) 28)).heap[w2.heap.size]? = some (frC (.slice a1 n c1) (.slice a2 l c2) tm (z : Int) 28) := World.alloc_heap_new w2 _
      have HI3 := Lib.hid (HI1.out.ext (ext_alloc w2 (frC (.slice a1 n c1) (.slice a2 l c2) tm (z : Int) 28)))
      have HI4 := Lib.hid (HI2.out.ext (ext_alloc w2 (frC (.slice a1 n c1) (.slice a2 l c2) tm (z : Int) 28)))
      have hlt3 : w2.heap.size < (w2.alloc (frC (.slice a1 n c1) (.slice a2 l c2) tm (z : Int) 28)).heap.size := by simp
      have HB3 := Lib.hid hb3
      have HFR := Lib.hid hfr
      clear hb3 hfr HI1 HI2 HB2 HB
      generalize w2.alloc (frC (.slice a1 n c1) (.slice a2 l c2) tm (z : Int) 28) = W at *
      generalize w2.heap.size = f at *
      have HX := Lib.hid (H.out.ext HB3.out)
      have HP := Lib.hid (H'.out.ext HB3.out)
      have HFC : Hid (∀ V : World, Below W.heap.size W V → V.cell? ⟨f, 0, none⟩ = some (.slice a1 n c1) ∧ V.cell? ⟨f, 1, none⟩ = some (.slice a2 l c2) ∧ V.cell? ⟨f, 2, none⟩ = some (.int .i64 tm) ∧ V.cell? ⟨f, 3, none⟩ = some (.int .i64 (z : Int))) :=
        fun V hV => by
          have := (hV.block _ hlt3).trans HFR.out
          simp [World.cell?, this]
      have hlx := H.out.1
      have HLX := Lib.hid hlx
      have HLP := Lib.hid H'.out.1
      clear hlx HFR H H' H'' hg HK
      go_loopw [11] (fun i wr => ∃ (k : Nat), k ≤ m ∧ i = .int .i64 k ∧ Hid (Below W.heap.size W wr)) (fun i _ => m - (intOf i).toNat)
      case atStart => exact ⟨0, by omega, rfl, Below.refl _ _⟩
      case round =>
        obtain ⟨k, hk, rfl, HB⟩ := hrel
        by_cases hlt : k < m
        · have HS : Hid (shareB vs xs (ps.getD k (0, 0)).1 (ps.getD k (0, 0)).2 = false) := HA.out.apart k (by rw [HLP.out]; exact hlt)
          obtain ⟨b, o, rfl, hcell, hcell', ⟨hw1, hw2⟩, hw3, hw4⟩ := (HP.out.ext HB.out).2.2 k hlt
          generalize ps.getD k (0, 0) = p at *
          obtain ⟨p1, p2⟩ := p
          simp only at hcell hcell' hw1 hw2 hw3 hw4
          obtain ⟨f0, f1, f2, f3⟩ := HFC.out wr HB.out
          have d0 := fun mm : ExtW wr => ExtW.cell f0 mm
          have d1 := fun mm : ExtW wr => ExtW.cell f1 mm
          have d2 := fun mm : ExtW wr => ExtW.cell f2 mm
          have d3 := fun mm : ExtW wr => ExtW.cell f3 mm
          have e1 := fun mm : ExtW wr => ExtW.cell hcell mm
          have e2 := fun mm : ExtW wr => ExtW.cell hcell' mm
          clear f0 f1 f2 f3 hcell hcell'
          go_wp2
          refine region_ext (by kernel_rfl) (by kernel_rfl) ?_
          repeat (go_big_quiet_step (first
            | (go_at_call 15; exact quiet_ext (share_any _ _ _ _ _ _ _ _ _ vs xs _ _ _ _ _ ((HI3.out.ext HB.out).ext (ExtW.ext _)) ((HX.out.ext HB.out).ext (ExtW.ext _))))))
          refine wpQuiet_nil ?_
          rintro _ ⟨mm, rfl⟩
          have HM := Lib.hid (ext_trans HB.out mm.ext)
          generalize mm.val = W8 at *
          rw [HS.out]
          go_wp2
          go_roundw
          case rel => exact ⟨k + 1, by omega, by go_num, HM⟩
          case measure => simp [intOf]; omega
        · obtain rfl : k = m := by omega
          obtain ⟨f0, f1, f2, f3⟩ := HFC.out wr HB.out
          obtain ⟨i0, hi, hz0, hz1, hz2⟩ := info_parts (P := Try.prog) info_int
          go_wp2_with (first
            | (at_make
               refine wpList_make_full wr rfl _ _ 22 rfl W.heap.size 3 i0 (.int .i64 0) 1 Try.underlying22 hi hz0 hz1 .i64 .i64 _ _ z rfl rfl rfl rfl (by rw [hz2]; omega) (by simp only [maxLen]; omega) HB.out.size ?_
               intro w3 hown3 hg3
               have HU0 := Lib.hid (used_start vs hown3)
               have HB4 := Lib.hid (HB.out.grown hg3 HB.out.size (by simp))
               clear hown3 hg3))
          clear f0 f1 f2 f3 hi hz0 hz1 hz2
          generalize wr.heap.size = u at *
          clear HB
          go_loopw [13, 14, 15, 16] (fun wd i nn kk wr => ∃ (j : Nat), j ≤ n ∧ i = .int .i64 j ∧ wd = .int .i64 (widestOf ps (xs.take j) : Nat) ∧ Hid (Used wr W.heap.size u z (vs.take j)) ∧ Hid (Below W.heap.size W wr)) (fun _ i _ _ _ => n - (intOf i).toNat)
          case atStart => exact ⟨0, by omega, rfl, rfl, HU0, HB4⟩
          case round =>
            clear HU0 HB4
            obtain ⟨j, hj, rfl, rfl, HU, HB⟩ := hrel
            by_cases hlt : j < n
            · have hvx : xs.getD j 0 ∈ xs := getD_mem (by rw [HLX.out]; exact hlt)
              obtain ⟨s, hs1, hs2⟩ := HA.out.vlt j (by rw [HLX.out]; exact hlt)
              obtain ⟨f0, f1, f2, f3⟩ := HFC.out wr HB.out
              obtain ⟨b1, o1, rfl, hv, _⟩ := (HI3.out.ext HB.out).2.2 j hlt
              rw [hs1] at hv
              have HV : Hid (vs.take (j + 1) = vs.take j ++ [(s : Int)]) := by
                rw [Hid, take_snoc' vs j 0 (by rw [HI3.out.1]; exact hlt), hs1]
              have HW : Hid (widestOf ps (xs.take (j + 1)) = max (widestOf ps (xs.take j)) (degOf ps (xs.getD j 0))) := by
                rw [Hid, take_snoc' xs j 0 (by rw [HLX.out]; exact hlt), widest_snoc]
              have hwd := widest_le ps (xs.take j)
              rw [HLP.out] at hwd
              clear hvx hs1
              obtain ⟨cu, fu⟩ := HU.out.at_ s hs2
              have g1 : decide ((s : Int) < 0) = false := by simp
              go_wp2
              go_quiet (fail)
              go_wp2
              have HU5 := Lib.hid ((HU.out.drewN nq).set_ (s : Int) s rfl hs2)
              have HB5 := Lib.hid ((below_drewN HB.out nq).setCell (p := ⟨u, s, none⟩) HU.out.base.1 (.int .i64 1))
              clear cu fu f0 f1 f2 f3 hv g1
              generalize (wr.drewN nq).setCell ⟨u, s, none⟩ (.int .i64 1) = W5 at *
              rw [← HV.out] at HU5
              have hdg := degOf_le ps (xs.getD j 0)
              rw [HLP.out] at hdg
              clear HU HB HV
              obtain ⟨bx, ox, rfl, hcx, _⟩ := (HX.out.ext HB5.out).2.2 j hlt
              have HD0 : Hid (degOf (ps.take 0) (xs.getD j 0) = 0) := rfl
              have HDK : Hid (degOf (ps.take k) (xs.getD j 0) = degOf ps (xs.getD j 0)) := by rw [Hid, List.take_of_length_le (by rw [HLP.out]; omega)]
              generalize xs.getD j 0 = x at *
              go_loopw [15, 16] (fun nn kk wz => ∃ (i q : Nat), i ≤ k ∧ kk = .int .i64 i ∧ nn = .int .i64 (degOf (ps.take i) x : Nat) ∧ wz = W5.drewN q) (fun _ kk _ => k - (intOf kk).toNat)
              case atStart => exact ⟨0, 0, by omega, rfl, rfl, rfl⟩
              case round =>
                obtain ⟨i, q, hi, rfl, rfl, rfl⟩ := hrel
                have hdi := degOf_le (ps.take i) x
                have hti : (ps.take i).length ≤ i := List.length_take_le _ _
                by_cases hlt2 : i < k
                · obtain ⟨b, o, rfl, hcell, hcell', ⟨hw1, hw2⟩, hw3, hw4⟩ := (HP.out.ext HB5.out).2.2 i hlt2
                  have HS : Hid (degOf (ps.take (i + 1)) x = degOf (ps.take i) x + if (ps.getD i (0, 0)).1 = x ∨ (ps.getD i (0, 0)).2 = x then 1 else 0) := by
                    rw [Hid, take_snoc' ps i (0, 0) (by rw [HLP.out]; exact hlt2), degOf_snoc]
                  generalize ps.getD i (0, 0) = p at *
                  obtain ⟨p1, p2⟩ := p
                  simp only at hcell hcell' hw1 hw2 hw3 hw4 HS
                  by_cases e1 : p1 = x
                  · have b1 : (p1 == x) = true := by simpa using e1
                    rw [if_pos (.inl e1)] at HS
                    clear e1
                    go_wp2
                    go_quiet (fail)
                    go_wp2
                    go_roundw
                    case rel => exact ⟨i + 1, _, by omega, by go_num, by rw [HS.out]; go_num, rfl⟩
                    case measure => simp [intOf]; omega
                  · have b1 : (p1 == x) = false := by simpa using e1
                    by_cases e2 : p2 = x
                    · have b2 : (p2 == x) = true := by simpa using e2
                      rw [if_pos (.inr e2)] at HS
                      clear e1 e2
                      go_wp2
                      go_quiet (fail)
                      go_wp2
                      go_roundw
                      case rel => exact ⟨i + 1, _, by omega, by go_num, by rw [HS.out]; go_num, rfl⟩
                      case measure => simp [intOf]; omega
                    · have b2 : (p2 == x) = false := by simpa using e2
                      rw [if_neg (by intro hh; rcases hh with hh | hh; exact e1 hh; exact e2 hh), Nat.add_zero] at HS
                      clear e1 e2
                      go_wp2
                      go_quiet (fail)
                      go_wp2
                      go_roundw
                      case rel => exact ⟨i + 1, _, by omega, by go_num, by rw [HS.out]; rfl, rfl⟩
                      case measure => simp [intOf]; omega
                · obtain rfl : i = k := by omega
                  rw [HDK.out]
                  go_wp2
                  go_roundw
                  case rel => exact ⟨j + 1, by omega, by go_num, by rw [HW.out]; exact val_max _ _, HU5.out.drewN _, below_drewN HB5.out _⟩
                  case measure => simp [intOf]; omega
            · obtain rfl : j = n := by omega
              obtain ⟨f0, f1, f2, f3⟩ := HFC.out wr HB.out
              rw [List.take_of_length_le (by rw [HI3.out.1]; omega)] at HU
              rw [List.take_of_length_le (by rw [HLX.out]; omega)]
              have hwf2 := HI4.out.wf
              have hlh := HI4.out.1
              have hub := HU.out.base
              have HOE := Lib.hid HA.out.ownEq
              have HWF := Lib.hid hwf2
              have HLH := Lib.hid hlh
              clear hwf2 hlh
              have y1 : ∀ o, (wr.alloc o).cell? ⟨f, 1, none⟩ = some (.slice a2 l c2) := fun o => (HFC.out _ (ext_trans HB.out (ext_alloc wr o))).2.1
              go_upto_region 30 with fail
              go_upto_if 171 with (first
                | (at_builtin
                   refine wpList_appendS _ rfl (.tmp 167) (.tmp 169) 22 3 rfl wr.heap.size (.int .i64 0) 8 Try.underlying22 info_int rfl (.slice (some ⟨wr.heap.size, 0, none⟩) 0 0) 0 [] rfl (World.ownsRow_lit wr #[] 0 (Nat.le_refl _) (by simp) rfl) a2 l c2 rfl (intVals hs) (by rw [intVals_len, HLH.out]) (by
                     intro j u hu
                     have hj : j < l := by
                       have := (List.getElem?_eq_some_iff.1 hu).1
                       rwa [intVals_len, HLH.out] at this
                     obtain ⟨b, o, rfl, hc, _⟩ := (HI4.out.ext (ext_trans HB.out (ext_alloc wr _))).2.2 j hj
                     refine ⟨_, rfl, ?_⟩
                     have hadd : (⟨b, o, none⟩ : Addr).add j = ⟨b, o + j, none⟩ := by unfold Addr.add; split <;> simp_all
                     rw [hadd, hc]
                     have hj' : j < hs.length := by rw [HLH.out]; exact hj
                     simp [intVals, hj'] at hu
                     simp [List.getD, hj', hu]) (intVals_one hs) (by simp only [maxLen]; omega) (by omega) (by simp) ?_
                   intro v7 w7 hown7 hg7 hat7
                   rw [Nat.zero_add, List.nil_append] at hown7
                   have HO7 := Lib.hid hown7
                   have HE7 : Hid (Below wr.heap.size wr w7) := (ext_alloc wr _).grown hg7 (by simp) (fun j e => by simp [Value.ownBlock] at e; omega)
                   clear hown7 hg7 hat7))
              clear f0 f1 f3 y1
              go_cut [17] (fun v wx => Hid (Behind wx u v own) ∧ Hid (Used wx W.heap.size u z vs) ∧ Hid (Below W.heap.size W wx))
              case first =>
                cases t with
                | false =>
                  go_wp2
                  go_meet
                  have e : own = hs := by rw [HOE.out]; simp
                  rw [e]
                  exact ⟨behind_of HO7.out HLH.out (by rw [HLH.out]; omega) HWF.out (by omega), HU.out.ext HE7.out, ext_trans HB.out HE7.out⟩
                | true =>
                  have ftm := (HFC.out w7 (ext_trans HB.out HE7.out)).2.2.1
                  go_wp2_with (first
                    | (at_builtin
                       refine wpList_append1 rfl w7 (.tmp 172) (.tmp 175) 22 3 rfl wr.heap.size _ 1 8 Try.underlying22 info_int rfl (by omega) v7 l _ [.int .i64 tm] rfl HO7.out w7.heap.size rfl rfl rfl (by simp [Value.oneCell']) (by simp only [maxLen]; omega) (by omega) HE7.out.size ?_
                       intro g cap w8 hown8 hg8 hat8
                       have HO8 : Hid (w8.ownsRow wr.heap.size 3 1 (.slice (some ⟨g, 0, none⟩) (l + 1) cap) (l + 1) (intVals (hs ++ [tm]))) := by rw [Hid, intVals, List.map_append]; exact hown8
                       have HE8 : Hid (Below wr.heap.size wr w8) := HE7.out.grown hg8 HE7.out.size (fun j e => (HO7.out.lt j e).1)
                       clear hown8 hg8 hat8))
                  go_meet
                  have e : own = hs ++ [tm] := by rw [HOE.out]; simp
                  rw [e]
                  exact ⟨behind_of HO8.out (by rw [List.length_append, HLH.out]; rfl) (by rw [List.length_append, HLH.out]; simp; omega) (fun x hx => by
                    rcases List.mem_append.1 hx with hx | hx
                    · exact HWF.out x hx
                    · rw [List.mem_singleton.1 hx]; exact ⟨by omega, by omega⟩) (by omega), HU.out.ext HE8.out, ext_trans HB.out HE8.out⟩
              case rest =>
                obtain ⟨⟨a3, c3, rfl, hi3, hu3⟩, HU6, HB6⟩ := hcut
                have HI6 := Lib.hid hi3
                have HU3 := Lib.hid hu3
                have hol : own.length ≤ 65 := by
                  rw [HOE.out]
                  have := HLH.out
                  cases t <;> simp <;> omega
                clear hi3 hu3 HO7 HE7 f2 hub HU HB HWF HLH
                generalize hN : own.length = N at *
                have HN := Lib.hid hN
                clear hN
                go_wp2
                go_loopw [18] (fun i wz => ∃ (j : Nat), j ≤ N ∧ i = .int .i64 j ∧ Hid (Ints wz a3 N own) ∧ Hid (Used wz W.heap.size u z (vs ++ own.take j)) ∧ Hid (Below W.heap.size W wz)) (fun i _ => N - (intOf i).toNat)
                case atStart => exact ⟨0, by omega, rfl, HI6, by simpa using HU6, HB6⟩
                case round =>
                  clear HI6 HU6 HB6
                  obtain ⟨i, hi, rfl, HI6, HU6, HB6⟩ := hrel
                  by_cases hlt2 : i < N
                  · obtain ⟨s, hs1, hs2⟩ := HA.out.ownLt i (by rw [HN.out]; exact hlt2)
                    have hnew := HA.out.ownNew i (by rw [HN.out]; exact hlt2)
                    rw [hs1] at hnew
                    obtain ⟨f0, f1, f2, f3⟩ := HFC.out wr HB6.out
                    obtain ⟨b1, o1, rfl, hv, _⟩ := HI6.out.2.2 i hlt2
                    rw [hs1] at hv
                    have HV : Hid (own.take (i + 1) = own.take i ++ [(s : Int)]) := by
                      rw [Hid, take_snoc' own i 0 (by rw [HN.out]; exact hlt2), hs1]
                    clear hs1
                    obtain ⟨cu, fu⟩ := HU6.out.at_ s hs2
                    rw [if_neg hnew] at cu
                    clear hnew
                    have g1 : decide ((s : Int) < 0) = false := by simp
                    have g2 : decide (z ≤ s) = false := by simp; omega
                    go_wp2
                    go_quiet (fail)
                    go_wp2
                    go_roundw
                    case rel => exact ⟨i + 1, by omega, by go_num, HI6.out.set_ _ _ (fun g o s e => by have := HU3.out g o s e; show g ≠ u; omega), by rw [HV.out, ← List.append_assoc]; exact (HU6.out.drewN nq).set_ (s : Int) s rfl hs2, (below_drewN HB6.out nq).setCell (p := ⟨u, s, none⟩) HU6.out.base.1 _⟩
                    case measure => simp [intOf]; omega
                  · obtain rfl : i = N := by omega
                    obtain ⟨f0, f1, f2, f3⟩ := HFC.out wr HB6.out
                    rw [List.take_of_length_le (by rw [HN.out]; omega)] at HU6
                    have HFU : Hid (∀ s, s < z → wr.cell? ⟨u, s, none⟩ = some (.int .i64 1)) := fun s hs => by
                      have := (HU6.out.at_ s hs).1
                      rw [if_pos (HA.out.full s hs)] at this
                      exact this
                    have HLA := Lib.hid HA.out.last
                    rw [HLX.out, HN.out] at HLA
                    clear HI6 HU6 HOE
                    have hbf := Lib.hid (ext_trans HB3.out HB6.out)
                    go_wp2
                    go_loop [19] (fun i => ∃ (s : Nat), s ≤ z ∧ i = .int .i64 s) (fun i => z - (intOf i).toNat)
                    case atStart => exact ⟨0, by omega, rfl⟩
                    case round =>
                      obtain ⟨s, hs, rfl⟩ := hrel
                      by_cases hlt3 : s < z
                      · have hc := HFU.out s hlt3
                        go_wp2
                        go_round
                        case rel => exact ⟨s + 1, by omega, by go_num⟩
                        case measure => simp [intOf]; omega
                      · cases t with
                        | true =>
                          go_wp2
                          go_ret
                          exact ⟨rfl, hbf.out⟩
                        | false =>
                          obtain ⟨rfl, hla⟩ := HLA.out rfl
                          by_cases hj0 : j = 0
                          · have b0 : ((j : Int) == 0) = true := by simp; omega
                            go_wp2
                            go_ret
                            exact ⟨rfl, hbf.out⟩
                          · have b0 : ((j : Int) == 0) = false := by simp; omega
                            have hla' := hla.resolve_left hj0
                            have b1 : decide ((z : Int) - (i : Int) ≤ (widestOf ps xs : Int) + 1) = true := decide_eq_true hla'
                            have hwd := widest_le ps xs
                            rw [HLP.out] at hwd
                            go_wp2
                            go_ret
                            exact ⟨rfl, hbf.out⟩
    · have hok2 : okAll xs ps rs = false := by simpa using hok
      have HK := Lib.hid hok2
      clear hok hok2
      go_enter Try.func6, Try.ntmps6
      go_wp2_with (first
        | (go_at_call 9; refine (awake_any _).mono ?_; rintro e w1 ⟨rfl, hb⟩; have HB := Lib.hid hb; clear hb)
        | (go_at_call 8; refine (great_any a a' a'' n c m c' l c'' _ (by omega) (by omega) (by omega)).mono ?_; rintro e w' ⟨rfl, rfl⟩; rw [hg])
        | (go_at_call 11
           refine (of_bad a n c xs a' m c' ps a'' l c'' rs t _ (by exact H.out.ext HB.out) (by exact H'.out.ext HB.out) (by exact H''.out.ext HB.out) HK.out).mono ?_
           rintro e w2 ⟨rfl, hb⟩
           have HB2 := Lib.hid (ext_trans HB.out hb)
           clear hb))
      go_ret
      exact ⟨rfl, ext_trans HB2.out (ext_alloc _ _)⟩
end Go.Proofs.Ytkakanjoeofjcaa
