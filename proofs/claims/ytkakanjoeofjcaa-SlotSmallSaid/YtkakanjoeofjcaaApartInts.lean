/-
  intarsiakit.ApartInts: rows of ints that lie apart.
-/
import Derived.Test.YtkakanjoeofjcaaFlatNil
import Derived.Deep.Onto
namespace Go.Proofs.Ytkakanjoeofjcaa
open Go.RowKit

abbrev nilV : Value := .slice none 0 0
/-- a bag that holds ints alone -/
def BagI (w : World) (B : Nat) (v : Value) : Prop := w.heap[B]? = some (.cells #[nilV, nilV, v, nilV, nilV, nilV, nilV, nilV, nilV, nilV, nilV, nilV, nilV, nilV, nilV, nilV, nilV] 79 (0, 0))
theorem BagI.cell {w : World} {B : Nat} {v : Value} (h : BagI w B v) (i : Nat) : w.cell? ⟨B, i, none⟩ = (#[nilV, nilV, v, nilV, nilV, nilV, nilV, nilV, nilV, nilV, nilV, nilV, nilV, nilV, nilV, nilV, nilV] : Array Value)[i]? := cell_of_row w B i _ _ _ h
theorem BagI.frozen {w : World} {B : Nat} {v : Value} (h : BagI w B v) (i : Nat) : w.frozen? ⟨B, i, none⟩ = false := by
  unfold BagI at h
  simp [World.frozen?, h]
theorem BagI.lt {w : World} {B : Nat} {v : Value} (h : BagI w B v) : B < w.heap.size := (Array.getElem?_eq_some_iff.1 h).1
theorem BagI.set_ {w : World} {B : Nat} {v : Value} (h : BagI w B v) (v' : Value) : BagI (w.setCell ⟨B, 2, none⟩ v') B v' := by
  unfold BagI at h ⊢
  simp [World.setCell, Array.getElem?_modify, h]
theorem BagI.ne {w : World} {B : Nat} {v : Value} (h : BagI w B v) {base : Nat} {e : TypeId} {size : Nat} {v' : Value} {n : Nat} {xs : List Value} (ho : w.ownsRow base e size v' n xs) (hne : e ≠ 79) : v'.ownBlock ≠ some B := by
  intro hg
  rcases ho.2 with ⟨rfl, _⟩ | ⟨b, cap, cur, rfl, _, hh, _⟩
  · simp [Value.ownBlock] at hg
  · simp only [Value.ownBlock, Option.some.injEq] at hg
    subst hg
    unfold BagI at h
    rw [h] at hh
    injection hh with hh
    injection hh with _ ht
    exact hne ht.symm

theorem FIn.ext {e eo : TypeId} {size base K : Nat} {vo : Value} {rv : Nat → Value} {L : Nat → Nat} {w w' : World} (h : FIn e eo size base K vo rv L w) (hb : Below w.heap.size w w') : FIn e eo size base K vo rv L w' :=
  ⟨(Steady.ownsRow w.heap.size _ _ _ _ _ _).ext h.outer hb, fun j hj => by
    obtain ⟨X, hX⟩ := h.rows j hj
    exact ⟨X, (Steady.ownsRow w.heap.size _ _ _ _ _ _).ext hX hb⟩, h.sep⟩
def PutPost (w : World) (B k : Nat) (xs : List Value) (lv : Value) (e : Ending) (w' : World) : Prop :=
  (∃ r, e = .returned r) ∧ ∃ v', BagI w' B v' ∧ w'.ownsRow (B + 1) 22 1 v' (k + 1) (xs ++ [lv]) ∧ Below B w w'
set_option maxHeartbeats 1000000 in
theorem putInts_any (w : World) (B k : Nat) (v : Value) (xs : List Value) (a : Option Addr) (n c : Nat) (h : BagI w B v) (ho : w.ownsRow (B + 1) 22 1 v k xs) (hk : k ≤ 1000000) :
    Calls Try.prog 29 #[.pointer (some ⟨B, 0, none⟩), .slice a n c] w (PutPost w B k xs (.slice a n c)) := by
  have h2 := h.cell 2
  have hlt := h.lt
  have hfz := h.frozen 2
  have hb := Lib.hid h
  have HO := Lib.hid ho
  have hne := h.ne ho (by decide)
  have HNE := Lib.hid hne
  obtain ⟨av, cv, rfl⟩ := row_slice ho
  clear h ho hne
  simp at h2
  go_enter Try.func29, Try.ntmps29
  go_wp2_with (first
    | (at_builtin
       refine wpList_append1K rfl w (.tmp 8) (.tmp 10) 43 22 rfl (B + 1) _ 1 24 Try.underlying43 info_ints rfl (by omega) (.slice av k cv) k xs [.slice a n c] rfl HO.out w.heap.size rfl rfl rfl (by simp [Value.oneCell']) (by simp only [maxLen]; omega) (by omega) (by omega) ?_
       intro g cap w2 hown2 hg2 hat2 _
       have HB2 : Hid (BagI w2 B (.slice av k cv)) := (hg2.block B hlt (fun e => HNE.out e.symm)).trans hb.out
       have HO2 := Lib.hid hown2
       have HG2 : Hid (Below B w w2) := (Below.refl B w).grown hg2 (by omega) (fun j e => by have := (HO.out.lt j e).1; omega)
       have hc2 := HB2.out.cell 2
       have hf2 := HB2.out.frozen 2
       clear hown2 hg2 hat2
       simp at hc2))
  go_end0
  refine ⟨⟨_, rfl⟩, _, HB2.out.set_ _, ?_, HG2.out.setCell (p := ⟨B, 2, none⟩) (Nat.le_refl _) _⟩
  have hgg := (HO2.out.lt g rfl).1
  exact ownsRow_chg (S := fun k => k = B) HO2.out ((Chg.refl (fun k => k = B) w2).setCell (p := ⟨B, 2, none⟩) (.inl rfl) _) (fun b e => by
    simp only [Value.ownBlock, Option.some.injEq] at e
    omega)

/-- a bag with ints alone -/
def SubB (K : Nat) (rv : Nat → Value) : Nat → Prop := SB K rv
set_option maxRecDepth 100000 in
set_option maxHeartbeats 2000000 in
theorem bagInts_any (w : World) (B K base : Nat) (a : Option Addr) (c : Nat) (rv : Nat → Value) (L : Nat → Nat) (hB : BagI w B (.slice a K c)) (h : FIn 3 22 1 base K (.slice a K c) rv L w) (hK : K ≤ 1000000) (hL : ∀ j, j < K → L j ≤ 1000000) (hbase : base ≤ w.heap.size) :
    Calls Try.prog 30 #[.pointer (some ⟨B, 0, none⟩)] w fun e w' => e = .returned (.bool true) ∧ Chg (SB K rv) w w' := by
  have HFI := Lib.hid h
  have HKL := Lib.hid hL
  have HBR : Hid (∀ j, j < K → (rv j).ownBlock ≠ some B) := fun j hj => by
    obtain ⟨X, hX⟩ := h.rows j hj
    exact hB.ne hX (by decide)
  have HB := Lib.hid hB
  have HALL : Hid (∀ V : World, Chg (SB K rv) w V → BagI V B (.slice a K c)) := fun V hV => (hV.block B hB.lt (fun ⟨j, hj, e⟩ => HBR.out j hj e)).trans HB.out
  have HC : Hid (∀ (V : World) (i : Nat), Chg (SB K rv) w V → V.cell? ⟨B, i, none⟩ = (#[nilV, nilV, .slice a K c, nilV, nilV, nilV, nilV, nilV, nilV, nilV, nilV, nilV, nilV, nilV, nilV, nilV, nilV] : Array Value)[i]?) := fun V i hV => (HALL.out V hV).cell i
  have c0 : w.cell? ⟨B, 0, none⟩ = some nilV := (HC.out w 0 (Chg.refl _ _)).trans rfl
  clear h hL hB
  go_enter Try.func30, Try.ntmps30
  go_wp2_with (first
    | (go_at_call 33; refine (flatLimbs_nil _).mono ?_; rintro e w0 ⟨rfl, hb0⟩
       have E0 := Lib.hid ((Chg.refl (SB K rv) w).of_ext hb0); have F0 := Lib.hid (show Below w.heap.size w w0 from hb0); clear hb0; have c1 : w0.cell? ⟨B, 1, none⟩ = some nilV := (HC.out w0 1 E0.out).trans rfl)
    | (go_at_call 34; refine (flatWords_nil _).mono ?_; rintro e w1 ⟨rfl, hb1⟩
       have E1 := Lib.hid (E0.out.of_ext hb1); have F1 := Lib.hid (ext_trans F0.out hb1); clear hb1; have c2 : w1.cell? ⟨B, 2, none⟩ = some (.slice a K c) := (HC.out w1 2 E1.out).trans rfl)
    | (go_at_call 35; refine (flatInts_any a K c base rv L _ (HFI.out.ext F1.out) hK HKL.out (by have := F1.out.size; omega)).mono ?_; rintro e w2 ⟨rfl, hb2⟩
       have E2 := Lib.hid (E1.out.trans hb2); clear hb2; have c3 : w2.cell? ⟨B, 3, none⟩ = some nilV := (HC.out w2 3 E2.out).trans rfl)
    | (go_at_call 36; refine (flatLongs_nil _).mono ?_; rintro e w3 ⟨rfl, hb3⟩
       have E3 := Lib.hid (E2.out.of_ext hb3); clear hb3; have c4 : w3.cell? ⟨B, 4, none⟩ = some nilV := (HC.out w3 4 E3.out).trans rfl)
    | (go_at_call 37; refine (flatTexts_nil _).mono ?_; rintro e w4 ⟨rfl, hb4⟩
       have E4 := Lib.hid (E3.out.of_ext hb4); clear hb4; have c5 : w4.cell? ⟨B, 5, none⟩ = some nilV := (HC.out w4 5 E4.out).trans rfl)
    | (go_at_call 38; refine (flatBytes_nil _).mono ?_; rintro e w5 ⟨rfl, hb5⟩
       have E5 := Lib.hid (E4.out.of_ext hb5); clear hb5; have c6 : w5.cell? ⟨B, 6, none⟩ = some nilV := (HC.out w5 6 E5.out).trans rfl)
    | (go_at_call 39; refine (flatTruths_nil _).mono ?_; rintro e w6 ⟨rfl, hb6⟩
       have E6 := Lib.hid (E5.out.of_ext hb6); clear hb6; have c7 : w6.cell? ⟨B, 7, none⟩ = some nilV := (HC.out w6 7 E6.out).trans rfl)
    | (go_at_call 40; refine (flatRow_nil _).mono ?_; rintro e w7 ⟨rfl, hb7⟩
       have E7 := Lib.hid (E6.out.of_ext hb7); clear hb7; have c8 : w7.cell? ⟨B, 8, none⟩ = some nilV := (HC.out w7 8 E7.out).trans rfl)
    | (go_at_call 41; refine (flatBlocks_nil _).mono ?_; rintro e w8 ⟨rfl, hb8⟩
       have E8 := Lib.hid (E7.out.of_ext hb8); clear hb8; have c9 : w8.cell? ⟨B, 9, none⟩ = some nilV := (HC.out w8 9 E8.out).trans rfl)
    | (go_at_call 42; refine (flatFuncs_nil _).mono ?_; rintro e w9 ⟨rfl, hb9⟩
       have E9 := Lib.hid (E8.out.of_ext hb9); clear hb9; have c10 : w9.cell? ⟨B, 10, none⟩ = some nilV := (HC.out w9 10 E9.out).trans rfl)
    | (go_at_call 43; refine (flatTargets_nil _).mono ?_; rintro e w10 ⟨rfl, hb10⟩
       have E10 := Lib.hid (E9.out.of_ext hb10); clear hb10; have c11 : w10.cell? ⟨B, 11, none⟩ = some nilV := (HC.out w10 11 E10.out).trans rfl)
    | (go_at_call 44; refine (flatMachines_nil _).mono ?_; rintro e w11 ⟨rfl, hb11⟩
       have E11 := Lib.hid (E10.out.of_ext hb11); clear hb11; have c12 : w11.cell? ⟨B, 12, none⟩ = some nilV := (HC.out w11 12 E11.out).trans rfl)
    | (go_at_call 45; refine (flatLocs_nil _).mono ?_; rintro e w12 ⟨rfl, hb12⟩
       have E12 := Lib.hid (E11.out.of_ext hb12); clear hb12; have c13 : w12.cell? ⟨B, 13, none⟩ = some nilV := (HC.out w12 13 E12.out).trans rfl)
    | (go_at_call 46; refine (flatFacts_nil _).mono ?_; rintro e w13 ⟨rfl, hb13⟩
       have E13 := Lib.hid (E12.out.of_ext hb13); clear hb13; have c14 : w13.cell? ⟨B, 14, none⟩ = some nilV := (HC.out w13 14 E13.out).trans rfl)
    | (go_at_call 47; refine (flatEdges_nil _).mono ?_; rintro e w14 ⟨rfl, hb14⟩
       have E14 := Lib.hid (E13.out.of_ext hb14); clear hb14; have c15 : w14.cell? ⟨B, 15, none⟩ = some nilV := (HC.out w14 15 E14.out).trans rfl)
    | (go_at_call 48; refine (flatTiles_nil _).mono ?_; rintro e w15 ⟨rfl, hb15⟩
       have E15 := Lib.hid (E14.out.of_ext hb15); clear hb15; have c16 : w15.cell? ⟨B, 16, none⟩ = some nilV := (HC.out w15 16 E15.out).trans rfl)
    | (go_at_call 49; refine (flatCalls_nil _).mono ?_; rintro e w16 ⟨rfl, hb16⟩
       have E16 := Lib.hid (E15.out.of_ext hb16); clear hb16))
  go_ret
  exact ⟨rfl, E16.out⟩

set_option maxHeartbeats 2000000 in
theorem apartInts_any (w : World) (a : Option Addr) (K c base : Nat) (rv : Nat → Value) (L : Nat → Nat) (hcell : ∀ j, j < K → ∃ b o, a = some ⟨b, o, none⟩ ∧ w.cell? ⟨b, o + j, none⟩ = some (rv j))
    (hrow : ∀ j, j < K → ∃ X, w.ownsRow base 3 1 (rv j) (L j) X) (hsep : ∀ i j, i < K → j < K → i ≠ j → Sep (rv i) (rv j)) (hK : K ≤ 1000000) (hL : ∀ j, j < K → L j ≤ 1000000) (hbase : base ≤ w.heap.size) :
    Calls Try.prog 17 #[.slice a K c] w fun e w' => e = .returned (.bool true) ∧ Chg (SB K rv) w w' := by
  have HC := Lib.hid hcell
  have HR := Lib.hid hrow
  have HS := Lib.hid hsep
  have HL := Lib.hid hL
  clear hcell hrow hsep hL
  go_enter Try.func17, Try.ntmps17
  go_wp2
  have HB0 : Hid (BagI (w.alloc (.cells #[nilV, nilV, nilV, nilV, nilV, nilV, nilV, nilV, nilV, nilV, nilV, nilV, nilV, nilV, nilV, nilV, nilV] 79)) w.heap.size nilV) := World.alloc_heap_new w _
  have HE0 := Lib.hid (ext_alloc w (.cells #[nilV, nilV, nilV, nilV, nilV, nilV, nilV, nilV, nilV, nilV, nilV, nilV, nilV, nilV, nilV, nilV, nilV] 79))
  go_loopw [4] (fun kk wr => ∃ (k : Nat) (v : Value), k ≤ K ∧ kk = .int .i64 k ∧ Hid (BagI wr w.heap.size v) ∧ Hid (wr.ownsRow (w.heap.size + 1) 22 1 v k ((List.range k).map rv)) ∧ Hid (Below w.heap.size w wr)) (fun kk _ => K - (intOf kk).toNat)
  case atStart => exact ⟨0, nilV, by omega, rfl, HB0, World.ownsRow_nil _ _ _ _, HE0⟩
  case round =>
    clear HB0 HE0
    obtain ⟨k, v, hk, rfl, HB, HO, HE⟩ := hrel
    by_cases hlt : k < K
    · obtain ⟨b, o, rfl, hc⟩ := HC.out k hlt
      have hc' := cell_ext HE.out hc
      obtain ⟨X, hX⟩ := HR.out k hlt
      obtain ⟨ar, cr, er⟩ := row_slice hX
      clear hc hX
      have HER := Lib.hid er
      rw [er] at hc'
      clear er
      go_wp2_with (first
        | (go_at_call 29; refine (putInts_any _ w.heap.size k v _ ar (L k) cr HB.out HO.out (by omega)).mono ?_; rintro e w2 ⟨⟨r, rfl⟩, v2, hb2, ho2, he2⟩
           have HB2 := Lib.hid hb2
           have HO2 := Lib.hid ho2
           have HE2 := Lib.hid (HE.out.trans he2)
           clear hb2 ho2 he2))
      go_roundw
      case rel => exact ⟨k + 1, v2, by omega, by go_num, HB2, by
        have e := HO2.out
        rw [← HER.out] at e
        rw [List.range_succ, List.map_append]
        exact e, HE2⟩
      case measure => simp [intOf]; omega
    · obtain rfl : k = K := by omega
      obtain ⟨av, cv, ev⟩ := row_slice HO.out
      subst ev
      have HFI : Hid (FIn 3 22 1 base k (.slice av k cv) rv L wr) := ⟨HO.out.mono (by omega), fun j hj => by
        obtain ⟨X, hX⟩ := HR.out j hj
        exact ⟨X, (Steady.ownsRow w.heap.size _ _ _ _ _ _).ext hX HE.out⟩, HS.out⟩
      go_wp2_with (first
        | (go_at_call 30; refine (bagInts_any _ w.heap.size k base av cv rv L HB.out HFI.out hK HL.out (by have := HE.out.size; omega)).mono ?_; rintro e w2 ⟨rfl, hc2⟩
           have HC2 := Lib.hid hc2
           clear hc2))
      go_ret
      refine ⟨rfl, ?_⟩
      have := (Chg.refl (SB k rv) w).of_ext HE.out
      exact this.trans HC2.out
end Go.Proofs.Ytkakanjoeofjcaa
