/-
  Walks of package slot: right, own, from, least.
-/
import Derived.Test.YtkakanjoeofjcaaWalkB
namespace Go.Proofs.Ytkakanjoeofjcaa
open Go.RowKit

def okPair (xs : List Int) (p : Int × Int) : Bool := decide (p.1 ≠ p.2) && decide (0 ≤ idx xs p.1) && decide (0 ≤ idx xs p.2)
def rightB (xs : List Int) (ps : List (Int × Int)) : Bool := ps.all (okPair xs)

theorem ext_alloc (w : World) (o : Obj) : Below w.heap.size w (w.alloc o) := (Below.refl _ w).alloc (Nat.le_refl _) o

set_option maxHeartbeats 1000000 in
theorem right_any (a : Option Addr) (n cap : Nat) (xs : List Int) (a' : Option Addr) (m cap' : Nat) (ps : List (Int × Int)) (w : World) (h : Ints w a n xs) (h' : Prs w a' m ps) :
    Calls Try.prog 22 #[.slice a n cap, .slice a' m cap'] w fun e w' => e = .returned (.bool (rightB xs ps)) ∧ Below w.heap.size w w' := by
  have hm : m ≤ 17592186044416 := h'.2.1
  have HL := Lib.hid h'.1
  have H := Lib.hid h
  have H' := Lib.hid h'
  clear h h'
  go_enter Try.func22, Try.ntmps22
  go_wp2
  go_loopw [6, 9] (fun _ i wr => ∃ (k : Nat), k ≤ m ∧ i = .int .i64 k ∧ Hid (Below w.heap.size w wr) ∧ Hid (∀ j, j < k → okPair xs (ps.getD j (0, 0)) = true)) (fun _ i _ => m - (intOf i).toNat)
  case atStart => exact ⟨0, by omega, rfl, Below.refl _ _, fun j hj => absurd hj (by omega)⟩
  case round =>
    obtain ⟨k, hk, rfl, HB, HR⟩ := hrel
    by_cases hlt : k < m
    · have HI := Lib.hid ((H.out.ext HB.out))
      obtain ⟨b, o, rfl, hcell, hcell', ⟨hw1, hw2⟩, hw3, hw4⟩ := (H'.out.ext HB.out).2.2 k hlt
      have HM : Hid (ps.getD k (0, 0) ∈ ps) := by
        have hk' : k < ps.length := by rw [HL.out]; exact hlt
        simp [Hid, List.getD, hk']
      have HS : Hid (okPair xs (ps.getD k (0, 0)) = true → ∀ j, j < k + 1 → okPair xs (ps.getD j (0, 0)) = true) := fun h1 j hj => by
        by_cases hjk : j = k
        · subst hjk; exact h1
        · exact HR.out j (by omega)
      generalize ps.getD k (0, 0) = p at *
      obtain ⟨p1, p2⟩ := p
      simp only at hcell hcell' hw1 hw2 hw3 hw4
      have i1 := idx_ge xs p1
      have i2 := idx_ge xs p2
      have HF : Hid (okPair xs (p1, p2) = false → rightB xs ps = false) := fun hf => by
        rw [rightB, List.all_eq_false]; exact ⟨_, HM.out, by simp [hf]⟩
      by_cases e1 : p1 = p2
      · have HE : Hid (rightB xs ps = false) := HF.out (by simp [okPair, e1])
        have b1 : (p1 == p2) = true := by simpa using e1
        clear e1
        go_wp2
        go_ret
        exact ⟨by rw [HE.out]; rfl, HB.out.trans ((ext_alloc _ _).mono HB.out.size)⟩
      · have b1 : (p1 == p2) = false := by simpa using e1
        by_cases e2 : 0 ≤ idx xs p1
        · have b2 : decide (0 ≤ idx xs p1) = true := by simpa using e2
          by_cases e3 : 0 ≤ idx xs p2
          · have b3 : decide (0 ≤ idx xs p2) = true := by simpa using e3
            have HN := Lib.hid (HS.out (by simp [okPair, e1, e2, e3]))
            clear e1 e2 e3
            go_wp2_with (go_at_call 31; refine (scontains_any a n cap xs _ _ (by exact HI.out.ext (ext_alloc _ _))).mono ?_; rintro e w' ⟨rfl, rfl⟩)
            go_roundw
            case rel => exact ⟨k + 1, by omega, by go_num, HB.out.trans ((ext_alloc _ _).mono HB.out.size), HN⟩
            case measure => simp [intOf]; omega
          · have b3 : decide (0 ≤ idx xs p2) = false := by simpa using e3
            have HE : Hid (rightB xs ps = false) := HF.out (by simp [okPair, e3])
            clear e1 e2 e3
            go_wp2_with (go_at_call 31; refine (scontains_any a n cap xs _ _ (by exact HI.out.ext (ext_alloc _ _))).mono ?_; rintro e w' ⟨rfl, rfl⟩)
            go_ret
            exact ⟨by rw [HE.out]; rfl, HB.out.trans ((ext_alloc _ _).mono HB.out.size)⟩
        · have b2 : decide (0 ≤ idx xs p1) = false := by simpa using e2
          have HE : Hid (rightB xs ps = false) := HF.out (by simp [okPair, e2])
          clear e1 e2
          go_wp2_with (go_at_call 31; refine (scontains_any a n cap xs _ _ (by exact HI.out.ext (ext_alloc _ _))).mono ?_; rintro e w' ⟨rfl, rfl⟩)
          go_ret
          exact ⟨by rw [HE.out]; rfl, HB.out.trans ((ext_alloc _ _).mono HB.out.size)⟩
    · go_wp2
      go_ret
      have : k = m := by omega
      subst this
      refine ⟨ret_bool (Eq.symm ?_), HB.out⟩
      rw [rightB, List.all_eq_true]
      intro p hp
      obtain ⟨j, hj, e⟩ := List.getElem_of_mem hp
      have := HR.out j (by rw [HL.out] at hj; omega)
      simpa [List.getD, hj, e] using this
end Go.Proofs.Ytkakanjoeofjcaa
