/-
  The walk of slot.Of.
-/
import Derived.Test.YtkakanjoeofjcaaSlotC
namespace Go.Proofs.Ytkakanjoeofjcaa
open Go.RowKit

def okAll (xs : List Int) (ps : List (Int × Int)) (rs : List Int) : Bool := risingB xs 1 200 && risingB rs 0 63 && rightB xs ps

/-- the zero frame and ErrArg -/
def BadPost (w : World) (e : Ending) (w' : World) : Prop := e = .returned (.tuple #[.agg #[nilS, nilS, .int .i64 0, .int .i64 0], .int .i64 2]) ∧ Below w.heap.size w w'

set_option maxRecDepth 100000 in
set_option maxHeartbeats 1000000 in
theorem of_bad (a : Option Addr) (n c : Nat) (xs : List Int) (a' : Option Addr) (m c' : Nat) (ps : List (Int × Int)) (a'' : Option Addr) (l c'' : Nat) (rs : List Int) (t : Bool) (w : World)
    (h : Ints w a n xs) (h' : Prs w a' m ps) (h'' : Ints w a'' l rs) (hok : okAll xs ps rs = false) :
    Calls Try.prog 11 #[.slice a n c, .slice a' m c', .slice a'' l c'', .bool t] w (BadPost w) := by
  have H := Lib.hid h
  have H' := Lib.hid h'
  have H'' := Lib.hid h''
  have HK := Lib.hid hok
  clear h h' h'' hok
  cases b1 : risingB xs 1 200
  · clear HK
    go_enter Try.func11, Try.ntmps11
    go_wp2_with (first
      | (go_at_call 21; refine (rising_any a n c xs 1 200 _ (by exact H.out.ext (ext_alloc _ _)) (by omega)).mono ?_; rintro e w' ⟨rfl, rfl⟩))
    exact bodyPost_ret (v := .tuple #[.agg #[nilS, nilS, .int .i64 0, .int .i64 0], .int .i64 2]) (by simp [results, Try.results11, go_sem]) rfl ⟨rfl, ext_alloc _ _⟩
  · cases b2 : risingB rs 0 63
    · clear HK
      go_enter Try.func11, Try.ntmps11
      go_wp2_with (first
        | (go_at_call 21; ((with_reducible refine (rising_any a n c xs 1 200 _ (by exact H.out.ext (ext_alloc _ _)) (by omega)).mono ?_); rintro e w' ⟨rfl, rfl⟩))
        | (go_at_call 21; ((with_reducible refine (rising_any a'' l c'' rs 0 63 _ (by exact H''.out.ext (ext_alloc _ _)) (by omega)).mono ?_); rintro e w' ⟨rfl, rfl⟩)))
      exact bodyPost_ret (v := .tuple #[.agg #[nilS, nilS, .int .i64 0, .int .i64 0], .int .i64 2]) (by simp [results, Try.results11, go_sem]) rfl ⟨rfl, ext_alloc _ _⟩
    · have b3 : rightB xs ps = false := by have := HK.out; simpa [okAll, b1, b2] using this
      clear HK
      go_enter Try.func11, Try.ntmps11
      go_wp2_with (first
        | (go_at_call 21; ((with_reducible refine (rising_any a n c xs 1 200 _ (by exact H.out.ext (ext_alloc _ _)) (by omega)).mono ?_); rintro e w' ⟨rfl, rfl⟩))
        | (go_at_call 21; ((with_reducible refine (rising_any a'' l c'' rs 0 63 _ (by exact H''.out.ext (ext_alloc _ _)) (by omega)).mono ?_); rintro e w' ⟨rfl, rfl⟩))
        | (go_at_call 22; ((with_reducible refine (right_any a n c xs a' m c' ps _ (by exact H.out.ext (ext_alloc _ _)) (by exact H'.out.ext (ext_alloc _ _))).mono ?_); rintro e w1 ⟨rfl, hb1⟩)
           obtain ⟨hc1, hf1⟩ := bcell hb1
           have HB1 := Lib.hid hb1
           clear hb1
           simp only [World.size_alloc] at hc1 hf1))
      exact bodyPost_ret (v := .tuple #[.agg #[nilS, nilS, .int .i64 0, .int .i64 0], .int .i64 2]) (by simp [results, Try.results11, go_sem, hc1]) rfl ⟨rfl, ((((ext_trans (ext_alloc w _) HB1.out).setCell (p := ⟨w.heap.size, 0, none⟩) (Nat.le_refl _) _).setCell (p := ⟨w.heap.size, 1, none⟩) (Nat.le_refl _) _).setCell (p := ⟨w.heap.size, 2, none⟩) (Nat.le_refl _) _).setCell (p := ⟨w.heap.size, 3, none⟩) (Nat.le_refl _) _⟩
end Go.Proofs.Ytkakanjoeofjcaa
