/-
  Flat: the reference's sources and bare (29).
-/
import Derived.Test.YtdoahpblphlabaaGF
import Derived.Test.YtdoahpblphlabaaFN
namespace Go.Proofs.Ytdoahpblphlabaa
set_option linter.unusedSimpArgs false
set_option linter.unusedVariables false
open Go.RowKit

theorem takeFilter_yes (rs : List InsR) (p : InsR → Bool) (k : Nat) (r : InsR) (hr : rs[k]? = some r) (h : p r = true) : (rs.take (k + 1)).filter p = (rs.take k).filter p ++ [r] := by
  rw [List.take_add_one, hr, List.filter_append]
  simp [h]
theorem takeFilter_no (rs : List InsR) (p : InsR → Bool) (k : Nat) (r : InsR) (hr : rs[k]? = some r) (h : p r = false) : (rs.take (k + 1)).filter p = (rs.take k).filter p := by
  rw [List.take_add_one, hr, List.filter_append]
  simp [h]
set_option maxRecDepth 100000 in
set_option maxHeartbeats 4000000 in
theorem sources_any (a : Option Addr) (n c : Nat) (rs : List InsR) (w : World) (h : InsS w a n rs) (hn : n ≤ 1000000) :
    Calls Try.prog 48 #[.slice a n c] w (ClonePost w (rs.filter fun x => !isCopy x)) := by
  have HL := Lib.hid h.1.1
  have H := Lib.hid h
  clear h
  go_enter Try.func48, Try.ntmps48
  go_wp2
  go_loopw [3, 4] (fun v i wr => ∃ (k : Nat), k ≤ n ∧ i = .int .i64 k ∧ Hid (wr.ownsRow w.heap.size 56 8 v ((rs.take k).filter fun x => !isCopy x).length (((rs.take k).filter fun x => !isCopy x).flatMap insC)) ∧ Hid (Below w.heap.size w wr)) (fun _ i _ => n - (intOf i).toNat)
  case atStart => exact ⟨0, by omega, rfl, World.ownsRow_nil _ _ _ _, Below.refl _ _⟩
  case round =>
    obtain ⟨k, hk, rfl, HO, HB⟩ := hrel
    have hfl : ((rs.take k).filter fun x => !isCopy x).length ≤ k := Nat.le_trans (List.length_filter_le _ _) (by simp; omega)
    by_cases hlt : k < n
    · obtain ⟨r, b, o, hr, -, rfl, y0, y1, y2, y3, y4, y5, y6, y7⟩ := (H.out.ext HB.out).cells hlt
      have HG := Lib.hid hr
      clear hr
      by_cases hc : r.d.op = 14
      · have HS := Lib.hid (takeFilter_no rs (fun x => !isCopy x) k r HG.out (by simp [isCopy, hc]))
        rw [hc] at y0
        go_wp2
        go_roundw
        case rel => exact ⟨k + 1, by omega, by go_num, by rw [Hid, HS.out]; exact HO.out, HB⟩
        case measure => simp [intOf]; omega
      · have HS := Lib.hid (takeFilter_yes rs (fun x => !isCopy x) k r HG.out (by simp [isCopy, hc]))
        go_wp2_with (first
          | (at_builtin
             refine wpList_append1 rfl wr (.tmp 17) (.tmp 22) 25 56 rfl w.heap.size _ 8 80 Try.underlying25 info_ins rfl (by omega) u3 _ _ (insC r) rfl HO.out wr.heap.size rfl rfl rfl (insC_one r) (by simp only [maxLen]; omega) (by omega) HB.out.size ?_
             intro g cap w3 hown3 hg3 hat3
             have HO3 : Hid (w3.ownsRow w.heap.size 56 8 (.slice (some ⟨g, 0, none⟩) (((rs.take k).filter fun x => !isCopy x).length + 1) cap) (((rs.take k).filter fun x => !isCopy x).length + 1) (((rs.take (k + 1)).filter fun x => !isCopy x).flatMap insC)) := by rw [Hid, HS.out, List.flatMap_append]; simpa using hown3
             have HB3 : Hid (Below w.heap.size w w3) := HB.out.grown hg3 HB.out.size (fun j e => (HO.out.lt j e).1)
             clear hown3 hg3 hat3))
        go_roundw
        case rel => exact ⟨k + 1, by omega, by go_num, by rw [Hid, show ((rs.take (k + 1)).filter fun x => !isCopy x).length = ((rs.take k).filter fun x => !isCopy x).length + 1 by rw [HS.out]; simp]; exact HO3.out, HB3⟩
        case measure => simp [intOf]; omega
    · obtain rfl : k = n := by omega
      go_wp2
      go_ret
      have ho := HO.out
      rw [List.take_of_length_le (by rw [HL.out]; omega)] at ho
      exact ⟨_, rfl, ho, HB.out⟩
set_option maxRecDepth 100000 in
set_option maxHeartbeats 4000000 in
theorem bare_any (a : Option Addr) (n c : Nat) (rs : List InsR) (w : World) (h : InsS w a n rs) (hn : n ≤ 1000000) :
    Calls Try.prog 49 #[.slice a n c] w (ClonePost w (rs.filter fun x => !isInserted x)) := by
  have HL := Lib.hid h.1.1
  have H := Lib.hid h
  clear h
  go_enter Try.func49, Try.ntmps49
  go_wp2
  go_loopw [3, 4] (fun v i wr => ∃ (k : Nat), k ≤ n ∧ i = .int .i64 k ∧ Hid (wr.ownsRow w.heap.size 56 8 v ((rs.take k).filter fun x => !isInserted x).length (((rs.take k).filter fun x => !isInserted x).flatMap insC)) ∧ Hid (Below w.heap.size w wr)) (fun _ i _ => n - (intOf i).toNat)
  case atStart => exact ⟨0, by omega, rfl, World.ownsRow_nil _ _ _ _, Below.refl _ _⟩
  case round =>
    obtain ⟨k, hk, rfl, HO, HB⟩ := hrel
    have hfl : ((rs.take k).filter fun x => !isInserted x).length ≤ k := Nat.le_trans (List.length_filter_le _ _) (by simp; omega)
    by_cases hlt : k < n
    · obtain ⟨r, b, o, hr, -, rfl, y0, y1, y2, y3, y4, y5, y6, y7⟩ := (H.out.ext HB.out).cells hlt
      have HG := Lib.hid hr
      clear hr
      by_cases hc : insB r.d.op = true
      · have HS := Lib.hid (takeFilter_no rs (fun x => !isInserted x) k r HG.out (by simp [isInserted, hc]))
        go_wp2_with (go_at_call 51; refine (inserted06_any _ _).mono ?_; rintro e w' ⟨rfl, rfl⟩)
        go_roundw
        case rel => exact ⟨k + 1, by omega, by go_num, by rw [Hid, HS.out]; exact HO.out, HB⟩
        case measure => simp [intOf]; omega
      · rw [Bool.not_eq_true] at hc
        have HS := Lib.hid (takeFilter_yes rs (fun x => !isInserted x) k r HG.out (by simp [isInserted, hc]))
        go_wp2_with (first
          | (go_at_call 51; refine (inserted06_any _ _).mono ?_; rintro e w' ⟨rfl, rfl⟩)
          | (at_builtin
             refine wpList_append1 rfl wr (.tmp 18) (.tmp 23) 25 56 rfl w.heap.size _ 8 80 Try.underlying25 info_ins rfl (by omega) u3 _ _ (insC r) rfl HO.out wr.heap.size rfl rfl rfl (insC_one r) (by simp only [maxLen]; omega) (by omega) HB.out.size ?_
             intro g cap w3 hown3 hg3 hat3
             have HO3 : Hid (w3.ownsRow w.heap.size 56 8 (.slice (some ⟨g, 0, none⟩) (((rs.take k).filter fun x => !isInserted x).length + 1) cap) (((rs.take k).filter fun x => !isInserted x).length + 1) (((rs.take (k + 1)).filter fun x => !isInserted x).flatMap insC)) := by rw [Hid, HS.out, List.flatMap_append]; simpa using hown3
             have HB3 : Hid (Below w.heap.size w w3) := HB.out.grown hg3 HB.out.size (fun j e => (HO.out.lt j e).1)
             clear hown3 hg3 hat3))
        go_roundw
        case rel => exact ⟨k + 1, by omega, by go_num, by rw [Hid, show ((rs.take (k + 1)).filter fun x => !isInserted x).length = ((rs.take k).filter fun x => !isInserted x).length + 1 by rw [HS.out]; simp]; exact HO3.out, HB3⟩
        case measure => simp [intOf]; omega
    · obtain rfl : k = n := by omega
      go_wp2
      go_ret
      have ho := HO.out
      rw [List.take_of_length_le (by rw [HL.out]; omega)] at ho
      exact ⟨_, rfl, ho, HB.out⟩

open Go.RowKit

theorem memI_contains (l : List Int) (n : Int) : memI l n = l.contains n := by
  unfold memI
  induction l with
  | nil => rfl
  | cons x xs ih =>
    rw [List.any_cons, List.contains_cons, ih]
    rw [show (x == n) = (n == x) from BEq.comm]
theorem sameLoc_comm (x y : Bool × Int) : sameLoc x y = sameLoc y x := by
  unfold sameLoc
  rw [Bool.beq_comm, show (x.2 == y.2) = (y.2 == x.2) from BEq.comm]
theorem holdsB_has (ls : List (Bool × Int)) (x : Bool × Int) : holdsB ls x = hasLoc ls x := by
  unfold holdsB hasLoc
  congr 1
  funext y
  exact sameLoc_comm y x
theorem lost5To_lostTo (m : MachD) (k : Nat) : lost5To m k = lostTo m k := by
  unfold lost5To lostTo
  congr 1
  funext x
  rw [memI_contains]
end Go.Proofs.Ytdoahpblphlabaa
