/-
  Flat: Before.
-/
import Derived.Test.YtfpbfdkjcmlimaaGreatKV
namespace Go.Proofs.YtfpbfdkjcmlimaaGreat
set_option linter.unusedSimpArgs false
set_option linter.unusedVariables false
set_option linter.unusedSectionVars false
set_option maxRecDepth 100000
set_option maxHeartbeats 40000000
section
open Go.RowKit
def beforeB (m : MachD) (s t : BlkD) (n : Int) (x : Int × Bool × Int) : Int × (Int × Bool × Int) × Int :=
  if doesB m s t then if n < 0 ∨ ((evGo m s.ins t.ins).length : Int) < n then (0, (0, false, 0), 2) else ((beforeV m ((evGo m s.ins t.ins).take n.toNat) x).1, (beforeV m ((evGo m s.ins t.ins).take n.toNat) x).2, 0) else (0, (0, false, 0), 13)
def BeforePost (w : World) (r : Int × (Int × Bool × Int) × Int) (e : Ending) (w' : World) : Prop := e = .returned (.tuple #[.int .i64 r.1, factV r.2.1, .int .i64 r.2.2]) ∧ Below w.heap.size w w'
theorem box5 (w : World) (o1 o2 o3 o4 o5 : Obj) : ∃ W0, Hid (Below w.heap.size w W0) ∧ W0.heap[w.heap.size]? = some o1 ∧ W0.heap[w.heap.size + 1]? = some o2 ∧ W0.heap[w.heap.size + 1 + 1]? = some o3 ∧ W0.heap[w.heap.size + 1 + 1 + 1]? = some o4 ∧ W0.heap[w.heap.size + 1 + 1 + 1 + 1]? = some o5 ∧ ((((w.alloc o1).alloc o2).alloc o3).alloc o4).alloc o5 = W0 := by
  obtain ⟨b1, b2, b3, b4⟩ := box4 w o1 o2 o3 o4
  have b5 := heap_alloc_new ((((w.alloc o1).alloc o2).alloc o3).alloc o4) o5
  simp only [World.size_alloc] at b5
  exact ⟨_, ext_trans (ext_trans (ext_trans (ext_trans (ext_alloc _ _) (ext_alloc _ _)) (ext_alloc _ _)) (ext_alloc _ _)) (ext_alloc _ _), block_ext (ext_alloc _ _) b1, block_ext (ext_alloc _ _) b2, block_ext (ext_alloc _ _) b3, block_ext (ext_alloc _ _) b4, b5, rfl⟩
theorem zero_fact (w : World) : (zeroValue 36).run Tryz.prog w = .ok (.agg #[.int .i64 0, .bool false, .int .i64 0]) w := by kernel_rfl
theorem Recs.takeN {α : Type} {size : Nat} {cs : α → List Value} {w : World} {a : Option Addr} {n : Nat} {ls : List α} (h : Recs size cs w a n ls) (k : Nat) (hk : k ≤ n) : Recs size cs w a k (ls.take k) := by
  refine ⟨by rw [List.length_take, h.1]; omega, by have := h.2.1; omega, fun j x hx => ?_⟩
  refine h.2.2 j x ?_
  have hj := (List.getElem?_eq_some_iff.1 hx).1
  rw [List.length_take] at hj
  rwa [List.getElem?_take, if_pos (by omega)] at hx
theorem before_not (m : MachD) (a1 a2 : Option Addr) (n1 c1 n2 c2 : Nat) (s t : BlkD) (sa ta : Option Addr) (ns cs nt ct : Nat) (n : Int) (x : Int × Bool × Int) (w : World) (hm : MachOK w m a1 n1 c1 a2 n2 c2) (hs : BlkOK w s sa ns cs) (ht : BlkOK w t ta nt ct) (hx : FactOK x) (hd : doesB m s t = false) :
    Calls Tryz.prog 9 #[machV m a1 n1 c1 a2 n2 c2, blkV s sa ns cs, blkV t ta nt ct, .int .i64 n, factV x] w (BeforePost w (beforeB m s t n x)) := by
  have HM := Lib.hid hm
  have HS := Lib.hid hs
  have HT := Lib.hid ht
  have HX := Lib.hid hx
  have hbig := evGo_big m s t ns nt hs.1.1.1 ht.1.1.1 hs.2.1 ht.2.1
  clear hm hs ht hx
  obtain ⟨W0, HW0, hM, hS, hT, hF, hY, hW0⟩ := box5 w (machO m a1 n1 c1 a2 n2 c2) (blkO s sa ns cs) (blkO t ta nt ct) (factO x) (factO (0, false, 0))
  have xm0 : ∀ w', Below W0.heap.size W0 w' → w'.cell? ⟨w.heap.size, 0, none⟩ = some (.int .i64 m.regs) := fun w' hb => by rw [cell_of_row _ _ _ _ _ _ (block_ext hb hM)]; rfl
  have xm1 : ∀ w', Below W0.heap.size W0 w' → w'.cell? ⟨w.heap.size, 1, none⟩ = some (.slice a1 n1 c1) := fun w' hb => by rw [cell_of_row _ _ _ _ _ _ (block_ext hb hM)]; rfl
  have xm2 : ∀ w', Below W0.heap.size W0 w' → w'.cell? ⟨w.heap.size, 2, none⟩ = some (.int .i64 m.ret) := fun w' hb => by rw [cell_of_row _ _ _ _ _ _ (block_ext hb hM)]; rfl
  have xm3 : ∀ w', Below W0.heap.size W0 w' → w'.cell? ⟨w.heap.size, 3, none⟩ = some (.slice a2 n2 c2) := fun w' hb => by rw [cell_of_row _ _ _ _ _ _ (block_ext hb hM)]; rfl
  have xs0 : ∀ w', Below W0.heap.size W0 w' → w'.cell? ⟨w.heap.size + 1, 0, none⟩ = some (.slice sa ns cs) := fun w' hb => by rw [cell_of_row _ _ _ _ _ _ (block_ext hb hS)]; rfl
  have xs1 : ∀ w', Below W0.heap.size W0 w' → w'.cell? ⟨w.heap.size + 1, 1, none⟩ = some (.int .i64 s.kind) := fun w' hb => by rw [cell_of_row _ _ _ _ _ _ (block_ext hb hS)]; rfl
  have xs2 : ∀ w', Below W0.heap.size W0 w' → w'.cell? ⟨w.heap.size + 1, 2, none⟩ = some (.int .i64 s.a) := fun w' hb => by rw [cell_of_row _ _ _ _ _ _ (block_ext hb hS)]; rfl
  have xs3 : ∀ w', Below W0.heap.size W0 w' → w'.cell? ⟨w.heap.size + 1, 3, none⟩ = some (.int .i64 s.to0) := fun w' hb => by rw [cell_of_row _ _ _ _ _ _ (block_ext hb hS)]; rfl
  have xs4 : ∀ w', Below W0.heap.size W0 w' → w'.cell? ⟨w.heap.size + 1, 4, none⟩ = some (.int .i64 s.to1) := fun w' hb => by rw [cell_of_row _ _ _ _ _ _ (block_ext hb hS)]; rfl
  have xt0 : ∀ w', Below W0.heap.size W0 w' → w'.cell? ⟨w.heap.size + 1 + 1, 0, none⟩ = some (.slice ta nt ct) := fun w' hb => by rw [cell_of_row _ _ _ _ _ _ (block_ext hb hT)]; rfl
  have xt1 : ∀ w', Below W0.heap.size W0 w' → w'.cell? ⟨w.heap.size + 1 + 1, 1, none⟩ = some (.int .i64 t.kind) := fun w' hb => by rw [cell_of_row _ _ _ _ _ _ (block_ext hb hT)]; rfl
  have xt2 : ∀ w', Below W0.heap.size W0 w' → w'.cell? ⟨w.heap.size + 1 + 1, 2, none⟩ = some (.int .i64 t.a) := fun w' hb => by rw [cell_of_row _ _ _ _ _ _ (block_ext hb hT)]; rfl
  have xt3 : ∀ w', Below W0.heap.size W0 w' → w'.cell? ⟨w.heap.size + 1 + 1, 3, none⟩ = some (.int .i64 t.to0) := fun w' hb => by rw [cell_of_row _ _ _ _ _ _ (block_ext hb hT)]; rfl
  have xt4 : ∀ w', Below W0.heap.size W0 w' → w'.cell? ⟨w.heap.size + 1 + 1, 4, none⟩ = some (.int .i64 t.to1) := fun w' hb => by rw [cell_of_row _ _ _ _ _ _ (block_ext hb hT)]; rfl
  have xf0 : ∀ w', Below W0.heap.size W0 w' → w'.cell? ⟨w.heap.size + 1 + 1 + 1, 0, none⟩ = some (.int .i64 x.1) := fun w' hb => by rw [cell_of_row _ _ _ _ _ _ (block_ext hb hF)]; rfl
  have xf1 : ∀ w', Below W0.heap.size W0 w' → w'.cell? ⟨w.heap.size + 1 + 1 + 1, 1, none⟩ = some (.bool x.2.1) := fun w' hb => by rw [cell_of_row _ _ _ _ _ _ (block_ext hb hF)]; rfl
  have xf2 : ∀ w', Below W0.heap.size W0 w' → w'.cell? ⟨w.heap.size + 1 + 1 + 1, 2, none⟩ = some (.int .i64 x.2.2) := fun w' hb => by rw [cell_of_row _ _ _ _ _ _ (block_ext hb hF)]; rfl
  have xy0 : ∀ w', Below W0.heap.size W0 w' → w'.cell? ⟨w.heap.size + 1 + 1 + 1 + 1, 0, none⟩ = some (.int .i64 0) := fun w' hb => by rw [cell_of_row _ _ _ _ _ _ (block_ext hb hY)]; rfl
  have xy1 : ∀ w', Below W0.heap.size W0 w' → w'.cell? ⟨w.heap.size + 1 + 1 + 1 + 1, 1, none⟩ = some (.bool false) := fun w' hb => by rw [cell_of_row _ _ _ _ _ _ (block_ext hb hY)]; rfl
  have xy2 : ∀ w', Below W0.heap.size W0 w' → w'.cell? ⟨w.heap.size + 1 + 1 + 1 + 1, 2, none⟩ = some (.int .i64 0) := fun w' hb => by rw [cell_of_row _ _ _ _ _ _ (block_ext hb hY)]; rfl
  have zy0 : ∀ w', Below W0.heap.size W0 w' → w'.frozen? ⟨w.heap.size + 1 + 1 + 1 + 1, 0, none⟩ = false := fun w' hb => frozen_of_row _ _ _ _ _ (block_ext hb hY)
  have zy1 : ∀ w', Below W0.heap.size W0 w' → w'.frozen? ⟨w.heap.size + 1 + 1 + 1 + 1, 1, none⟩ = false := fun w' hb => frozen_of_row _ _ _ _ _ (block_ext hb hY)
  have zy2 : ∀ w', Below W0.heap.size W0 w' → w'.frozen? ⟨w.heap.size + 1 + 1 + 1 + 1, 2, none⟩ = false := fun w' hb => frozen_of_row _ _ _ _ _ (block_ext hb hY)
  have hY7 : w.heap.size + 1 + 1 + 1 + 1 < W0.heap.size := (Array.getElem?_eq_some_iff.1 hY).1
  have HYb := Lib.hid hY
  clear hM hS hT hF hY
  have HW := Lib.hid hW0
  clear hW0
  have HE : Hid (beforeB m s t n x = (0, (0, false, 0), 13)) := by rw [Hid, beforeB, hd]; rfl
  go_enter Tryz.func9, Tryz.ntmps9
  go_wp2_with (first | (go_at_call 12; rw [HW.out]; refine (does_any m a1 a2 n1 c1 n2 c2 s t sa ta ns cs nt ct W0 (HM.out.ext HW0.out) (HS.out.ext HW0.out) (HT.out.ext HW0.out)).mono ?_; rw [hd]; rintro e w1 ⟨rfl, E1⟩))
  have y0 := xy0 _ E1
  have y1 := xy1 _ E1
  have y2 := xy2 _ E1
  refine bodyPost_ret (v := .tuple #[.int .i64 0, factV (0, false, 0), .int .i64 13]) ?_ rfl ?_
  · simp [results, Tryz.results9, go_sem, y0, y1, y2]
  · refine ⟨by rw [HE.out], ?_⟩
    exact below3 (ext_trans HW0.out E1) (by omega)
theorem before_arg (m : MachD) (a1 a2 : Option Addr) (n1 c1 n2 c2 : Nat) (s t : BlkD) (sa ta : Option Addr) (ns cs nt ct : Nat) (n : Int) (x : Int × Bool × Int) (w : World) (hm : MachOK w m a1 n1 c1 a2 n2 c2) (hs : BlkOK w s sa ns cs) (ht : BlkOK w t ta nt ct) (hx : FactOK x) (hd : doesB m s t = true) (hn : n < 0 ∨ ((evGo m s.ins t.ins).length : Int) < n) :
    Calls Tryz.prog 9 #[machV m a1 n1 c1 a2 n2 c2, blkV s sa ns cs, blkV t ta nt ct, .int .i64 n, factV x] w (BeforePost w (beforeB m s t n x)) := by
  have HM := Lib.hid hm
  have HS := Lib.hid hs
  have HT := Lib.hid ht
  have HX := Lib.hid hx
  have hbig := evGo_big m s t ns nt hs.1.1.1 ht.1.1.1 hs.2.1 ht.2.1
  clear hm hs ht hx
  obtain ⟨W0, HW0, hM, hS, hT, hF, hY, hW0⟩ := box5 w (machO m a1 n1 c1 a2 n2 c2) (blkO s sa ns cs) (blkO t ta nt ct) (factO x) (factO (0, false, 0))
  have xm0 : ∀ w', Below W0.heap.size W0 w' → w'.cell? ⟨w.heap.size, 0, none⟩ = some (.int .i64 m.regs) := fun w' hb => by rw [cell_of_row _ _ _ _ _ _ (block_ext hb hM)]; rfl
  have xm1 : ∀ w', Below W0.heap.size W0 w' → w'.cell? ⟨w.heap.size, 1, none⟩ = some (.slice a1 n1 c1) := fun w' hb => by rw [cell_of_row _ _ _ _ _ _ (block_ext hb hM)]; rfl
  have xm2 : ∀ w', Below W0.heap.size W0 w' → w'.cell? ⟨w.heap.size, 2, none⟩ = some (.int .i64 m.ret) := fun w' hb => by rw [cell_of_row _ _ _ _ _ _ (block_ext hb hM)]; rfl
  have xm3 : ∀ w', Below W0.heap.size W0 w' → w'.cell? ⟨w.heap.size, 3, none⟩ = some (.slice a2 n2 c2) := fun w' hb => by rw [cell_of_row _ _ _ _ _ _ (block_ext hb hM)]; rfl
  have xs0 : ∀ w', Below W0.heap.size W0 w' → w'.cell? ⟨w.heap.size + 1, 0, none⟩ = some (.slice sa ns cs) := fun w' hb => by rw [cell_of_row _ _ _ _ _ _ (block_ext hb hS)]; rfl
  have xs1 : ∀ w', Below W0.heap.size W0 w' → w'.cell? ⟨w.heap.size + 1, 1, none⟩ = some (.int .i64 s.kind) := fun w' hb => by rw [cell_of_row _ _ _ _ _ _ (block_ext hb hS)]; rfl
  have xs2 : ∀ w', Below W0.heap.size W0 w' → w'.cell? ⟨w.heap.size + 1, 2, none⟩ = some (.int .i64 s.a) := fun w' hb => by rw [cell_of_row _ _ _ _ _ _ (block_ext hb hS)]; rfl
  have xs3 : ∀ w', Below W0.heap.size W0 w' → w'.cell? ⟨w.heap.size + 1, 3, none⟩ = some (.int .i64 s.to0) := fun w' hb => by rw [cell_of_row _ _ _ _ _ _ (block_ext hb hS)]; rfl
  have xs4 : ∀ w', Below W0.heap.size W0 w' → w'.cell? ⟨w.heap.size + 1, 4, none⟩ = some (.int .i64 s.to1) := fun w' hb => by rw [cell_of_row _ _ _ _ _ _ (block_ext hb hS)]; rfl
  have xt0 : ∀ w', Below W0.heap.size W0 w' → w'.cell? ⟨w.heap.size + 1 + 1, 0, none⟩ = some (.slice ta nt ct) := fun w' hb => by rw [cell_of_row _ _ _ _ _ _ (block_ext hb hT)]; rfl
  have xt1 : ∀ w', Below W0.heap.size W0 w' → w'.cell? ⟨w.heap.size + 1 + 1, 1, none⟩ = some (.int .i64 t.kind) := fun w' hb => by rw [cell_of_row _ _ _ _ _ _ (block_ext hb hT)]; rfl
  have xt2 : ∀ w', Below W0.heap.size W0 w' → w'.cell? ⟨w.heap.size + 1 + 1, 2, none⟩ = some (.int .i64 t.a) := fun w' hb => by rw [cell_of_row _ _ _ _ _ _ (block_ext hb hT)]; rfl
  have xt3 : ∀ w', Below W0.heap.size W0 w' → w'.cell? ⟨w.heap.size + 1 + 1, 3, none⟩ = some (.int .i64 t.to0) := fun w' hb => by rw [cell_of_row _ _ _ _ _ _ (block_ext hb hT)]; rfl
  have xt4 : ∀ w', Below W0.heap.size W0 w' → w'.cell? ⟨w.heap.size + 1 + 1, 4, none⟩ = some (.int .i64 t.to1) := fun w' hb => by rw [cell_of_row _ _ _ _ _ _ (block_ext hb hT)]; rfl
  have xf0 : ∀ w', Below W0.heap.size W0 w' → w'.cell? ⟨w.heap.size + 1 + 1 + 1, 0, none⟩ = some (.int .i64 x.1) := fun w' hb => by rw [cell_of_row _ _ _ _ _ _ (block_ext hb hF)]; rfl
  have xf1 : ∀ w', Below W0.heap.size W0 w' → w'.cell? ⟨w.heap.size + 1 + 1 + 1, 1, none⟩ = some (.bool x.2.1) := fun w' hb => by rw [cell_of_row _ _ _ _ _ _ (block_ext hb hF)]; rfl
  have xf2 : ∀ w', Below W0.heap.size W0 w' → w'.cell? ⟨w.heap.size + 1 + 1 + 1, 2, none⟩ = some (.int .i64 x.2.2) := fun w' hb => by rw [cell_of_row _ _ _ _ _ _ (block_ext hb hF)]; rfl
  have xy0 : ∀ w', Below W0.heap.size W0 w' → w'.cell? ⟨w.heap.size + 1 + 1 + 1 + 1, 0, none⟩ = some (.int .i64 0) := fun w' hb => by rw [cell_of_row _ _ _ _ _ _ (block_ext hb hY)]; rfl
  have xy1 : ∀ w', Below W0.heap.size W0 w' → w'.cell? ⟨w.heap.size + 1 + 1 + 1 + 1, 1, none⟩ = some (.bool false) := fun w' hb => by rw [cell_of_row _ _ _ _ _ _ (block_ext hb hY)]; rfl
  have xy2 : ∀ w', Below W0.heap.size W0 w' → w'.cell? ⟨w.heap.size + 1 + 1 + 1 + 1, 2, none⟩ = some (.int .i64 0) := fun w' hb => by rw [cell_of_row _ _ _ _ _ _ (block_ext hb hY)]; rfl
  have zy0 : ∀ w', Below W0.heap.size W0 w' → w'.frozen? ⟨w.heap.size + 1 + 1 + 1 + 1, 0, none⟩ = false := fun w' hb => frozen_of_row _ _ _ _ _ (block_ext hb hY)
  have zy1 : ∀ w', Below W0.heap.size W0 w' → w'.frozen? ⟨w.heap.size + 1 + 1 + 1 + 1, 1, none⟩ = false := fun w' hb => frozen_of_row _ _ _ _ _ (block_ext hb hY)
  have zy2 : ∀ w', Below W0.heap.size W0 w' → w'.frozen? ⟨w.heap.size + 1 + 1 + 1 + 1, 2, none⟩ = false := fun w' hb => frozen_of_row _ _ _ _ _ (block_ext hb hY)
  have hY7 : w.heap.size + 1 + 1 + 1 + 1 < W0.heap.size := (Array.getElem?_eq_some_iff.1 hY).1
  have HYb := Lib.hid hY
  clear hM hS hT hF hY
  have HW := Lib.hid hW0
  clear hW0
  have HE : Hid (beforeB m s t n x = (0, (0, false, 0), 2)) := by rw [Hid, beforeB, hd]; simp only [if_true]; rw [if_pos hn]
  have HEv := Lib.hid (even_of_does hd)
  rcases hn with hn | hn
  all_goals
    go_enter Tryz.func9, Tryz.ntmps9
    go_wp2_with (first | (go_at_call 12; rw [HW.out]; refine (does_any m a1 a2 n1 c1 n2 c2 s t sa ta ns cs nt ct W0 (HM.out.ext HW0.out) (HS.out.ext HW0.out) (HT.out.ext HW0.out)).mono ?_; rw [hd]; rintro e w1 ⟨rfl, E1⟩) | (go_at_call 17; refine (events_any m a1 a2 n1 c1 n2 c2 s t sa ta ns cs nt ct w1 ((HM.out.ext HW0.out).ext E1) ((HS.out.ext HW0.out).ext E1) ((HT.out.ext HW0.out).ext E1) HEv.out).mono ?_; rintro e w2 ⟨ra, rc, rfl, hrc, hr1, hr2, hb2⟩; have E2 : Below W0.heap.size W0 w2 := ext_trans E1 hb2; have HR1 := Lib.hid hr1; have HR2 := Lib.hid hr2; clear hb2 hr1 hr2))
    have y0 := xy0 _ E2
    have y1 := xy1 _ E2
    have y2 := xy2 _ E2
    refine bodyPost_ret (v := .tuple #[.int .i64 0, factV (0, false, 0), .int .i64 2]) ?_ rfl ?_
    · simp [results, Tryz.results9, go_sem, y0, y1, y2]
    · refine ⟨by rw [HE.out], ?_⟩
      exact below3 (ext_trans HW0.out E2) (by omega)
theorem before_main (m : MachD) (a1 a2 : Option Addr) (n1 c1 n2 c2 : Nat) (s t : BlkD) (sa ta : Option Addr) (ns cs nt ct : Nat) (n : Int) (x : Int × Bool × Int) (w : World) (hm : MachOK w m a1 n1 c1 a2 n2 c2) (hs : BlkOK w s sa ns cs) (ht : BlkOK w t ta nt ct) (hx : FactOK x) (hd : doesB m s t = true) (h0 : 0 ≤ n) (h1 : n ≤ ((evGo m s.ins t.ins).length : Int)) :
    Calls Tryz.prog 9 #[machV m a1 n1 c1 a2 n2 c2, blkV s sa ns cs, blkV t ta nt ct, .int .i64 n, factV x] w (BeforePost w (beforeB m s t n x)) := by
  have HM := Lib.hid hm
  have HS := Lib.hid hs
  have HT := Lib.hid ht
  have HX := Lib.hid hx
  have hbig := evGo_big m s t ns nt hs.1.1.1 ht.1.1.1 hs.2.1 ht.2.1
  clear hm hs ht hx
  obtain ⟨W0, HW0, hM, hS, hT, hF, hY, hW0⟩ := box5 w (machO m a1 n1 c1 a2 n2 c2) (blkO s sa ns cs) (blkO t ta nt ct) (factO x) (factO (0, false, 0))
  have xm0 : ∀ w', Below W0.heap.size W0 w' → w'.cell? ⟨w.heap.size, 0, none⟩ = some (.int .i64 m.regs) := fun w' hb => by rw [cell_of_row _ _ _ _ _ _ (block_ext hb hM)]; rfl
  have xm1 : ∀ w', Below W0.heap.size W0 w' → w'.cell? ⟨w.heap.size, 1, none⟩ = some (.slice a1 n1 c1) := fun w' hb => by rw [cell_of_row _ _ _ _ _ _ (block_ext hb hM)]; rfl
  have xm2 : ∀ w', Below W0.heap.size W0 w' → w'.cell? ⟨w.heap.size, 2, none⟩ = some (.int .i64 m.ret) := fun w' hb => by rw [cell_of_row _ _ _ _ _ _ (block_ext hb hM)]; rfl
  have xm3 : ∀ w', Below W0.heap.size W0 w' → w'.cell? ⟨w.heap.size, 3, none⟩ = some (.slice a2 n2 c2) := fun w' hb => by rw [cell_of_row _ _ _ _ _ _ (block_ext hb hM)]; rfl
  have xs0 : ∀ w', Below W0.heap.size W0 w' → w'.cell? ⟨w.heap.size + 1, 0, none⟩ = some (.slice sa ns cs) := fun w' hb => by rw [cell_of_row _ _ _ _ _ _ (block_ext hb hS)]; rfl
  have xs1 : ∀ w', Below W0.heap.size W0 w' → w'.cell? ⟨w.heap.size + 1, 1, none⟩ = some (.int .i64 s.kind) := fun w' hb => by rw [cell_of_row _ _ _ _ _ _ (block_ext hb hS)]; rfl
  have xs2 : ∀ w', Below W0.heap.size W0 w' → w'.cell? ⟨w.heap.size + 1, 2, none⟩ = some (.int .i64 s.a) := fun w' hb => by rw [cell_of_row _ _ _ _ _ _ (block_ext hb hS)]; rfl
  have xs3 : ∀ w', Below W0.heap.size W0 w' → w'.cell? ⟨w.heap.size + 1, 3, none⟩ = some (.int .i64 s.to0) := fun w' hb => by rw [cell_of_row _ _ _ _ _ _ (block_ext hb hS)]; rfl
  have xs4 : ∀ w', Below W0.heap.size W0 w' → w'.cell? ⟨w.heap.size + 1, 4, none⟩ = some (.int .i64 s.to1) := fun w' hb => by rw [cell_of_row _ _ _ _ _ _ (block_ext hb hS)]; rfl
  have xt0 : ∀ w', Below W0.heap.size W0 w' → w'.cell? ⟨w.heap.size + 1 + 1, 0, none⟩ = some (.slice ta nt ct) := fun w' hb => by rw [cell_of_row _ _ _ _ _ _ (block_ext hb hT)]; rfl
  have xt1 : ∀ w', Below W0.heap.size W0 w' → w'.cell? ⟨w.heap.size + 1 + 1, 1, none⟩ = some (.int .i64 t.kind) := fun w' hb => by rw [cell_of_row _ _ _ _ _ _ (block_ext hb hT)]; rfl
  have xt2 : ∀ w', Below W0.heap.size W0 w' → w'.cell? ⟨w.heap.size + 1 + 1, 2, none⟩ = some (.int .i64 t.a) := fun w' hb => by rw [cell_of_row _ _ _ _ _ _ (block_ext hb hT)]; rfl
  have xt3 : ∀ w', Below W0.heap.size W0 w' → w'.cell? ⟨w.heap.size + 1 + 1, 3, none⟩ = some (.int .i64 t.to0) := fun w' hb => by rw [cell_of_row _ _ _ _ _ _ (block_ext hb hT)]; rfl
  have xt4 : ∀ w', Below W0.heap.size W0 w' → w'.cell? ⟨w.heap.size + 1 + 1, 4, none⟩ = some (.int .i64 t.to1) := fun w' hb => by rw [cell_of_row _ _ _ _ _ _ (block_ext hb hT)]; rfl
  have xf0 : ∀ w', Below W0.heap.size W0 w' → w'.cell? ⟨w.heap.size + 1 + 1 + 1, 0, none⟩ = some (.int .i64 x.1) := fun w' hb => by rw [cell_of_row _ _ _ _ _ _ (block_ext hb hF)]; rfl
  have xf1 : ∀ w', Below W0.heap.size W0 w' → w'.cell? ⟨w.heap.size + 1 + 1 + 1, 1, none⟩ = some (.bool x.2.1) := fun w' hb => by rw [cell_of_row _ _ _ _ _ _ (block_ext hb hF)]; rfl
  have xf2 : ∀ w', Below W0.heap.size W0 w' → w'.cell? ⟨w.heap.size + 1 + 1 + 1, 2, none⟩ = some (.int .i64 x.2.2) := fun w' hb => by rw [cell_of_row _ _ _ _ _ _ (block_ext hb hF)]; rfl
  have xy0 : ∀ w', Below W0.heap.size W0 w' → w'.cell? ⟨w.heap.size + 1 + 1 + 1 + 1, 0, none⟩ = some (.int .i64 0) := fun w' hb => by rw [cell_of_row _ _ _ _ _ _ (block_ext hb hY)]; rfl
  have xy1 : ∀ w', Below W0.heap.size W0 w' → w'.cell? ⟨w.heap.size + 1 + 1 + 1 + 1, 1, none⟩ = some (.bool false) := fun w' hb => by rw [cell_of_row _ _ _ _ _ _ (block_ext hb hY)]; rfl
  have xy2 : ∀ w', Below W0.heap.size W0 w' → w'.cell? ⟨w.heap.size + 1 + 1 + 1 + 1, 2, none⟩ = some (.int .i64 0) := fun w' hb => by rw [cell_of_row _ _ _ _ _ _ (block_ext hb hY)]; rfl
  have zy0 : ∀ w', Below W0.heap.size W0 w' → w'.frozen? ⟨w.heap.size + 1 + 1 + 1 + 1, 0, none⟩ = false := fun w' hb => frozen_of_row _ _ _ _ _ (block_ext hb hY)
  have zy1 : ∀ w', Below W0.heap.size W0 w' → w'.frozen? ⟨w.heap.size + 1 + 1 + 1 + 1, 1, none⟩ = false := fun w' hb => frozen_of_row _ _ _ _ _ (block_ext hb hY)
  have zy2 : ∀ w', Below W0.heap.size W0 w' → w'.frozen? ⟨w.heap.size + 1 + 1 + 1 + 1, 2, none⟩ = false := fun w' hb => frozen_of_row _ _ _ _ _ (block_ext hb hY)
  have hY7 : w.heap.size + 1 + 1 + 1 + 1 < W0.heap.size := (Array.getElem?_eq_some_iff.1 hY).1
  have HYb := Lib.hid hY
  clear hM hS hT hF hY
  have HW := Lib.hid hW0
  clear hW0
  have HE : Hid (beforeB m s t n x = ((beforeV m ((evGo m s.ins t.ins).take n.toNat) x).1, (beforeV m ((evGo m s.ins t.ins).take n.toNat) x).2, 0)) := by rw [Hid, beforeB, hd]; simp only [if_true]; rw [if_neg (by omega)]
  have HEv := Lib.hid (even_of_does hd)
  go_enter Tryz.func9, Tryz.ntmps9
  go_wp2_with (first | (go_at_call 12; rw [HW.out]; refine (does_any m a1 a2 n1 c1 n2 c2 s t sa ta ns cs nt ct W0 (HM.out.ext HW0.out) (HS.out.ext HW0.out) (HT.out.ext HW0.out)).mono ?_; rw [hd]; rintro e w1 ⟨rfl, E1⟩) | (go_at_call 17; refine (events_any m a1 a2 n1 c1 n2 c2 s t sa ta ns cs nt ct w1 ((HM.out.ext HW0.out).ext E1) ((HS.out.ext HW0.out).ext E1) ((HT.out.ext HW0.out).ext E1) HEv.out).mono ?_; rintro e w2 ⟨ra, rc, rfl, hrc, hr1, hr2, hb2⟩; have E2 : Below W0.heap.size W0 w2 := ext_trans E1 hb2; have HR1 := Lib.hid hr1; have HR2 := Lib.hid hr2; clear hb2 hr1 hr2))
  obtain ⟨es, hes⟩ : ∃ es, evGo m s.ins t.ins = es := ⟨_, rfl⟩
  rw [hes] at hrc h1 hbig HE HR1 HR2 ⊢
  clear hes
  obtain ⟨r, hr⟩ : ∃ r, beforeV m (es.take n.toNat) x = r := ⟨_, rfl⟩
  have HBV := Lib.hid hr
  rw [hr] at HE
  clear hr
  have hnc : n ≤ (rc : Int) := by omega
  have e1 : (n.toNat : Int) = n := by omega
  have km0 : ∀ q : ExtW w2, q.val.cell? ⟨w.heap.size, 0, none⟩ = some (.int .i64 m.regs) := fun q => xm0 _ (ext_trans E2 q.ext)
  have km1 : ∀ q : ExtW w2, q.val.cell? ⟨w.heap.size, 1, none⟩ = some (.slice a1 n1 c1) := fun q => xm1 _ (ext_trans E2 q.ext)
  have km2 : ∀ q : ExtW w2, q.val.cell? ⟨w.heap.size, 2, none⟩ = some (.int .i64 m.ret) := fun q => xm2 _ (ext_trans E2 q.ext)
  have km3 : ∀ q : ExtW w2, q.val.cell? ⟨w.heap.size, 3, none⟩ = some (.slice a2 n2 c2) := fun q => xm3 _ (ext_trans E2 q.ext)
  have kf0 : ∀ q : ExtW w2, q.val.cell? ⟨w.heap.size + 1 + 1 + 1, 0, none⟩ = some (.int .i64 x.1) := fun q => xf0 _ (ext_trans E2 q.ext)
  have kf1 : ∀ q : ExtW w2, q.val.cell? ⟨w.heap.size + 1 + 1 + 1, 1, none⟩ = some (.bool x.2.1) := fun q => xf1 _ (ext_trans E2 q.ext)
  have kf2 : ∀ q : ExtW w2, q.val.cell? ⟨w.heap.size + 1 + 1 + 1, 2, none⟩ = some (.int .i64 x.2.2) := fun q => xf2 _ (ext_trans E2 q.ext)
  have hs2 : W0.heap.size ≤ w2.heap.size := E2.size
  go_cut [14, 15] (fun s14 s15 wx => s14 = .int .i64 r.1 ∧ ∃ px, s15 = .pointer (some ⟨px, 0, none⟩) ∧ wx.heap[px]? = some (factO r.2) ∧ W0.heap.size ≤ px ∧ Below W0.heap.size W0 wx)
  case first =>
    clear xm0 xm1 xm2 xm3 xs0 xs1 xs2 xs3 xs4 xt0 xt1 xt2 xt3 xt4 xf0 xf1 xf2 xy0 xy1 xy2 zy0 zy1 zy2
    refine z_start (fun w' => ∃ n : ExtW w2, w' = n.val) (by kernel_rfl) ?_
    obtain ⟨v0, F0, hv0⟩ : ∃ v0, Below w2.heap.size w2 v0 ∧ w2.drew = v0 := ⟨_, ext_drewN (Below.refl _ _) 1, rfl⟩
    rw [hv0]
    clear hv0
    refine z_reads 0 5 (by kernel_rfl) ⟨⟨_, F0⟩, rfl⟩ ?_
    simp only [List.take_succ_cons, List.take_zero, List.drop_succ_cons, List.drop_zero]
    repeat (go_big_quiet_step (fail))
    refine wpQuiet_nil ?_
    refine z_two 5 9 (by kernel_rfl) ?_ ?_
    · refine wpOp_at rfl rfl ?_
      go_simp
      refine (before_any m a1 a2 n1 c1 n2 c2 ra n.toNat rc (es.take n.toNat) x v0 (((HM.out.ext HW0.out).ext E2).ext F0) ((HR1.out.takeN n.toNat (by omega)).ext evC_len F0) (fun e he => (HR2.out e (List.mem_of_mem_take he)).ext F0) HX.out).mono ?_
      rw [HBV.out]
      rintro e v1 ⟨rfl, hb⟩
      have F1 : Below w2.heap.size w2 v1 := ext_trans F0 hb
      refine ⟨Or.inr ⟨⟨_, F1⟩, rfl⟩, ?_⟩
      try simp only [Act.put, List.setIfInBounds_toArray, List.set_cons_succ, List.set_cons_zero]
      clear hb
      refine z_reads 6 3 (by kernel_rfl) ⟨⟨_, F1⟩, rfl⟩ ?_
      simp only [List.take_succ_cons, List.take_zero, List.drop_succ_cons, List.drop_zero]
      repeat (go_big_quiet_step (fail))
      refine wpQuiet_nil ?_
      refine z_one 9 (by kernel_rfl) ?_
      refine wpOp_at rfl rfl ?_
      refine op_allocB 36 rfl _ zero_fact ?_
      intro px v2 hb hpx FX
      have F2 : Below w2.heap.size w2 v2 := ext_trans F1 hb
      have hpB : w2.heap.size ≤ px := by rw [hpx]; exact F1.size
      refine ⟨Or.inr ⟨⟨_, F2⟩, rfl⟩, ?_⟩
      try simp only [Act.put, List.setIfInBounds_toArray, List.set_cons_succ, List.set_cons_zero]
      clear hb hpx
      refine z_reads 10 1 (by kernel_rfl) ⟨⟨_, F2⟩, rfl⟩ ?_
      simp only [List.take_succ_cons, List.take_zero, List.drop_succ_cons, List.drop_zero]
      repeat (go_big_quiet_step (fail))
      refine wpQuiet_nil ?_
      refine z_one 11 (by kernel_rfl) ?_
      refine wpOp_at rfl rfl ?_
      refine op_store_rowB 36 _ _ rfl px #[.int .i64 r.2.1, .bool r.2.2.1, .int .i64 r.2.2.2] rfl rfl 36 _ FX (by kernel_rfl) rfl (by simp [Value.oneCell']) _ _ F2 hpB ?_
      intro v3 F3 FX2
      refine ⟨Or.inr ⟨⟨_, F3⟩, rfl⟩, ?_⟩
      try simp only [Act.put, List.setIfInBounds_toArray, List.set_cons_succ, List.set_cons_zero]
      refine z_done (by kernel_rfl) ?_
      go_wp2_with fail
      go_meet
      exact ⟨rfl, px, rfl, FX2, by omega, ext_trans E2 F3⟩
    · refine wpOp_at rfl rfl ?_
      refine op_allocB 36 rfl _ zero_fact ?_
      intro px v1 hb hpx FX
      have F1 : Below w2.heap.size w2 v1 := ext_trans F0 hb
      have hpB : w2.heap.size ≤ px := by rw [hpx]; exact F0.size
      refine ⟨Or.inr ⟨⟨_, F1⟩, rfl⟩, ?_⟩
      try simp only [Act.put, List.setIfInBounds_toArray, List.set_cons_succ, List.set_cons_zero]
      clear hb hpx
      refine z_one 5 (by kernel_rfl) ?_
      refine wpOp_at rfl rfl ?_
      go_simp
      refine (before_any m a1 a2 n1 c1 n2 c2 ra n.toNat rc (es.take n.toNat) x v1 (((HM.out.ext HW0.out).ext E2).ext F1) ((HR1.out.takeN n.toNat (by omega)).ext evC_len F1) (fun e he => (HR2.out e (List.mem_of_mem_take he)).ext F1) HX.out).mono ?_
      rw [HBV.out]
      rintro e v2 ⟨rfl, hb⟩
      have F2 : Below w2.heap.size w2 v2 := ext_trans F1 hb
      replace FX := block_ext hb FX
      refine ⟨Or.inr ⟨⟨_, F2⟩, rfl⟩, ?_⟩
      try simp only [Act.put, List.setIfInBounds_toArray, List.set_cons_succ, List.set_cons_zero]
      clear hb
      refine z_reads 6 3 (by kernel_rfl) ⟨⟨_, F2⟩, rfl⟩ ?_
      simp only [List.take_succ_cons, List.take_zero, List.drop_succ_cons, List.drop_zero]
      repeat (go_big_quiet_step (fail))
      refine wpQuiet_nil ?_
      refine z_reads 10 1 (by kernel_rfl) ⟨⟨_, F2⟩, rfl⟩ ?_
      simp only [List.take_succ_cons, List.take_zero, List.drop_succ_cons, List.drop_zero]
      repeat (go_big_quiet_step (fail))
      refine wpQuiet_nil ?_
      refine z_one 11 (by kernel_rfl) ?_
      refine wpOp_at rfl rfl ?_
      refine op_store_rowB 36 _ _ rfl px #[.int .i64 r.2.1, .bool r.2.2.1, .int .i64 r.2.2.2] rfl rfl 36 _ FX (by kernel_rfl) rfl (by simp [Value.oneCell']) _ _ F2 hpB ?_
      intro v3 F3 FX2
      refine ⟨Or.inr ⟨⟨_, F3⟩, rfl⟩, ?_⟩
      try simp only [Act.put, List.setIfInBounds_toArray, List.set_cons_succ, List.set_cons_zero]
      refine z_done (by kernel_rfl) ?_
      go_wp2_with fail
      go_meet
      exact ⟨rfl, px, rfl, FX2, by omega, ext_trans E2 F3⟩
  case rest =>
    obtain ⟨rfl, px, rfl, hP, hpx, E3⟩ := hcut
    have p0 : wc.cell? ⟨px, 0, none⟩ = some (.int .i64 r.2.1) := by rw [cell_of_row _ _ _ _ _ _ hP]; rfl
    have p1 : wc.cell? ⟨px, 1, none⟩ = some (.bool r.2.2.1) := by rw [cell_of_row _ _ _ _ _ _ hP]; rfl
    have p2 : wc.cell? ⟨px, 2, none⟩ = some (.int .i64 r.2.2.2) := by rw [cell_of_row _ _ _ _ _ _ hP]; rfl
    have y0 := xy0 _ E3
    have y1 := xy1 _ E3
    have y2 := xy2 _ E3
    have z0 := zy0 _ E3
    have z1 := zy1 _ E3
    have z2 := zy2 _ E3
    have hne : px ≠ w.heap.size + 1 + 1 + 1 + 1 := by omega
    clear xm0 xm1 xm2 xm3 xs0 xs1 xs2 xs3 xs4 xt0 xt1 xt2 xt3 xt4 xf0 xf1 xf2 xy0 xy1 xy2 zy0 zy1 zy2 km0 km1 km2 km3 kf0 kf1 kf2 hP
    go_wp2
    go_region
    all_goals
      go_wp2
      refine bodyPost_ret (v := .tuple #[.int .i64 r.1, factV r.2, .int .i64 0]) ?_ rfl ?_
      · simp [results, Tryz.results9, go_sem, y0, y1, y2]
      · refine ⟨by rw [HE.out], ?_⟩
        exact ext_drewN (below3 (ext_trans HW0.out E3) (by omega)) 1
theorem before_any2 (m : MachD) (a1 a2 : Option Addr) (n1 c1 n2 c2 : Nat) (s t : BlkD) (sa ta : Option Addr) (ns cs nt ct : Nat) (n : Int) (x : Int × Bool × Int) (w : World) (hm : MachOK w m a1 n1 c1 a2 n2 c2) (hs : BlkOK w s sa ns cs) (ht : BlkOK w t ta nt ct) (hx : FactOK x) :
    Calls Tryz.prog 9 #[machV m a1 n1 c1 a2 n2 c2, blkV s sa ns cs, blkV t ta nt ct, .int .i64 n, factV x] w (BeforePost w (beforeB m s t n x)) := by
  cases hd : doesB m s t with
  | false => exact before_not m a1 a2 n1 c1 n2 c2 s t sa ta ns cs nt ct n x w hm hs ht hx hd
  | true =>
    by_cases hn : n < 0 ∨ ((evGo m s.ins t.ins).length : Int) < n
    · exact before_arg m a1 a2 n1 c1 n2 c2 s t sa ta ns cs nt ct n x w hm hs ht hx hd hn
    · exact before_main m a1 a2 n1 c1 n2 c2 s t sa ta ns cs nt ct n x w hm hs ht hx hd (by omega) (by omega)
end
end Go.Proofs.YtfpbfdkjcmlimaaGreat
