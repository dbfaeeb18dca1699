/-
  Flat: Events, Before.
-/
import Derived.Test.YtdoahpblphlabaaFU
import Derived.Test.YtdoahpblphlabaaFX
import Derived.Test.YtdoahpblphlabaaPick
namespace Go.Proofs.Ytdoahpblphlabaa
set_option linter.unusedSimpArgs false
set_option linter.unusedVariables false
open Go.RowKit

theorem even_of_does {m : MachD} {s t : BlkD} (h : doesB m s t = true) : Even s.ins t.ins := by
  simp only [doesB, Bool.and_eq_true] at h
  by_cases e : (bareS s).length = (bareT t).length
  · exact e
  · have := eqFB_len alikeR _ _ e
    rw [this] at h
    simp at h
def eventsN (m : MachD) (s t : BlkD) : Int := if doesB m s t then (evGo m s.ins t.ins).length else 0
theorem evGo_big (m : MachD) (s t : BlkD) (ns nt : Nat) (h1 : s.ins.length = ns) (h2 : t.ins.length = nt) (h3 : ns ≤ 1000000) (h4 : nt ≤ 1000000) : (evGo m s.ins t.ins).length ≤ 2000001 := by
  have := evGo_len m s.ins t.ins
  omega
set_option maxRecDepth 100000 in
set_option maxHeartbeats 4000000 in
theorem eventsN_any (m : MachD) (a1 a2 : Option Addr) (n1 c1 n2 c2 : Nat) (s t : BlkD) (sa ta : Option Addr) (ns cs nt ct : Nat) (w : World) (hm : MachOK w m a1 n1 c1 a2 n2 c2) (hs : BlkOK w s sa ns cs) (ht : BlkOK w t ta nt ct) :
    Calls Try.prog 12 #[machV m a1 n1 c1 a2 n2 c2, blkV s sa ns cs, blkV t ta nt ct] w fun e w' => e = .returned (.int .i64 (eventsN m s t)) ∧ Below w.heap.size w w' := by
  have HM := Lib.hid hm
  have HS := Lib.hid hs
  have HT := Lib.hid ht
  have hbig := evGo_big m s t ns nt hs.1.1.1 ht.1.1.1 hs.2.1 ht.2.1
  clear hm hs ht
  obtain ⟨W0, HW0, hM, hS, hT, hW0⟩ : ∃ W0, Hid (Below w.heap.size w W0) ∧ W0.heap[w.heap.size]? = some (machO m a1 n1 c1 a2 n2 c2) ∧ W0.heap[w.heap.size + 1]? = some (blkO s sa ns cs) ∧ W0.heap[w.heap.size + 1 + 1]? = some (blkO t ta nt ct) ∧ ((w.alloc (machO m a1 n1 c1 a2 n2 c2)).alloc (blkO s sa ns cs)).alloc (blkO t ta nt ct) = W0 :=
    ⟨_, ext_trans (ext_trans (ext_alloc _ _) (ext_alloc _ _)) (ext_alloc _ _), (box3 w _ _ _).1, (box3 w _ _ _).2.1, (box3 w _ _ _).2.2, rfl⟩
  have xm0 : ∀ w', Below W0.heap.size W0 w' → w'.cell? ⟨w.heap.size, 0, none⟩ = some (.int .i64 m.regs) := fun w' hb => by rw [cell_of_row _ _ _ _ _ _ (block_ext hb hM)]; rfl
  have xm1 : ∀ w', Below W0.heap.size W0 w' → w'.cell? ⟨w.heap.size, 1, none⟩ = some (.slice a1 n1 c1) := fun w' hb => by rw [cell_of_row _ _ _ _ _ _ (block_ext hb hM)]; rfl
  have xm2 : ∀ w', Below W0.heap.size W0 w' → w'.cell? ⟨w.heap.size, 2, none⟩ = some (.int .i64 m.ret) := fun w' hb => by rw [cell_of_row _ _ _ _ _ _ (block_ext hb hM)]; rfl
  have xm3 : ∀ w', Below W0.heap.size W0 w' → w'.cell? ⟨w.heap.size, 3, none⟩ = some (.slice a2 n2 c2) := fun w' hb => by rw [cell_of_row _ _ _ _ _ _ (block_ext hb hM)]; rfl
  have xs0 : ∀ w', Below W0.heap.size W0 w' → w'.cell? ⟨w.heap.size + 1, 0, none⟩ = some (.slice sa ns cs) := fun w' hb => by rw [cell_of_row _ _ _ _ _ _ (block_ext hb hS)]; rfl
  have xs1 : ∀ w', Below W0.heap.size W0 w' → w'.cell? ⟨w.heap.size + 1, 1, none⟩ = some (.int .i64 s.kind) := fun w' hb => by rw [cell_of_row _ _ _ _ _ _ (block_ext hb hS)]; rfl
  have xs2 : ∀ w', Below W0.heap.size W0 w' → w'.cell? ⟨w.heap.size + 1, 2, none⟩ = some (.int .i64 s.a) := fun w' hb => by rw [cell_of_row _ _ _ _ _ _ (block_ext hb hS)]; rfl
  have xs3 : ∀ w', Below W0.heap.size W0 w' → w'.cell? ⟨w.heap.size + 1, 3, none⟩ = some (.int .i64 s.to0) := fun w' hb => by rw [cell_of_row _ _ _ _ _ _ (block_ext hb hS)]; rfl
  have xs4 : ∀ w', Below W0.heap.size W0 w' → w'.cell? ⟨w.heap.size + 1, 4, none⟩ = some (.int .i64 s.to1) := fun w' hb => by rw [cell_of_row _ _ _ _ _ _ (block_ext hb hS)]; rfl
  have xt0 : ∀ w', Below W0.heap.size W0 w' → w'.cell? ⟨w.heap.size + 1 + 1, 0, none⟩ = some (.slice ta nt ct) := fun w' hb => by rw [cell_of_row _ _ _ _ _ _ (block_ext hb hT)]; rfl
  have xt1 : ∀ w', Below W0.heap.size W0 w' → w'.cell? ⟨w.heap.size + 1 + 1, 1, none⟩ = some (.int .i64 t.kind) := fun w' hb => by rw [cell_of_row _ _ _ _ _ _ (block_ext hb hT)]; rfl
  have xt2 : ∀ w', Below W0.heap.size W0 w' → w'.cell? ⟨w.heap.size + 1 + 1, 2, none⟩ = some (.int .i64 t.a) := fun w' hb => by rw [cell_of_row _ _ _ _ _ _ (block_ext hb hT)]; rfl
  have xt3 : ∀ w', Below W0.heap.size W0 w' → w'.cell? ⟨w.heap.size + 1 + 1, 3, none⟩ = some (.int .i64 t.to0) := fun w' hb => by rw [cell_of_row _ _ _ _ _ _ (block_ext hb hT)]; rfl
  have xt4 : ∀ w', Below W0.heap.size W0 w' → w'.cell? ⟨w.heap.size + 1 + 1, 4, none⟩ = some (.int .i64 t.to1) := fun w' hb => by rw [cell_of_row _ _ _ _ _ _ (block_ext hb hT)]; rfl
  cases hd : doesB m s t with
  | false =>
    have HE : Hid (eventsN m s t = 0) := by rw [Hid, eventsN, hd]; rfl
    clear hM hS hT xm0 xm1 xm2 xm3 xs0 xs1 xs2 xs3 xs4 xt0 xt1 xt2 xt3 xt4
    have HW := Lib.hid hW0
    clear hW0
    go_enter Try.func12, Try.ntmps12
    go_wp2_with (go_at_call 16; rw [HW.out]; refine (does_any m a1 a2 n1 c1 n2 c2 s t sa ta ns cs nt ct W0 (HM.out.ext HW0.out) (HS.out.ext HW0.out) (HT.out.ext HW0.out)).mono ?_; rw [hd]; rintro e w1 ⟨rfl, hb1⟩; have HB1 := Lib.hid (ext_trans HW0.out hb1); clear hb1)
    go_ret
    exact ⟨by rw [HE.out]; rfl, HB1.out⟩
  | true =>
    have HE : Hid (eventsN m s t = (evGo m s.ins t.ins).length) := by rw [Hid, eventsN, hd]; rfl
    have HEv := Lib.hid (even_of_does hd)
    clear hM hS hT
    have HW := Lib.hid hW0
    clear hW0
    go_enter Try.func12, Try.ntmps12
    go_wp2_with (first
      | (go_at_call 16; rw [HW.out]; refine (does_any m a1 a2 n1 c1 n2 c2 s t sa ta ns cs nt ct W0 (HM.out.ext HW0.out) (HS.out.ext HW0.out) (HT.out.ext HW0.out)).mono ?_; rw [hd]; rintro e w1 ⟨rfl, E1⟩)
      | (go_at_call 21; refine (events_any m a1 a2 n1 c1 n2 c2 s t sa ta ns cs nt ct w1 ((HM.out.ext HW0.out).ext E1) ((HS.out.ext HW0.out).ext E1) ((HT.out.ext HW0.out).ext E1) HEv.out).mono ?_; rintro e w2 ⟨ra, rc, rfl, _, _, _, hb2⟩; have HB2 := Lib.hid (ext_trans (ext_trans HW0.out E1) hb2); clear hb2))
    go_ret
    exact ⟨by rw [HE.out]; rfl, HB2.out⟩
end Go.Proofs.Ytdoahpblphlabaa
