/-
  Flat: how great blocks are, with their arguments; regions that draw their order, whatever the order: by a law for each operation.
-/
import Derived.Test.YtdoahpblphlabaaHP
import Derived.Test.YtdoahpblphlabaaFZ
namespace Go.Proofs.Ytdoahpblphlabaa
set_option linter.unusedSimpArgs false
set_option linter.unusedVariables false
open Go.RowKit

def BigOK (most : Int) (b : BlkR) : Prop := (b.n : Int) ≤ most ∧ ∀ r ∈ b.d.ins, (r.na : Int) ≤ most
def BlocksPost2 (bs : List BlkR) (most : Int) (w : World) (e : Ending) (w' : World) : Prop := ∃ v : Int, e = .returned (.int .i64 v) ∧ 0 ≤ v ∧ v ≤ 35184372088841 ∧ (v ≤ most → ∀ b ∈ bs, BigOK most b) ∧ w = w'
set_option maxRecDepth 100000 in
set_option maxHeartbeats 4000000 in
theorem blocksOf_any2 (a : Option Addr) (n c : Nat) (bs : List BlkR) (most : Int) (h0 : 0 ≤ most) (h1 : most ≤ 1000) (w : World) (h : BlkS w a n bs) :
    Calls Try.prog 6 #[.slice a n c, .int .i64 most] w (BlocksPost2 bs most w) := by
  have H := Lib.hid h
  have HL := Lib.hid h.1.1
  have hn := h.1.2.1
  clear h
  go_enter Try.func6, Try.ntmps6
  go_wp2
  go_loopg [5, 6, 7] n (fun gg s5 s6 _ wr => ∃ (i : Nat) (acc : Int), s6 = .int .i64 i ∧ s5 = .int .i64 acc ∧ i ≤ n ∧ n - i ≤ gg ∧ 0 ≤ acc ∧ acc ≤ 35184372088841 ∧ Hid (acc ≤ most → ∀ b ∈ bs.take i, BigOK most b) ∧ wr = w)
  case atStart => exact ⟨0, 0, rfl, rfl, by omega, by omega, by omega, by omega, fun _ b hb => by simp at hb, rfl⟩
  case round =>
    obtain ⟨i, acc, rfl, rfl, hi, hgg, ha0, ha1, HR, rfl⟩ := hrel
    by_cases hlt : i < n
    · by_cases hm : acc ≤ most
      · have hir : i < bs.length := by rw [HL.out]; exact hlt
        obtain ⟨b, hb⟩ : ∃ b, bs[i]? = some b := ⟨bs[i], List.getElem?_eq_getElem hir⟩
        obtain ⟨B, o, rfl, hc⟩ := H.out.1.2.2 i b hb
        have g0 := hc 0 (by omega)
        rw [Nat.add_zero] at g0
        have hI := H.out.2 b (List.mem_of_getElem? hb)
        have HI := Lib.hid hI
        have hbn := hI.1.2.1
        have HB := Lib.hid hb
        have g0' : wr.cell? ⟨B, o + i * 5, none⟩ = some (.slice b.ia b.n b.c) := g0
        have hmr := HR.out hm
        have HMR := Lib.hid hmr
        clear hb hc hI g0 hmr
        have hlt' : (i : Int) < (n : Int) := by omega
        go_wp2
        obtain ⟨wo, rfl⟩ : ∃ wo : World, wo = wr := ⟨_, rfl⟩
        have HT : Hid (∀ acc2 : Int, acc + 1 + b.n ≤ acc2 → acc2 ≤ most → (∀ r ∈ b.d.ins, (r.na : Int) ≤ most) → ∀ x ∈ bs.take (i + 1), BigOK most x) := fun acc2 h1 h2 h3 x hx => by
          rw [List.take_add_one, HB.out, List.mem_append] at hx
          rcases hx with hx | hx
          · exact HMR.out x hx
          · simp at hx; subst hx; exact ⟨by omega, h3⟩
        go_loopg [5, 7] b.n (fun gg2 s5 s7 wi => ∃ (k : Nat) (acc2 : Int), s7 = .int .i64 k ∧ s5 = .int .i64 acc2 ∧ k ≤ b.n ∧ b.n - k ≤ gg2 ∧ acc + 1 + b.n ≤ acc2 ∧ acc2 ≤ 35184372088841 ∧ Hid (acc2 ≤ most → ∀ r ∈ b.d.ins.take k, (r.na : Int) ≤ most) ∧ wi = wo)
        case atStart => exact ⟨0, acc + 1 + b.n, rfl, rfl, by omega, by omega, by omega, by omega, fun _ r hr => by simp at hr, rfl⟩
        case round =>
          obtain ⟨k, acc2, rfl, rfl, hk, hgg2, hb1, hb2, HRk, rfl⟩ := hrel
          by_cases hk2 : k < b.n
          · by_cases hm2 : acc2 ≤ most
            · obtain ⟨r, bb, oo, hr, hok, hia, c0, c1, c2, c3, c4, c5, c6, c7⟩ := HI.out.cells hk2
              have hna := hok.1.2.1
              rw [hia] at g0'
              have hkz : (k : Int) < (b.n : Int) := by omega
              have HRk2 : Hid (acc2 + r.na ≤ most → ∀ q ∈ b.d.ins.take (k + 1), (q.na : Int) ≤ most) := fun h q hq => by
                rw [List.take_add_one, hr, List.mem_append] at hq
                rcases hq with hq | hq
                · exact HRk.out (by omega) q hq
                · simp at hq; subst hq; omega
              clear hr hok c0 c1 c2 c3 c4 c5 c7 hia
              go_wp2
              go_roundg (b.n - (k + 1))
              case measure => omega
              case rel => exact ⟨k + 1, acc2 + r.na, by go_num, rfl, by omega, Nat.le_refl _, by omega, by omega, HRk2, rfl⟩
            · have hkz : (k : Int) < (b.n : Int) := by omega
              have hm3 : most < acc2 := by omega
              go_wp2
              go_roundg (n - (i + 1))
              case measure => omega
              case rel => exact ⟨i + 1, acc2, by go_num, rfl, by omega, Nat.le_refl _, by omega, by omega, fun h => absurd h (by omega), rfl⟩
          · have hkz : ¬ (k : Int) < (b.n : Int) := by omega
            have HRk3 : Hid (acc2 ≤ most → ∀ r ∈ b.d.ins, (r.na : Int) ≤ most) := fun h => by
              have := HRk.out h
              rwa [List.take_of_length_le (by rw [HI.out.1.1]; omega)] at this
            go_wp2
            go_roundg (n - (i + 1))
            case measure => omega
            case rel => exact ⟨i + 1, acc2, by go_num, rfl, by omega, Nat.le_refl _, by omega, by omega, fun h => HT.out acc2 hb1 h (HRk3.out h), rfl⟩
      · have hm3 : most < acc := by omega
        have hlt' : (i : Int) < (n : Int) := by omega
        go_wp2
        go_ret
        exact ⟨acc, rfl, ha0, ha1, fun h => absurd h (by omega), rfl⟩
    · obtain rfl : i = n := by omega
      have HT : Hid (bs.take i = bs) := List.take_of_length_le (by rw [HL.out]; omega)
      go_wp2
      go_ret
      exact ⟨acc, rfl, ha0, ha1, fun h => by have := HR.out h; rw [HT.out] at this; exact this, rfl⟩
theorem LentM_ok {w : World} {B : Nat} {m : MachD} {g1 g2 n1 n2 k1 k2 c1 c2 : Nat} {a1 a2 : Option Addr} (h1 : Lent w B (.slice (some ⟨g1, 0, none⟩) n1 k1) m.args) (h2 : Lent w B (.slice (some ⟨g2, 0, none⟩) n2 k2) m.saved) (hm : MachOK w m a1 n1 c1 a2 n2 c2) : MachOK w m (some ⟨g1, 0, none⟩) n1 k1 (some ⟨g2, 0, none⟩) n2 k2 := by
  obtain ⟨x1, y1, e1, i1⟩ := h1.ints (by rw [hm.1.1]; exact hm.1.2.1) hm.1.mem
  obtain ⟨x2, y2, e2, i2⟩ := h2.ints (by rw [hm.2.1.1]; exact hm.2.1.2.1) hm.2.1.mem
  obtain ⟨_, _, f1, q1, _⟩ := h1.cells
  obtain ⟨_, _, f2, q2, _⟩ := h2.cells
  rw [hm.1.1] at e1 i1 f1 q1
  rw [hm.2.1.1] at e2 i2 f2 q2
  injection e1 with e11 _ e13
  injection e2 with e21 _ e23
  injection f1 with _ _ f13
  injection f2 with _ _ f23
  exact ⟨by rw [e11]; exact i1, by rw [e21]; exact i2, by omega, by omega, hm.2.2.2.2⟩
theorem LentM.ok {w : World} {B : Nat} {m : MachD} {g1 g2 n1 n2 k1 k2 c1 c2 : Nat} {a1 a2 : Option Addr} (h : LentM w B m (.slice (some ⟨g1, 0, none⟩) n1 k1) (.slice (some ⟨g2, 0, none⟩) n2 k2)) (hm : MachOK w m a1 n1 c1 a2 n2 c2) : MachOK w m (some ⟨g1, 0, none⟩) n1 k1 (some ⟨g2, 0, none⟩) n2 k2 := LentM_ok h.1 h.2 hm
theorem LentRow.blk {w : World} {B : Nat} {s : BlkD} {rs : List InsR} {g n k c : Nat} {a : Option Addr} (h : LentRow w B (.slice (some ⟨g, 0, none⟩) n k) s.ins rs) (hs : BlkOK w s a n c) : BlkOK w (withI s rs) (some ⟨g, 0, none⟩) n k := by
  obtain ⟨_, _, hk, _⟩ := h.insS hs.1 hs.2.1
  exact ⟨h.insN hs.1 hs.2.1, hs.2.1, by omega, hs.2.2.2⟩
end Go.Proofs.Ytdoahpblphlabaa
