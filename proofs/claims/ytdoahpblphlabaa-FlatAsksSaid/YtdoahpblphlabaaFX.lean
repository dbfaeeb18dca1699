/-
  Flat: how great blocks are.
-/
import Derived.Test.YtdoahpblphlabaaFN
import Derived.Deep.LoopGhost
namespace Go.Proofs.Ytdoahpblphlabaa
set_option linter.unusedSimpArgs false
set_option linter.unusedVariables false
open Go.RowKit

/-- a block as it lies in memory -/
structure BlkR where
  d : BlkD
  ia : Option Addr
  n : Nat
  c : Nat
def blkC (b : BlkR) : List Value := [.slice b.ia b.n b.c, .int .i64 b.d.kind, .int .i64 b.d.a, .int .i64 b.d.to0, .int .i64 b.d.to1]
theorem blkC_len (b : BlkR) : (blkC b).length = 5 := rfl
def BlkS (w : World) (a : Option Addr) (n : Nat) (bs : List BlkR) : Prop := Recs 5 blkC w a n bs ∧ ∀ b ∈ bs, InsS w b.ia b.n b.d.ins
theorem BlkS.ext {w w' : World} {a : Option Addr} {n : Nat} {bs : List BlkR} (h : BlkS w a n bs) (hb : Below w.heap.size w w') : BlkS w' a n bs := ⟨h.1.ext blkC_len hb, fun b hx => (h.2 b hx).ext hb⟩
def BlocksPost (bs : List BlkR) (most : Int) (w : World) (e : Ending) (w' : World) : Prop := ∃ v : Int, e = .returned (.int .i64 v) ∧ 0 ≤ v ∧ v ≤ 35184372088841 ∧ (v ≤ most → ∀ b ∈ bs, (b.n : Int) ≤ most) ∧ w = w'
set_option maxRecDepth 100000 in
set_option maxHeartbeats 4000000 in
theorem blocksOf_any (a : Option Addr) (n c : Nat) (bs : List BlkR) (most : Int) (h0 : 0 ≤ most) (h1 : most ≤ 1000) (w : World) (h : BlkS w a n bs) :
    Calls Try.prog 6 #[.slice a n c, .int .i64 most] w (BlocksPost bs most w) := by
  have H := Lib.hid h
  have HL := Lib.hid h.1.1
  have hn := h.1.2.1
  clear h
  go_enter Try.func6, Try.ntmps6
  go_wp2
  go_loopg [5, 6, 7] n (fun gg s5 s6 _ wr => ∃ (i : Nat) (acc : Int), s6 = .int .i64 i ∧ s5 = .int .i64 acc ∧ i ≤ n ∧ n - i ≤ gg ∧ 0 ≤ acc ∧ acc ≤ 35184372088841 ∧ Hid (acc ≤ most → ∀ b ∈ bs.take i, (b.n : Int) ≤ most) ∧ wr = w)
  case atStart => exact ⟨0, 0, rfl, rfl, by omega, by omega, by omega, by omega, fun _ b hb => by simp at hb, rfl⟩
  case round =>
    obtain ⟨i, acc, rfl, rfl, hi, hgg, ha0, ha1, HR, rfl⟩ := hrel
    by_cases hlt : i < n
    · by_cases hm : acc ≤ most
      · have hir : i < bs.length := by rw [HL.out]; exact hlt
        obtain ⟨b, hb⟩ : ∃ b, bs[i]? = some b := ⟨bs[i], List.getElem?_eq_getElem hir⟩
        obtain ⟨B, o, rfl, hc⟩ := H.out.1.2.2 i b hb
        have g0 := hc 0 (by omega)
        rw [Nat.add_zero] at g0
        have hI := H.out.2 b (List.mem_of_getElem? hb)
        have HI := Lib.hid hI
        have hbn := hI.1.2.1
        have HB := Lib.hid hb
        have g0' : wr.cell? ⟨B, o + i * 5, none⟩ = some (.slice b.ia b.n b.c) := g0
        have hmr := HR.out hm
        have HMR := Lib.hid hmr
        clear hb hc hI g0 hmr
        have hlt' : (i : Int) < (n : Int) := by omega
        go_wp2
        obtain ⟨wo, rfl⟩ : ∃ wo : World, wo = wr := ⟨_, rfl⟩
        have HT : Hid (∀ acc2 : Int, acc + 1 + b.n ≤ acc2 → acc2 ≤ most → ∀ x ∈ bs.take (i + 1), (x.n : Int) ≤ most) := fun acc2 h1 h2 x hx => by
          rw [List.take_add_one, HB.out, List.mem_append] at hx
          rcases hx with hx | hx
          · exact HMR.out x hx
          · simp at hx; subst hx; omega
        go_loopg [5, 7] b.n (fun gg2 s5 s7 wi => ∃ (k : Nat) (acc2 : Int), s7 = .int .i64 k ∧ s5 = .int .i64 acc2 ∧ k ≤ b.n ∧ b.n - k ≤ gg2 ∧ acc + 1 + b.n ≤ acc2 ∧ acc2 ≤ 35184372088841 ∧ wi = wo)
        case atStart => exact ⟨0, acc + 1 + b.n, rfl, rfl, by omega, by omega, by omega, by omega, rfl⟩
        case round =>
          obtain ⟨k, acc2, rfl, rfl, hk, hgg2, hb1, hb2, rfl⟩ := hrel
          by_cases hk2 : k < b.n
          · by_cases hm2 : acc2 ≤ most
            · obtain ⟨r, bb, oo, hr, hok, hia, c0, c1, c2, c3, c4, c5, c6, c7⟩ := HI.out.cells hk2
              have hna := hok.1.2.1
              rw [hia] at g0'
              have hkz : (k : Int) < (b.n : Int) := by omega
              clear hr hok c0 c1 c2 c3 c4 c5 c7 hia
              go_wp2
              go_roundg (b.n - (k + 1))
              case measure => omega
              case rel => exact ⟨k + 1, acc2 + r.na, by go_num, rfl, by omega, Nat.le_refl _, by omega, by omega, rfl⟩
            · have hkz : (k : Int) < (b.n : Int) := by omega
              have hm3 : most < acc2 := by omega
              go_wp2
              go_roundg (n - (i + 1))
              case measure => omega
              case rel => exact ⟨i + 1, acc2, by go_num, rfl, by omega, Nat.le_refl _, by omega, by omega, HT.out acc2 hb1, rfl⟩
          · have hkz : ¬ (k : Int) < (b.n : Int) := by omega
            go_wp2
            go_roundg (n - (i + 1))
            case measure => omega
            case rel => exact ⟨i + 1, acc2, by go_num, rfl, by omega, Nat.le_refl _, by omega, by omega, HT.out acc2 hb1, rfl⟩
      · have hm3 : most < acc := by omega
        have hlt' : (i : Int) < (n : Int) := by omega
        go_wp2
        go_ret
        exact ⟨acc, rfl, ha0, ha1, fun h => absurd h (by omega), rfl⟩
    · obtain rfl : i = n := by omega
      have HT : Hid (bs.take i = bs) := List.take_of_length_le (by rw [HL.out]; omega)
      go_wp2
      go_ret
      exact ⟨acc, rfl, ha0, ha1, fun h => by have := HR.out h; rw [HT.out] at this; exact this, rfl⟩
end Go.Proofs.Ytdoahpblphlabaa
