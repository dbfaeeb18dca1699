/-
  mir.Reads, Writes of an inserted instruction: what they tell lies apart. (Printed by gen_new.py out of XFB.)
-/
import Derived.Test.YtfpbfdkjcmlimaaGreatFD
namespace Go.Proofs.YtfpbfdkjcmlimaaGreat
set_option linter.unusedSimpArgs false
set_option linter.unusedVariables false
set_option linter.unusedSectionVars false
set_option maxRecDepth 100000
set_option maxHeartbeats 40000000
section
open Go.RowKit
def LocsNew (w : World) (ls : List (Bool × Int)) (e : Ending) (w' : World) : Prop := ∃ a c, e = .returned (.slice a ls.length c) ∧ (Locs w' a ls.length ls ∧ ∀ g o s, a = some ⟨g, o, s⟩ → w.heap.size ≤ g) ∧ Below w.heap.size w w'
theorem places_new (a : Option Addr) (n c : Nat) (xs : List Int) (w : World) (h : Ints w a n xs) (hn : n ≤ 1000000) :
    Calls Tryz.prog 63 #[.slice a n c] w (LocsNew w (xs.map fun x => (false, x))) := by
  have HL := Lib.hid h.1
  have H := Lib.hid h
  clear h
  go_enter Tryz.func63, Tryz.ntmps63
  go_wp2
  go_loopw [2, 4, 7] (fun v x i wr => ∃ (k : Nat), k ≤ n ∧ i = .int .i64 k ∧ Hid (wr.ownsRow w.heap.size 34 2 v k (((xs.take k).map fun x => (false, x)).flatMap locC)) ∧ Hid (Below w.heap.size w wr)) (fun _ _ i _ => n - (intOf i).toNat)
  case atStart => exact ⟨0, by omega, rfl, World.ownsRow_nil _ _ _ _, Below.refl _ _⟩
  case round =>
    obtain ⟨k, hk, rfl, HO, HB⟩ := hrel
    by_cases hlt : k < n
    · obtain ⟨b, o, rfl, hc, _⟩ := (H.out.ext HB.out).2.2 k hlt
      have HS : Hid (((xs.take (k + 1)).map fun x => (false, x)).flatMap locC = ((xs.take k).map fun x => (false, x)).flatMap locC ++ [.bool false, .int .i64 (xs.getD k 0)]) := by
        have hk' : k < xs.length := by rw [HL.out]; exact hlt
        rw [Hid, takeS xs k 0 hk', List.map_append, List.flatMap_append]
        rfl
      generalize xs.getD k 0 = x at *
      go_wp2_with (first
        | (at_builtin
           refine wpList_append1 rfl wr (.tmp 11) (.tmp 14) 86 34 rfl w.heap.size _ 2 16 Tryz.underlying86 info_loc rfl (by omega) u2 k _ [.bool false, .int .i64 x] rfl HO.out wr.heap.size rfl rfl rfl (by simp [Value.oneCell']) (by simp only [maxLen]; omega) (by omega) HB.out.size ?_
           intro g cap w2 hown2 hg2 hat2
           have HO2 : Hid (w2.ownsRow w.heap.size 34 2 (.slice (some ⟨g, 0, none⟩) (k + 1) cap) (k + 1) (((xs.take (k + 1)).map fun x => (false, x)).flatMap locC)) := by rw [Hid, HS.out]; exact hown2
           have HB2 : Hid (Below w.heap.size w w2) := HB.out.grown hg2 HB.out.size (fun j e => (HO.out.lt j e).1)
           clear hown2 hg2 hat2))
      go_roundw
      case rel => exact ⟨k + 1, by omega, by go_num, HO2, HB2⟩
      case measure => simp [intOf]; omega
    · obtain rfl : k = n := by omega
      go_wp2
      go_ret
      have ho := HO.out
      rw [List.take_of_length_le (by rw [HL.out]; omega)] at ho
      have hlen : (xs.map fun x => (false, x)).length = k := by rw [List.length_map, HL.out]
      rw [← hlen] at ho
      obtain ⟨a2, c2, e2, hr, hf⟩ := recs_of_own locC_len ho (by rw [hlen]; omega)
      exact ⟨a2, c2, congrArg _ e2, ⟨hr, hf⟩, HB.out⟩
theorem writes_new (m : MachD) (i : InsD) (a1 a2 aa : Option Addr) (n1 c1 n2 c2 na ca : Nat) (w : World) (h1 : I64 m.ret) (h2 : I64 i.dst) (hk : hasV i.op = 3 ∨ hasV i.op = 18 ∨ hasV i.op = 17) :
    Calls Tryz.prog 41 #[machV m a1 n1 c1 a2 n2 c2, insV i aa na ca] w (LocsNew w (writesL m i)) := by
  have H1 := Lib.hid h1
  have H2 := Lib.hid h2
  clear h1 h2
  rcases hk with hv | hv | hv
  all_goals
    have HV := Lib.hid hv
    clear hv
    go_enter Tryz.func41, Tryz.ntmps41
    go_wp2_with (first
      | (go_at_call 61
         refine (has_any _ _).mono ?_
         rintro e w1 ⟨rfl, hb1⟩
         obtain ⟨x1, x2, x3⟩ := box2 w (machO m a1 n1 c1 a2 n2 c2) (insO i aa na ca) w1 hb1
         obtain ⟨-, y1, y2, -, -, y3, -⟩ := mi_cells x1 x2
         have HB1 := Lib.hid x3
         clear x1 x2 x3 hb1
         rw [HV.out])
      | (go_at_call 62
         refine (with_any _ _ _).mono ?_
         rintro e w' ⟨rfl, rfl⟩
         simp only [show withB 0 32 = false from rfl, show withB 3 32 = false from rfl, show withB 7 32 = false from rfl, show withB 9 32 = false from rfl, show withB 11 32 = false from rfl, show withB 14 32 = false from rfl, show withB 17 32 = false from rfl, show withB 18 32 = false from rfl, show withB 32 32 = true from rfl, show withB 0 1 = false from rfl, show withB 3 1 = true from rfl, show withB 7 1 = true from rfl, show withB 9 1 = true from rfl, show withB 11 1 = true from rfl, show withB 14 1 = false from rfl, show withB 17 1 = true from rfl, show withB 18 1 = false from rfl, show withB 0 16 = false from rfl, show withB 14 16 = false from rfl, show withB 18 16 = true from rfl])
      | (go_at_call 63
         (first
           | refine (places_new (some ⟨w1.heap.size, 0, none⟩) 1 1 [m.ret] _ (one_ints w1 w1.heap.size rfl m.ret H1.out _) (by omega)).mono ?_
           | refine (places_new (some ⟨w1.heap.size, 0, none⟩) 1 1 [i.dst] _ (one_ints w1 w1.heap.size rfl i.dst H2.out _) (by omega)).mono ?_)
         rintro e w2 ⟨a3, c3, rfl, hl3, hb3⟩
         have HL3 := Lib.hid hl3
         have HB3 := Lib.hid (ext_trans (ext_trans HB1.out (ext_alloc w1 _)) hb3)
         clear hl3 hb3))
    go_ret
    first
      | (have hw : writesL m i = [(false, m.ret)] := (by unfold writesL; rw [HV.out]; rfl)
         rw [LocsNew, hw]
         exact ⟨a3, c3, rfl, ⟨HL3.out.1, fun g o s e => by have h1 := HL3.out.2 g o s e; have h2 := HB1.out.size; simp at h1; omega⟩, HB3.out⟩)
      | (have hw : writesL m i = [(false, i.dst)] := (by unfold writesL; rw [HV.out]; rfl)
         rw [LocsNew, hw]
         exact ⟨a3, c3, rfl, ⟨HL3.out.1, fun g o s e => by have h1 := HL3.out.2 g o s e; have h2 := HB1.out.size; simp at h1; omega⟩, HB3.out⟩)
      | (have hw : writesL m i = [(true, i.imm)] := (by unfold writesL; rw [HV.out]; rfl)
         rw [LocsNew, hw]
         exact ⟨_, _, rfl, ⟨one_loc _ _ rfl _ _ _, fun g o s e => by have h2 := HB1.out.size; injection e with e; injection e with e; omega⟩, ext_trans HB1.out (ext_alloc _ _)⟩)
      | (have hw : writesL m i = [] := (by unfold writesL; rw [HV.out]; rfl)
         rw [LocsNew, hw]
         exact ⟨none, 0, rfl, Recs.nil _ _ _, HB1.out⟩)
theorem reads_new (m : MachD) (i : InsD) (a1 a2 aa : Option Addr) (n1 c1 n2 c2 na ca : Nat) (w : World) (h : Ints w a1 n1 m.args) (hn : n1 ≤ 1000000) (hc : n1 ≤ c1) (h1 : I64 i.a) (h2 : I64 i.b) (h3 : I64 i.many) (hk : hasV i.op = 3 ∨ hasV i.op = 18 ∨ hasV i.op = 17) :
    Calls Tryz.prog 40 #[machV m a1 n1 c1 a2 n2 c2, insV i aa na ca] w (LocsNew w (readsL m i)) := by
  have H1 := Lib.hid h1
  have H2 := Lib.hid h2
  have H := Lib.hid h
  have HLA := Lib.hid h.1
  obtain ⟨h3, h4⟩ := h3
  clear h1 h2 h
  rcases hk with hv | hv | hv
  all_goals
    have HV := Lib.hid hv
    clear hv
    go_enter Tryz.func40, Tryz.ntmps40
    go_wp2_with (first
      | (go_at_call 61
         refine (has_any _ _).mono ?_
         rintro e w1 ⟨rfl, hb1⟩
         obtain ⟨x1, x2, x3⟩ := box2 w (machO m a1 n1 c1 a2 n2 c2) (insO i aa na ca) w1 hb1
         obtain ⟨y0, y1, y2, y3, y4, y5, y6⟩ := mi_cells x1 x2
         have HB1 := Lib.hid x3
         clear x1 x2 x3 hb1
         rw [HV.out])
      | (go_at_call 62
         refine (with_any _ _ _).mono ?_
         rintro e w' ⟨rfl, rfl⟩
         simp only [show withB 0 1 = false from rfl, show withB 0 2 = false from rfl, show withB 0 4 = false from rfl, show withB 0 16 = false from rfl, show withB 0 32 = false from rfl, show withB 3 1 = true from rfl, show withB 3 2 = true from rfl, show withB 3 4 = false from rfl, show withB 3 16 = false from rfl, show withB 3 32 = false from rfl, show withB 7 1 = true from rfl, show withB 7 2 = true from rfl, show withB 7 4 = true from rfl, show withB 7 16 = false from rfl, show withB 7 32 = false from rfl, show withB 9 1 = true from rfl, show withB 9 2 = false from rfl, show withB 9 4 = false from rfl, show withB 9 16 = false from rfl, show withB 9 32 = false from rfl, show withB 11 1 = true from rfl, show withB 11 2 = true from rfl, show withB 11 4 = false from rfl, show withB 11 16 = false from rfl, show withB 11 32 = false from rfl, show withB 14 1 = false from rfl, show withB 14 2 = true from rfl, show withB 14 4 = true from rfl, show withB 14 16 = false from rfl, show withB 14 32 = false from rfl, show withB 17 1 = true from rfl, show withB 17 2 = false from rfl, show withB 17 4 = false from rfl, show withB 17 16 = true from rfl, show withB 17 32 = false from rfl, show withB 18 1 = false from rfl, show withB 18 2 = true from rfl, show withB 18 4 = false from rfl, show withB 18 16 = true from rfl, show withB 18 32 = false from rfl, show withB 32 1 = false from rfl, show withB 32 2 = false from rfl, show withB 32 4 = false from rfl, show withB 32 16 = false from rfl, show withB 32 32 = true from rfl])
      | (go_at_call 63
         (first
           | (with_reducible refine (places_new (some ⟨w1.heap.size, 0, none⟩) 2 2 [i.a, i.b] _ (two_ints w1 w1.heap.size rfl i.a i.b H1.out H2.out _) (by omega)).mono ?_)
           | (with_reducible refine (places_new (some ⟨w1.heap.size, 0, none⟩) 1 1 [i.a] _ (one_ints w1 w1.heap.size rfl i.a H1.out _) (by omega)).mono ?_))
         rintro e w2 ⟨a3, c3, rfl, hl3, hb3⟩
         have HL3 := Lib.hid hl3
         have HB3 := Lib.hid (ext_trans (ext_trans HB1.out (ext_alloc w1 _)) hb3)
         clear hl3 hb3))
    go_ret
    first
      | (have hw : readsL m i = [(false, i.a), (false, i.b)] := (by unfold readsL; rw [HV.out]; rfl)
         rw [LocsNew, hw]
         exact ⟨a3, c3, rfl, ⟨HL3.out.1, fun g o s e => by have h1 := HL3.out.2 g o s e; have h2 := HB1.out.size; simp at h1; omega⟩, HB3.out⟩)
      | (have hw : readsL m i = [(false, i.a)] := (by unfold readsL; rw [HV.out]; rfl)
         rw [LocsNew, hw]
         exact ⟨a3, c3, rfl, ⟨HL3.out.1, fun g o s e => by have h1 := HL3.out.2 g o s e; have h2 := HB1.out.size; simp at h1; omega⟩, HB3.out⟩)
      | (have hw : readsL m i = [(true, i.imm)] := (by unfold readsL; rw [HV.out]; rfl)
         rw [LocsNew, hw]
         exact ⟨_, _, rfl, ⟨one_loc _ _ rfl _ _ _, fun g o s e => by have h2 := HB1.out.size; injection e with e; injection e with e; omega⟩, ext_trans HB1.out (ext_alloc _ _)⟩)
      | (have hw : readsL m i = [] := (by unfold readsL; rw [HV.out]; rfl)
         rw [LocsNew, hw]
         exact ⟨none, 0, rfl, Recs.nil _ _ _, HB1.out⟩)
end
end Go.Proofs.YtfpbfdkjcmlimaaGreat
