/-
  SlotSmall: the walk of the law.
-/
import Derived.Test.YtkakanjoeofjcaaFrames
namespace Go.Proofs.Ytkakanjoeofjcaa
open Go.RowKit

/-- a slice of pairs of the call's own -/
def OwnPrs (w : World) (base : Nat) (v : Value) (b : Nat) : Prop := ∃ qs : List (Int × Int), w.ownsRow base 41 2 v qs.length (flat2 qs) ∧ qs.length ≤ b ∧ ∀ p ∈ qs, I64 p.1 ∧ I64 p.2
theorem OwnPrs.ext {w w' : World} {base : Nat} {v : Value} {b : Nat} (h : OwnPrs w base v b) (hb : Below w.heap.size w w') : OwnPrs w' base v b := by
  obtain ⟨qs, h1, h2⟩ := h
  exact ⟨qs, (Steady.ownsRow w.heap.size _ _ _ _ _ _).ext h1 hb, h2⟩
theorem OwnPrs.prs {w : World} {base : Nat} {v : Value} {b : Nat} (h : OwnPrs w base v b) (hb : b ≤ 1000000) : ∃ a n c qs, v = .slice a n c ∧ Prs w a n qs := by
  obtain ⟨qs, h1, h2, h3⟩ := h
  obtain ⟨a, c, rfl, h4⟩ := prs_of_own h1 (by omega) h3
  exact ⟨a, _, c, qs, rfl, h4⟩
theorem OwnPrs.le {w : World} {base : Nat} {v : Value} {b b' : Nat} (h : OwnPrs w base v b) (hb : b ≤ b') : OwnPrs w base v b' := by
  obtain ⟨qs, h1, h2, h3⟩ := h
  exact ⟨qs, h1, by omega, h3⟩
theorem ints_lit (X : World) (H : Nat) (hH : X.heap.size = H) (cs : Array Value) (t : TypeId) (xs : List Int) (hcs : cs = (xs.map (Value.int .i64)).toArray) (hl : xs.length ≤ 17592186044416) (hw : xs.all (fun x => decide (-1000000 ≤ x) && decide (x ≤ 1000000)) = true) : Ints (X.alloc (.cells cs t)) (some ⟨H, 0, none⟩) xs.length xs := by
  subst hcs
  exact ints_new X H hH t xs hl (small_I64 xs hw)
theorem prs_new (X : World) (H : Nat) (hH : X.heap.size = H) (t : TypeId) (ps : List (Int × Int)) (hl : ps.length ≤ 17592186044416) (hw : ps.all (fun x => decide (-1000000 ≤ x.1) && decide (x.1 ≤ 1000000) && decide (-1000000 ≤ x.2) && decide (x.2 ≤ 1000000)) = true) : Prs (X.alloc (.cells (flat2 ps).toArray t)) (some ⟨H, 0, none⟩) ps.length ps := by
  subst hH
  refine ⟨rfl, hl, fun k hk => ⟨_, 0, rfl, ?_⟩⟩
  have hh := World.alloc_heap_new X (.cells (flat2 ps).toArray t)
  obtain ⟨e1, e2⟩ := flat2_at ps k hk
  have hm := List.all_eq_true.1 hw _ (getD_mem (d := (0, 0)) hk)
  simp only [Bool.and_eq_true, decide_eq_true_eq] at hm
  refine ⟨?_, ?_, ⟨by omega, by omega⟩, ⟨by omega, by omega⟩⟩
  · rw [cell_of_row _ _ _ _ _ _ hh]
    simpa using e1
  · rw [cell_of_row _ _ _ _ _ _ hh]
    simpa using e2
theorem prs_new' (X : World) (H : Nat) (hH : X.heap.size = H) (t : TypeId) (ps : List (Int × Int)) (hl : ps.length ≤ 17592186044416) (hw : ∀ p ∈ ps, I64 p.1 ∧ I64 p.2) : Prs (X.alloc (.cells (flat2 ps).toArray t)) (some ⟨H, 0, none⟩) ps.length ps := by
  subst hH
  refine ⟨rfl, hl, fun k hk => ⟨_, 0, rfl, ?_⟩⟩
  have hh := World.alloc_heap_new X (.cells (flat2 ps).toArray t)
  obtain ⟨e1, e2⟩ := flat2_at ps k hk
  have hm := hw _ (getD_mem (d := (0, 0)) hk)
  refine ⟨?_, ?_, hm.1, hm.2⟩
  · rw [cell_of_row _ _ _ _ _ _ hh]
    simpa using e1
  · rw [cell_of_row _ _ _ _ _ _ hh]
    simpa using e2
def badOut (X : World) : Array Value := #[.slice (some ⟨X.heap.size, 0, none⟩) 1 1, .slice (some ⟨X.heap.size + 1, 0, none⟩) 1 1, .slice (some ⟨X.heap.size + 1 + 1, 0, none⟩) 2 2, .slice (some ⟨X.heap.size + 1 + 1 + 1, 0, none⟩) 2 2, .slice (some ⟨X.heap.size + 1 + 1 + 1 + 1, 0, none⟩) 1 1, .slice (some ⟨X.heap.size + 1 + 1 + 1 + 1 + 1, 0, none⟩) 1 1, .slice (some ⟨X.heap.size + 1 + 1 + 1 + 1 + 1 + 1, 0, none⟩) 1 1, .slice (some ⟨X.heap.size + 1 + 1 + 1 + 1 + 1 + 1 + 1, 0, none⟩) 1 1]
def badW (X : World) : World := ((((((((X.alloc (.cells #[.int .i64 0] 3)).alloc (.cells #[.int .i64 201] 3)).alloc (.cells #[.int .i64 2, .int .i64 2] 3)).alloc (.cells #[.int .i64 3, .int .i64 1] 3)).alloc (.cells #[.int .i64 (-1)] 3)).alloc (.cells #[.int .i64 64] 3)).alloc (.cells #[.int .i64 63] 3)).alloc (.cells #[.int .i64 200] 3)).alloc (.cells (badOut X) 22)
theorem badW_ext (X : World) : Below X.heap.size X (badW X) := ext_trans (ext_trans (ext_trans (ext_trans (ext_trans (ext_trans (ext_trans (ext_trans (ext_alloc X _) (ext_alloc _ _)) (ext_alloc _ _)) (ext_alloc _ _)) (ext_alloc _ _)) (ext_alloc _ _)) (ext_alloc _ _)) (ext_alloc _ _)) (ext_alloc _ _)
theorem bad_all (X : World) : ∀ i, i < 8 → ∃ a n c xs, (badW X).cell? ⟨X.heap.size + 1 + 1 + 1 + 1 + 1 + 1 + 1 + 1, i, none⟩ = some (.slice a n c) ∧ Ints (badW X) a n xs := by
  have hh := World.alloc_heap_new ((((((((X.alloc (.cells #[.int .i64 0] 3)).alloc (.cells #[.int .i64 201] 3)).alloc (.cells #[.int .i64 2, .int .i64 2] 3)).alloc (.cells #[.int .i64 3, .int .i64 1] 3)).alloc (.cells #[.int .i64 (-1)] 3)).alloc (.cells #[.int .i64 64] 3)).alloc (.cells #[.int .i64 63] 3)).alloc (.cells #[.int .i64 200] 3)) (.cells (badOut X) 22)
  have hs : ((((((((X.alloc (.cells #[.int .i64 0] 3)).alloc (.cells #[.int .i64 201] 3)).alloc (.cells #[.int .i64 2, .int .i64 2] 3)).alloc (.cells #[.int .i64 3, .int .i64 1] 3)).alloc (.cells #[.int .i64 (-1)] 3)).alloc (.cells #[.int .i64 64] 3)).alloc (.cells #[.int .i64 63] 3)).alloc (.cells #[.int .i64 200] 3)).heap.size = X.heap.size + 1 + 1 + 1 + 1 + 1 + 1 + 1 + 1 := by simp
  rw [hs] at hh
  intro i hi
  match i, hi with
  | 0, _ => exact ⟨_, _, _, _, by rw [show (badW X).cell? _ = _ from cell_of_row _ _ _ _ _ _ hh]; rfl, (ints_lit X (X.heap.size) (by simp) #[.int .i64 0] 3 [0] rfl (by simp) (by decide)).ext (ext_trans (ext_alloc _ _) (ext_trans (ext_alloc _ _) (ext_trans (ext_alloc _ _) (ext_trans (ext_alloc _ _) (ext_trans (ext_alloc _ _) (ext_trans (ext_alloc _ _) (ext_trans (ext_alloc _ _) (ext_alloc _ _))))))))⟩
  | 1, _ => exact ⟨_, _, _, _, by rw [show (badW X).cell? _ = _ from cell_of_row _ _ _ _ _ _ hh]; rfl, (ints_lit (X.alloc (.cells #[.int .i64 0] 3)) (X.heap.size + 1) (by simp) #[.int .i64 201] 3 [201] rfl (by simp) (by decide)).ext (ext_trans (ext_alloc _ _) (ext_trans (ext_alloc _ _) (ext_trans (ext_alloc _ _) (ext_trans (ext_alloc _ _) (ext_trans (ext_alloc _ _) (ext_trans (ext_alloc _ _) (ext_alloc _ _)))))))⟩
  | 2, _ => exact ⟨_, _, _, _, by rw [show (badW X).cell? _ = _ from cell_of_row _ _ _ _ _ _ hh]; rfl, (ints_lit ((X.alloc (.cells #[.int .i64 0] 3)).alloc (.cells #[.int .i64 201] 3)) (X.heap.size + 1 + 1) (by simp) #[.int .i64 2, .int .i64 2] 3 [2, 2] rfl (by simp) (by decide)).ext (ext_trans (ext_alloc _ _) (ext_trans (ext_alloc _ _) (ext_trans (ext_alloc _ _) (ext_trans (ext_alloc _ _) (ext_trans (ext_alloc _ _) (ext_alloc _ _))))))⟩
  | 3, _ => exact ⟨_, _, _, _, by rw [show (badW X).cell? _ = _ from cell_of_row _ _ _ _ _ _ hh]; rfl, (ints_lit (((X.alloc (.cells #[.int .i64 0] 3)).alloc (.cells #[.int .i64 201] 3)).alloc (.cells #[.int .i64 2, .int .i64 2] 3)) (X.heap.size + 1 + 1 + 1) (by simp) #[.int .i64 3, .int .i64 1] 3 [3, 1] rfl (by simp) (by decide)).ext (ext_trans (ext_alloc _ _) (ext_trans (ext_alloc _ _) (ext_trans (ext_alloc _ _) (ext_trans (ext_alloc _ _) (ext_alloc _ _)))))⟩
  | 4, _ => exact ⟨_, _, _, _, by rw [show (badW X).cell? _ = _ from cell_of_row _ _ _ _ _ _ hh]; rfl, (ints_lit ((((X.alloc (.cells #[.int .i64 0] 3)).alloc (.cells #[.int .i64 201] 3)).alloc (.cells #[.int .i64 2, .int .i64 2] 3)).alloc (.cells #[.int .i64 3, .int .i64 1] 3)) (X.heap.size + 1 + 1 + 1 + 1) (by simp) #[.int .i64 (-1)] 3 [-1] rfl (by simp) (by decide)).ext (ext_trans (ext_alloc _ _) (ext_trans (ext_alloc _ _) (ext_trans (ext_alloc _ _) (ext_alloc _ _))))⟩
  | 5, _ => exact ⟨_, _, _, _, by rw [show (badW X).cell? _ = _ from cell_of_row _ _ _ _ _ _ hh]; rfl, (ints_lit (((((X.alloc (.cells #[.int .i64 0] 3)).alloc (.cells #[.int .i64 201] 3)).alloc (.cells #[.int .i64 2, .int .i64 2] 3)).alloc (.cells #[.int .i64 3, .int .i64 1] 3)).alloc (.cells #[.int .i64 (-1)] 3)) (X.heap.size + 1 + 1 + 1 + 1 + 1) (by simp) #[.int .i64 64] 3 [64] rfl (by simp) (by decide)).ext (ext_trans (ext_alloc _ _) (ext_trans (ext_alloc _ _) (ext_alloc _ _)))⟩
  | 6, _ => exact ⟨_, _, _, _, by rw [show (badW X).cell? _ = _ from cell_of_row _ _ _ _ _ _ hh]; rfl, (ints_lit ((((((X.alloc (.cells #[.int .i64 0] 3)).alloc (.cells #[.int .i64 201] 3)).alloc (.cells #[.int .i64 2, .int .i64 2] 3)).alloc (.cells #[.int .i64 3, .int .i64 1] 3)).alloc (.cells #[.int .i64 (-1)] 3)).alloc (.cells #[.int .i64 64] 3)) (X.heap.size + 1 + 1 + 1 + 1 + 1 + 1) (by simp) #[.int .i64 63] 3 [63] rfl (by simp) (by decide)).ext (ext_trans (ext_alloc _ _) (ext_alloc _ _))⟩
  | 7, _ => exact ⟨_, _, _, _, by rw [show (badW X).cell? _ = _ from cell_of_row _ _ _ _ _ _ hh]; rfl, (ints_lit (((((((X.alloc (.cells #[.int .i64 0] 3)).alloc (.cells #[.int .i64 201] 3)).alloc (.cells #[.int .i64 2, .int .i64 2] 3)).alloc (.cells #[.int .i64 3, .int .i64 1] 3)).alloc (.cells #[.int .i64 (-1)] 3)).alloc (.cells #[.int .i64 64] 3)).alloc (.cells #[.int .i64 63] 3)) (X.heap.size + 1 + 1 + 1 + 1 + 1 + 1 + 1) (by simp) #[.int .i64 200] 3 [200] rfl (by simp) (by decide)).ext (ext_alloc _ _)⟩
theorem nil_prs (w : World) : Prs w none 0 [] := ⟨rfl, by omega, fun k hk => by omega⟩
theorem i64_small {n : Int} (h : -1000000 ≤ n) (h' : n ≤ 1000000) : I64 n := ⟨by omega, by omega⟩

set_option maxRecDepth 100000 in
set_option maxHeartbeats 4000000 in
theorem small_walk (w : World) : Calls Try.prog 5 #[] w fun e w' => e = .returned (.bool true) ∧ Below w.heap.size w w' := by
  go_enter Try.func5, Try.ntmps5
  go_wp2
  go_loopw [1, 2, 3, 4, 5] (fun nn pp bb aa cc wr => ∃ (n : Nat), n ≤ 1024 ∧ nn = .int .i64 n ∧ Hid (Below w.heap.size w wr)) (fun nn _ _ _ _ _ => 1024 - (intOf nn).toNat)
  case atStart => exact ⟨0, by omega, rfl, Below.refl _ _⟩
  case round =>
    obtain ⟨n, hn, rfl, HB⟩ := hrel
    by_cases hlt : n < 1024
    · have d1 : decide ((n : Int) < 1024) = true := by simp; omega
      go_wp2
      go_loopw [2, 3, 4, 5] (fun pp bb aa cc wr => ∃ (a : Nat) (z : Int), 1 ≤ a ∧ a ≤ 6 ∧ aa = .int .i64 a ∧ bb = .int .i64 z ∧ Hid (OwnPrs wr w.heap.size pp (6 * a)) ∧ Hid (Below w.heap.size w wr)) (fun _ _ aa _ _ => 6 - (intOf aa).toNat)
      case atStart => exact ⟨1, n, by omega, by omega, rfl, rfl, ⟨[], World.ownsRow_nil _ _ _ _, by simp, by simp⟩, HB⟩
      case round =>
        clear HB
        obtain ⟨a, z, ha, ha2, rfl, rfl, HO, HB⟩ := hrel
        by_cases hlt2 : a < 6
        · have d2 : decide ((a : Int) < 6) = true := by simp; omega
          go_wp2
          go_loopw [2, 3, 5] (fun pp bb cc wr => ∃ (b : Nat) (z : Int), 1 ≤ b ∧ b ≤ 6 ∧ cc = .int .i64 b ∧ bb = .int .i64 z ∧ Hid (OwnPrs wr w.heap.size pp (6 * a + b)) ∧ Hid (Below w.heap.size w wr)) (fun _ _ cc _ => 6 - (intOf cc).toNat)
          case atStart => exact ⟨a + 1, z, by omega, by omega, by go_num, rfl, HO.out.le (by omega), HB⟩
          case round =>
            clear HB HO
            obtain ⟨b, z, hb, hb2, rfl, rfl, HO, HB⟩ := hrel
            by_cases hlt3 : b < 6
            · obtain ⟨qs, ho, hq1, hq2⟩ := HO.out
              have HQ := Lib.hid ho
              have HQ2 := Lib.hid hq2
              clear ho hq2 HO
              go_wp2_with (first
                | (at_builtin
                   refine wpList_append1 rfl wr (.tmp 31) (.tmp 35) 23 41 rfl w.heap.size _ 2 16 Try.underlying23 info_clash rfl (by omega) u2 qs.length _ [.int .i64 (a : Int), .int .i64 (b : Int)] rfl HQ.out wr.heap.size rfl rfl rfl (by simp [Value.oneCell']) (by simp only [maxLen]; omega) (by omega) HB.out.size ?_
                   intro g cap w2 hown2 hg2 hat2
                   have HO2 : Hid (OwnPrs w2 w.heap.size (.slice (some ⟨g, 0, none⟩) (qs.length + 1) cap) (6 * a + (b + 1))) := ⟨qs ++ [((a : Int), (b : Int))], by rw [flat2_snoc, List.length_append]; exact hown2, by rw [List.length_append]; simp; omega, fun p hp => by
                     rcases List.mem_append.1 hp with hp | hp
                     · exact HQ2.out p hp
                     · rw [List.mem_singleton.1 hp]; exact ⟨i64_small (by omega) (by omega), i64_small (by omega) (by omega)⟩⟩
                   have HB2 : Hid (Below w.heap.size w w2) := HB.out.grown hg2 HB.out.size (fun j e => (HQ.out.lt j e).1)
                   clear hown2 hg2 hat2))
              · go_roundw
                case rel => exact ⟨b + 1, _, by omega, by omega, by go_num, rfl, HO2, HB2⟩
                case measure => simp [intOf]; omega
              · go_roundw
                case rel => exact ⟨b + 1, _, by omega, by omega, by go_num, rfl, ⟨qs, HQ.out, by omega, HQ2.out⟩, HB⟩
                case measure => simp [intOf]; omega
            · obtain rfl : b = 6 := by omega
              go_wp2
              go_roundw
              case rel => exact ⟨a + 1, _, by omega, by omega, by go_num, rfl, HO.out.le (by omega), HB⟩
              case measure => simp [intOf]; omega
        · obtain ⟨ap, np, cp, qs, e, hp⟩ := HO.out.prs (by omega)
          subst e
          have HP := Lib.hid hp
          clear hp
          have h40 : 0 ≤ (n : Int) % 4 := by omega
          have h41 : (n : Int) % 4 ≤ 3 := by omega
          have h42 : (n : Int) % 4 ≤ ((3 : Nat) : Int) := by omega
          have HB1 := Lib.hid (ext_trans HB.out (ext_trans (ext_alloc wr (.cells #[.int .i64 1, .int .i64 2, .int .i64 3, .int .i64 4, .int .i64 5] 3)) (ext_alloc (wr.alloc (.cells #[.int .i64 1, .int .i64 2, .int .i64 3, .int .i64 4, .int .i64 5] 3)) (.cells #[.int .i64 0, .int .i64 9, .int .i64 63] 3))))
          go_wp2_with (first
            | (go_at_call 3
               refine (frames_walk (some ⟨wr.heap.size, 0, none⟩) ap (some ⟨wr.heap.size + 1, 0, none⟩) 5 5 np cp (n % 4) 3 [1, 2, 3, 4, 5] qs ([0, 9, 63].take (n % 4)) _ _ _ _ ((ints_lit wr wr.heap.size rfl _ 3 [1, 2, 3, 4, 5] rfl (by simp) (by decide)).ext (ext_alloc _ _)) (HP.out.ext (ext_trans (ext_alloc _ _) (ext_alloc _ _))) ((ints_lit _ (wr.heap.size + 1) (by simp) _ 3 [0, 9, 63] rfl (by simp) (by decide)).take (n % 4) (by simp; omega))).mono ?_
               rintro e w2 ⟨rfl, hb2⟩
               have HB2 := Lib.hid (ext_trans HB1.out hb2)
               clear hb2))
          go_roundw
          case rel => exact ⟨n + 1, by omega, by go_num, HB2⟩
          case measure => simp [intOf]; omega
    · have d1 : decide ((n : Int) < 1024) = false := by simp; omega
      go_wp2
      go_loopw [6, 7, 8] (fun al ch vv wr => ∃ (v : Nat) (xs : List Int), 1 ≤ v ∧ v ≤ 201 ∧ vv = .int .i64 v ∧ Hid (wr.ownsRow w.heap.size 3 1 al xs.length (intVals xs)) ∧ Hid (∀ x ∈ xs, I64 x) ∧ xs.length < v ∧ Hid (OwnPrs wr w.heap.size ch v) ∧ Hid (Below w.heap.size w wr)) (fun _ _ vv _ => 201 - (intOf vv).toNat)
      case atStart => exact ⟨1, [], by omega, by omega, rfl, World.ownsRow_nil _ _ _ _, by simp [Hid], by simp, ⟨[], World.ownsRow_nil _ _ _ _, by simp, by simp⟩, HB⟩
      case round =>
        clear HB
        obtain ⟨v, xs, hv1, hv2, rfl, HO, HX, hxl, HC, HB⟩ := hrel
        by_cases hlt : v < 201
        · obtain ⟨qs, ho, hq1, hq2⟩ := HC.out
          have HQ := Lib.hid ho
          have HQ2 := Lib.hid hq2
          clear ho hq2 HC
          have d0 : decide ((v : Int) ≤ 200) = true := by simp; omega
          by_cases hc : 1 < v ∧ v < 90
          · obtain ⟨hc1, hc2⟩ := hc
            have d1 : decide ((1 : Int) < (v : Int)) = true := by simp; omega
            have d2 : decide ((v : Int) < 90) = true := by simp; omega
            have d3 : decide (1 < v) = true := by simp; omega
            go_wp2_with (first
              | (at_builtin
                 refine wpList_append1 rfl wr (.tmp 61) (.tmp 63) 22 3 rfl w.heap.size _ 1 8 Try.underlying22 info_int rfl (by omega) u6 xs.length _ [.int .i64 (v : Int)] rfl HO.out wr.heap.size rfl rfl rfl (by simp [Value.oneCell']) (by simp only [maxLen]; omega) (by omega) HB.out.size ?_
                 intro g cap w2 hown2 hg2 hat2
                 have HO2 : Hid (w2.ownsRow w.heap.size 3 1 (.slice (some ⟨g, 0, none⟩) (xs.length + 1) cap) (xs ++ [(v : Int)]).length (intVals (xs ++ [(v : Int)]))) := by rw [Hid, intVals, List.map_append, List.length_append]; exact hown2
                 have HB2 : Hid (Below w.heap.size w w2) := HB.out.grown hg2 HB.out.size (fun j e => (HO.out.lt j e).1)
                 have HQQ : Hid (w2.ownsRow w.heap.size 41 2 u7 qs.length (flat2 qs)) := HQ.out.kept hg2 (by
                   cases hv : u7.ownBlock with
                   | none => exact .inl rfl
                   | some b => exact .inr (fun e => rows_ne HQ.out HO.out (by decide) b hv e.symm))
                 clear hown2 hg2 hat2)
              | (at_builtin
                 refine wpList_append1 rfl w2 (.tmp 71) (.tmp 76) 23 41 rfl w.heap.size _ 2 16 Try.underlying23 info_clash rfl (by omega) u7 qs.length _ [.int .i64 (v : Int), .int .i64 ((v : Int) - 1)] rfl HQQ.out w2.heap.size rfl rfl rfl (by simp [Value.oneCell']) (by simp only [maxLen]; omega) (by omega) HB2.out.size ?_
                 intro g' cap' w3 hown3 hg3 hat3
                 have HC3 : Hid (OwnPrs w3 w.heap.size (.slice (some ⟨g', 0, none⟩) (qs.length + 1) cap') (v + 1)) := ⟨qs ++ [((v : Int), (v : Int) - 1)], by rw [flat2_snoc, List.length_append]; exact hown3, by rw [List.length_append]; simp; omega, fun p hp => by
                   rcases List.mem_append.1 hp with hp | hp
                   · exact HQ2.out p hp
                   · rw [List.mem_singleton.1 hp]; exact ⟨i64_small (by omega) (by omega), i64_small (by omega) (by omega)⟩⟩
                 have HB3 : Hid (Below w.heap.size w w3) := HB2.out.grown hg3 HB2.out.size (fun j e => (HQQ.out.lt j e).1)
                 have HO3 : Hid (w3.ownsRow w.heap.size 3 1 (.slice (some ⟨g, 0, none⟩) (xs.length + 1) cap) (xs ++ [(v : Int)]).length (intVals (xs ++ [(v : Int)]))) := HO2.out.kept hg3 (.inr (fun e => rows_ne HO2.out HQQ.out (by decide) g rfl e.symm))
                 clear hown3 hg3 hat3))
            go_roundw
            case rel => exact ⟨v + 1, xs ++ [(v : Int)], by omega, by omega, by go_num, HO3, fun x hx => by
              rcases List.mem_append.1 hx with hx | hx
              · exact HX.out x hx
              · rw [List.mem_singleton.1 hx]; exact i64_small (by omega) (by omega), by rw [List.length_append]; simp; omega, HC3, HB3⟩
            case measure => simp [intOf]; omega
          · have HNX : Hid (∀ x ∈ xs ++ [(v : Int)], I64 x) := fun x hx => by
              rcases List.mem_append.1 hx with hx | hx
              · exact HX.out x hx
              · rw [List.mem_singleton.1 hx]; exact i64_small (by omega) (by omega)
            by_cases hc1 : 1 < v
            · have d1 : decide ((1 : Int) < (v : Int)) = true := by simp; omega
              have d2 : decide ((v : Int) < 90) = false := by simp; omega
              have d3 : decide (1 < v) = true := by simp; omega
              clear hc
              go_wp2_with (first
                | (at_builtin
                   refine wpList_append1 rfl wr (.tmp 61) (.tmp 63) 22 3 rfl w.heap.size _ 1 8 Try.underlying22 info_int rfl (by omega) u6 xs.length _ [.int .i64 (v : Int)] rfl HO.out wr.heap.size rfl rfl rfl (by simp [Value.oneCell']) (by simp only [maxLen]; omega) (by omega) HB.out.size ?_
                   intro g cap w2 hown2 hg2 hat2
                   have HO2 : Hid (w2.ownsRow w.heap.size 3 1 (.slice (some ⟨g, 0, none⟩) (xs.length + 1) cap) (xs ++ [(v : Int)]).length (intVals (xs ++ [(v : Int)]))) := by rw [Hid, intVals, List.map_append, List.length_append]; exact hown2
                   have HB2 : Hid (Below w.heap.size w w2) := HB.out.grown hg2 HB.out.size (fun j e => (HO.out.lt j e).1)
                   have HC2 : Hid (OwnPrs w2 w.heap.size u7 (v + 1)) := ⟨qs, HQ.out.kept hg2 (by
                     cases hv : u7.ownBlock with
                     | none => exact .inl rfl
                     | some b => exact .inr (fun e => rows_ne HQ.out HO.out (by decide) b hv e.symm)), by omega, HQ2.out⟩
                   clear hown2 hg2 hat2))
              go_roundw
              case rel => exact ⟨v + 1, xs ++ [(v : Int)], by omega, by omega, by go_num, HO2, HNX, by rw [List.length_append]; simp; omega, HC2, HB2⟩
              case measure => simp [intOf]; omega
            · have d1 : decide ((1 : Int) < (v : Int)) = false := by simp; omega
              have d3 : decide (1 < v) = false := by simp; omega
              clear hc
              go_wp2_with (first
                | (at_builtin
                   refine wpList_append1 rfl wr (.tmp 61) (.tmp 63) 22 3 rfl w.heap.size _ 1 8 Try.underlying22 info_int rfl (by omega) u6 xs.length _ [.int .i64 (v : Int)] rfl HO.out wr.heap.size rfl rfl rfl (by simp [Value.oneCell']) (by simp only [maxLen]; omega) (by omega) HB.out.size ?_
                   intro g cap w2 hown2 hg2 hat2
                   have HO2 : Hid (w2.ownsRow w.heap.size 3 1 (.slice (some ⟨g, 0, none⟩) (xs.length + 1) cap) (xs ++ [(v : Int)]).length (intVals (xs ++ [(v : Int)]))) := by rw [Hid, intVals, List.map_append, List.length_append]; exact hown2
                   have HB2 : Hid (Below w.heap.size w w2) := HB.out.grown hg2 HB.out.size (fun j e => (HO.out.lt j e).1)
                   have HC2 : Hid (OwnPrs w2 w.heap.size u7 (v + 1)) := ⟨qs, HQ.out.kept hg2 (by
                     cases hv : u7.ownBlock with
                     | none => exact .inl rfl
                     | some b => exact .inr (fun e => rows_ne HQ.out HO.out (by decide) b hv e.symm)), by omega, HQ2.out⟩
                   clear hown2 hg2 hat2))
              go_roundw
              case rel => exact ⟨v + 1, xs ++ [(v : Int)], by omega, by omega, by go_num, HO2, HNX, by rw [List.length_append]; simp; omega, HC2, HB2⟩
              case measure => simp [intOf]; omega
        · obtain ⟨ac, nc, cc, cs, ec, hpc⟩ := HC.out.prs (by omega)
          subst ec
          obtain ⟨aa, ca, ea, hia⟩ := ints_of_own HO.out (by omega) HX.out
          subst ea
          have HPC := Lib.hid hpc
          have HIA := Lib.hid hia
          clear hpc hia HO HX HC
          have d0 : decide ((v : Int) ≤ 200) = false := by simp; omega
          go_wp2
          have hoddB := ext_alloc wr (.cells #[.int .i64 1, .int .i64 1, .int .i64 1, .int .i64 9, .int .i64 0, .int .i64 1, .int .i64 2, .int .i64 1, .int .i64 1, .int .i64 2] 41)
          have hodd := prs_new wr wr.heap.size rfl 41 [(1, 1), (1, 9), (0, 1), (2, 1), (1, 2)] (by simp) (by decide)
          have HODD : Hid (Prs (wr.alloc (.cells #[.int .i64 1, .int .i64 1, .int .i64 1, .int .i64 9, .int .i64 0, .int .i64 1, .int .i64 2, .int .i64 1, .int .i64 1, .int .i64 2] 41)) (some ⟨wr.heap.size, 0, none⟩) 5 [(1, 1), (1, 9), (0, 1), (2, 1), (1, 2)]) := hodd
          have HBo := Lib.hid (ext_trans HB.out hoddB)
          have HPCo := Lib.hid (HPC.out.ext hoddB)
          have HIAo := Lib.hid (HIA.out.ext hoddB)
          clear hoddB hodd HB HPC HIA
          generalize wr.alloc (.cells #[.int .i64 1, .int .i64 1, .int .i64 1, .int .i64 9, .int .i64 0, .int .i64 1, .int .i64 2, .int .i64 1, .int .i64 1, .int .i64 2] 41) = W at *
          generalize wr.heap.size = od at *
          go_loopw [10] (fun nn wz => ∃ (k : Nat), k ≤ 25 ∧ nn = .int .i64 k ∧ Hid (Below W.heap.size W wz)) (fun nn _ => 25 - (intOf nn).toNat)
          case atStart => exact ⟨0, by omega, rfl, Below.refl _ _⟩
          case round =>
            obtain ⟨k, hk, rfl, HB⟩ := hrel
            by_cases hlt2 : k < 25
            · have e0 : decide ((k : Int) < 25) = true := by simp; omega
              obtain ⟨b, o, e1, hc1, hc2, i1, i2⟩ := (HODD.out.ext HB.out).2.2 (k % 5) (by omega)
              simp only [Option.some.injEq, Addr.mk.injEq, and_true] at e1
              obtain ⟨rfl, rfl⟩ := e1
              obtain ⟨b, o, e1, hc3, hc4, i3, i4⟩ := (HODD.out.ext HB.out).2.2 (k / 5) (by omega)
              simp only [Option.some.injEq, Addr.mk.injEq, and_true] at e1
              obtain ⟨rfl, rfl⟩ := e1
              have HI := Lib.hid (And.intro (And.intro i1 i2) (And.intro i3 i4))
              clear i1 i2 i3 i4
              generalize [((1 : Int), (1 : Int)), (1, 9), (0, 1), (2, 1), (1, 2)].getD (k % 5) (0, 0) = p at *
              generalize [((1 : Int), (1 : Int)), (1, 9), (0, 1), (2, 1), (1, 2)].getD (k / 5) (0, 0) = q at *
              obtain ⟨p1, p2⟩ := p
              obtain ⟨q1, q2⟩ := q
              simp only [Nat.zero_add] at hc1 hc2 hc3 hc4 HI
              have g1 := fun mm : ExtW wr => ExtW.cell hc1 mm
              have g2 := fun mm : ExtW wr => ExtW.cell hc2 mm
              have g3 := fun mm : ExtW wr => ExtW.cell hc3 mm
              have g4 := fun mm : ExtW wr => ExtW.cell hc4 mm
              clear hc1 hc2 hc3 hc4
              have m1 : 0 ≤ (k : Int) % 5 := by omega
              have m2 : (k : Int) % 5 < 5 := by omega
              have m3 : 0 ≤ (k : Int) / 5 := by omega
              have m4 : (k : Int) / 5 < 5 := by omega
              have m5 : k % 5 < 5 := by omega
              have m6 : k / 5 < 5 := by omega
              go_wp2
              have SX : ∃ m : ExtW wr, wr.drew = m.val := ⟨⟨_, ext_drewN (Below.refl _ _) 1⟩, rfl⟩
              refine z_start (fun w' => ∃ m : ExtW wr, w' = m.val) (by kernel_rfl) ?_
              refine z_reads 1 10 (by kernel_rfl) SX ?_
              simp only [List.take_succ_cons, List.take_zero, List.drop_succ_cons, List.drop_zero]
              repeat (go_big_quiet_step (fail))
              refine wpQuiet_nil ?_
              refine z_two 0 11 (by kernel_rfl) ?_ ?_
              · refine wpOp_at rfl rfl ?_
                go_simp
                have E1 : Below wr.heap.size wr (wr.alloc (.cells #[.int .i64 1, .int .i64 2] 3)).drew := ext_drewN (ext_alloc wr _) 1
                refine ⟨Or.inr ⟨⟨_, E1⟩, rfl⟩, ?_⟩
                try simp only [Act.put, List.setIfInBounds_toArray, List.set_cons_succ, List.set_cons_zero]
                refine z_one 11 (by kernel_rfl) ?_
                refine wpOp_at rfl rfl ?_
                go_simp
                have EE : Below wr.heap.size wr ((wr.alloc (.cells #[.int .i64 1, .int .i64 2] 3)).alloc (.cells #[.int .i64 p1, .int .i64 p2, .int .i64 q1, .int .i64 q2] 41)).drew := ext_drewN (ext_trans (ext_alloc wr _) (ext_alloc _ _)) 1
                refine ⟨Or.inr ⟨⟨_, EE⟩, rfl⟩, ?_⟩
                try simp only [Act.put, List.setIfInBounds_toArray, List.set_cons_succ, List.set_cons_zero]
                have VI : Ints ((wr.alloc (.cells #[.int .i64 1, .int .i64 2] 3)).alloc (.cells #[.int .i64 p1, .int .i64 p2, .int .i64 q1, .int .i64 q2] 41)).drew (some ⟨wr.heap.size, 0, none⟩) 2 [1, 2] := ((ints_lit wr wr.heap.size rfl #[.int .i64 1, .int .i64 2] 3 [1, 2] rfl (by simp) (by decide)).ext (ext_alloc _ _)).drewN 1
                have PI : Prs ((wr.alloc (.cells #[.int .i64 1, .int .i64 2] 3)).alloc (.cells #[.int .i64 p1, .int .i64 p2, .int .i64 q1, .int .i64 q2] 41)).drew (some ⟨wr.heap.size + 1, 0, none⟩) 2 [(p1, p2), (q1, q2)] := prs_new' (wr.alloc (.cells #[.int .i64 1, .int .i64 2] 3)) (wr.heap.size + 1) (by simp) 41 [(p1, p2), (q1, q2)] (by simp) (by simpa using ⟨HI.out.1, HI.out.2⟩)
                refine z_one 12 (by kernel_rfl) ?_
                refine wpOp_at rfl rfl ?_
                go_simp
                refine (frames_walk (some ⟨wr.heap.size, 0, none⟩) (some ⟨wr.heap.size + 1, 0, none⟩) none 2 2 2 2 0 0 [1, 2] [(p1, p2), (q1, q2)] [] true 1 2 _ VI PI (nil_ints _)).mono ?_
                rintro e w5 ⟨rfl, hb5⟩
                have HB5 := Lib.hid (ext_trans HB.out (ext_trans EE hb5))
                refine ⟨Or.inr ⟨⟨_, ext_trans EE hb5⟩, rfl⟩, ?_⟩
                try simp only [Act.put, List.setIfInBounds_toArray, List.set_cons_succ, List.set_cons_zero]
                refine z_reads 13 1 (by kernel_rfl) ⟨⟨_, ext_trans EE hb5⟩, rfl⟩ ?_
                simp only [List.take_succ_cons, List.take_zero, List.drop_succ_cons, List.drop_zero]
                repeat (go_big_quiet_step (fail))
                refine wpQuiet_nil ?_
                refine z_done (by kernel_rfl) ?_
                clear hb5 g1 g2 g3 g4
                go_wp2
                go_roundw
                case rel => exact ⟨k + 1, by omega, by go_num, HB5⟩
                case measure => simp [intOf]; omega
              · refine wpOp_at rfl rfl ?_
                go_simp
                have E1 : Below wr.heap.size wr (wr.alloc (.cells #[.int .i64 p1, .int .i64 p2, .int .i64 q1, .int .i64 q2] 41)).drew := ext_drewN (ext_alloc wr _) 1
                refine ⟨Or.inr ⟨⟨_, E1⟩, rfl⟩, ?_⟩
                try simp only [Act.put, List.setIfInBounds_toArray, List.set_cons_succ, List.set_cons_zero]
                refine z_one 0 (by kernel_rfl) ?_
                refine wpOp_at rfl rfl ?_
                go_simp
                have EE : Below wr.heap.size wr ((wr.alloc (.cells #[.int .i64 p1, .int .i64 p2, .int .i64 q1, .int .i64 q2] 41)).alloc (.cells #[.int .i64 1, .int .i64 2] 3)).drew := ext_drewN (ext_trans (ext_alloc wr _) (ext_alloc _ _)) 1
                refine ⟨Or.inr ⟨⟨_, EE⟩, rfl⟩, ?_⟩
                try simp only [Act.put, List.setIfInBounds_toArray, List.set_cons_succ, List.set_cons_zero]
                have VI : Ints ((wr.alloc (.cells #[.int .i64 p1, .int .i64 p2, .int .i64 q1, .int .i64 q2] 41)).alloc (.cells #[.int .i64 1, .int .i64 2] 3)).drew (some ⟨wr.heap.size + 1, 0, none⟩) 2 [1, 2] := (ints_lit (wr.alloc (.cells #[.int .i64 p1, .int .i64 p2, .int .i64 q1, .int .i64 q2] 41)) (wr.heap.size + 1) (by simp) #[.int .i64 1, .int .i64 2] 3 [1, 2] rfl (by simp) (by decide)).drewN 1
                have PI : Prs ((wr.alloc (.cells #[.int .i64 p1, .int .i64 p2, .int .i64 q1, .int .i64 q2] 41)).alloc (.cells #[.int .i64 1, .int .i64 2] 3)).drew (some ⟨wr.heap.size, 0, none⟩) 2 [(p1, p2), (q1, q2)] := (prs_new' wr wr.heap.size rfl 41 [(p1, p2), (q1, q2)] (by simp) (by simpa using ⟨HI.out.1, HI.out.2⟩)).ext (ext_drewN (ext_alloc _ _) 1)
                refine z_one 12 (by kernel_rfl) ?_
                refine wpOp_at rfl rfl ?_
                go_simp
                refine (frames_walk (some ⟨wr.heap.size + 1, 0, none⟩) (some ⟨wr.heap.size, 0, none⟩) none 2 2 2 2 0 0 [1, 2] [(p1, p2), (q1, q2)] [] true 1 2 _ VI PI (nil_ints _)).mono ?_
                rintro e w5 ⟨rfl, hb5⟩
                have HB5 := Lib.hid (ext_trans HB.out (ext_trans EE hb5))
                refine ⟨Or.inr ⟨⟨_, ext_trans EE hb5⟩, rfl⟩, ?_⟩
                try simp only [Act.put, List.setIfInBounds_toArray, List.set_cons_succ, List.set_cons_zero]
                refine z_reads 13 1 (by kernel_rfl) ⟨⟨_, ext_trans EE hb5⟩, rfl⟩ ?_
                simp only [List.take_succ_cons, List.take_zero, List.drop_succ_cons, List.drop_zero]
                repeat (go_big_quiet_step (fail))
                refine wpQuiet_nil ?_
                refine z_done (by kernel_rfl) ?_
                clear hb5 g1 g2 g3 g4
                go_wp2
                go_roundw
                case rel => exact ⟨k + 1, by omega, by go_num, HB5⟩
                case measure => simp [intOf]; omega
            · have e0 : decide ((k : Int) < 25) = false := by simp; omega
              go_wp2
              change Code.wp _ _ _ _ (badW wr)
              have HBW := Lib.hid (ext_trans HB.out (badW_ext wr))
              have HALL := Lib.hid (bad_all wr)
              clear HB
              generalize badW wr = Y at *
              generalize wr.heap.size + 1 + 1 + 1 + 1 + 1 + 1 + 1 + 1 = bo at *
              go_loopw [12] (fun nn wz => ∃ (k : Nat), k ≤ 64 ∧ nn = .int .i64 k ∧ Hid (Below Y.heap.size Y wz)) (fun nn _ => 64 - (intOf nn).toNat)
              case atStart => exact ⟨0, by omega, rfl, Below.refl _ _⟩
              case round =>
                obtain ⟨k2, hk2, rfl, HB⟩ := hrel
                by_cases hlt3 : k2 < 64
                · have f0 : decide ((k2 : Int) < 64) = true := by simp; omega
                  obtain ⟨a1, n1, c1, x1, hc1, hi1⟩ := HALL.out (k2 % 8) (by omega)
                  obtain ⟨a2, n2, c2, x2, hc2, hi2⟩ := HALL.out (k2 / 8) (by omega)
                  have HI1 := Lib.hid (hi1.ext HB.out)
                  have HI2 := Lib.hid (hi2.ext HB.out)
                  have g1 := fun mm : ExtW wr => ExtW.cell (cell_ext HB.out hc1) mm
                  have g2 := fun mm : ExtW wr => ExtW.cell (cell_ext HB.out hc2) mm
                  clear hc1 hc2 hi1 hi2
                  have m1 : 0 ≤ (k2 : Int) % 8 := by omega
                  have m2 : (k2 : Int) % 8 < 8 := by omega
                  have m3 : 0 ≤ (k2 : Int) / 8 := by omega
                  have m4 : (k2 : Int) / 8 < 8 := by omega
                  have m5 : k2 % 8 < 8 := by omega
                  have m6 : k2 / 8 < 8 := by omega
                  go_wp2
                  refine region_ext (by kernel_rfl) (by kernel_rfl) ?_
                  repeat (go_big_quiet_step (first
                    | (go_at_call 3; exact quiet_ext (frames_walk _ _ _ _ _ _ _ _ _ x1 [] x2 _ _ _ _ (HI1.out.ext (ExtW.ext _)) (nil_prs _) (HI2.out.ext (ExtW.ext _))))))
                  refine wpQuiet_nil ?_
                  rintro _ ⟨mm, rfl⟩
                  have HM := Lib.hid (ext_trans HB.out mm.ext)
                  generalize mm.val = Z at *
                  clear g1 g2
                  go_wp2
                  go_roundw
                  case rel => exact ⟨k2 + 1, by omega, by go_num, HM⟩
                  case measure => simp [intOf]; omega
                · have f0 : decide ((k2 : Int) < 64) = false := by simp; omega
                  have HBX := Lib.hid (ext_trans HBW.out HB.out)
                  clear HBW HB
                  go_wp2_with (first
                    | (go_at_call 3
                       (with_reducible refine (frames_walk aa ac none xs.length ca nc cc 0 0 xs cs [] true 1 3 _ (HIAo.out.ext HBX.out) (HPCo.out.ext HBX.out) (nil_ints _)).mono ?_)
                       rintro e w6 ⟨rfl, hb6⟩
                       have HB6 := Lib.hid (ext_trans HBX.out hb6)
                       clear hb6)
                    | (go_at_call 3
                       (with_reducible refine (frames_walk none none none 0 0 0 0 0 0 [] [] [] false 0 0 _ (nil_ints _) (nil_prs _) (nil_ints _)).mono ?_)
                       rintro e w7 ⟨rfl, hb7⟩
                       have HB7 := Lib.hid (ext_trans HB6.out hb7)
                       clear hb7)
                    | (go_at_call 9
                       refine (awake_any _).mono ?_
                       rintro e w8 ⟨rfl, hb8⟩
                       have HB8 := Lib.hid (ext_trans HB7.out hb8)
                       clear hb8))
                  go_ret
                  exact ⟨rfl, ext_trans HBo.out HB8.out⟩
end Go.Proofs.Ytkakanjoeofjcaa
