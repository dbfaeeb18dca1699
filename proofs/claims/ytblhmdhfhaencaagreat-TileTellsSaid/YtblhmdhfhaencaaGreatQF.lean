/-
  law18's own awake.
-/
import Derived.Test.YtblhmdhfhaencaaGreatEO
import Derived.Test.YtblhmdhfhaencaaGreatMark
import Derived.Test.YtblhmdhfhaencaaGreatTR
import Derived.Test.YtblhmdhfhaencaaGreatTH
import Derived.Deep.DeepAppendRoom
import Derived.Maps.AppendAt
import Derived.Test.YtblhmdhfhaencaaGreatEH
import Derived.BigQuiet
import Derived.Deep.MidRow
import Derived.Deep.Onto
import Derived.Deep.LoopGhost
import Derived.BigRegion
namespace Go.Proofs.YtblhmdhfhaencaaGreat
set_option linter.unusedSimpArgs false
set_option linter.unusedVariables false
set_option linter.unusedSectionVars false
set_option maxRecDepth 100000
set_option maxHeartbeats 40000000
section
open Go.RowKit
attribute [local go_sem] Oper.semAt_some wide_fn wide_depth wide_fnR wide_depthR
theorem intsLit {W : World} {g : Nat} {xs : List Int} {n : Nat} (h : W.heap[g]? = some (.cells (intVals xs).toArray 3 (0, 0))) (hn : xs.length = n) (hx : ∀ x ∈ xs, I64 x) (hl : n ≤ 1000) : Ints W (some ⟨g, 0, none⟩) n xs := by
  subst hn
  refine ⟨rfl, by omega, fun k hk => ⟨g, 0, rfl, ?_, hx _ ?_⟩⟩
  · rw [cell_of_row _ _ _ _ _ _ h, Nat.zero_add]
    simp [intVals, List.getD_eq_getElem?_getD, hk]
  · rw [List.getD_eq_getElem?_getD, List.getElem?_eq_getElem hk]; exact List.getElem_mem _
def awRs (g : Nat) : List SlR := [⟨[1], some ⟨g, 0, none⟩, 1⟩, ⟨[1, 2], some ⟨g + 1, 0, none⟩, 2⟩, ⟨[], none, 0⟩]
theorem i64s (l : List Int) (h : ∀ x ∈ l, -1000 ≤ x ∧ x ≤ 1000 := by decide) : ∀ x ∈ l, I64 x := fun x hx => by have := h x hx; unfold I64; omega
theorem aw_lrows (w : World) (W : World) (h : W = ((w.alloc (.cells #[.int .i64 1] 3)).alloc (.cells #[.int .i64 1, .int .i64 2] 3)).alloc (.cells #[.slice (some ⟨w.heap.size, 0, none⟩) 1 1, .slice (some ⟨w.heap.size + 1, 0, none⟩) 2 2, .slice none 0 0] 22)) :
    LRows W (some ⟨w.heap.size + 1 + 1, 0, none⟩) 3 (awRs w.heap.size) ∧ Below w.heap.size w W := by
  have h0 : W.heap[w.heap.size]? = some (.cells #[.int .i64 1] 3 (0, 0)) := by rw [h]; exact block_ext (ext_trans (ext_alloc _ _) (ext_alloc _ _)) (heap_alloc_new _ _)
  have h1 : W.heap[w.heap.size + 1]? = some (.cells #[.int .i64 1, .int .i64 2] 3 (0, 0)) := by rw [h]; have := block_ext (ext_alloc _ (.cells #[.slice (some ⟨w.heap.size, 0, none⟩) 1 1, .slice (some ⟨w.heap.size + 1, 0, none⟩) 2 2, .slice none 0 0] 22)) (heap_alloc_new (w.alloc (.cells #[.int .i64 1] 3)) (.cells #[.int .i64 1, .int .i64 2] 3)); simpa using this
  have h2 : W.heap[w.heap.size + 1 + 1]? = some (.cells #[.slice (some ⟨w.heap.size, 0, none⟩) 1 1, .slice (some ⟨w.heap.size + 1, 0, none⟩) 2 2, .slice none 0 0] 22 (0, 0)) := by rw [h]; have := heap_alloc_new ((w.alloc (.cells #[.int .i64 1] 3)).alloc (.cells #[.int .i64 1, .int .i64 2] 3)) (.cells #[.slice (some ⟨w.heap.size, 0, none⟩) 1 1, .slice (some ⟨w.heap.size + 1, 0, none⟩) 2 2, .slice none 0 0] 22); simpa using this
  refine ⟨⟨⟨rfl, by omega, fun k x hx => ⟨w.heap.size + 1 + 1, 0, rfl, fun j hj => ?_⟩⟩, fun r hr => ?_⟩, by rw [h]; exact (((Below.refl _ w).alloc (Nat.le_refl _) _).alloc (by simp) _).alloc (by simp; omega) _⟩
  · obtain rfl : j = 0 := by omega
    rw [cell_of_row _ _ _ _ _ _ h2]
    match k, hx with
    | 0, hx => injection hx with hx; subst hx; rfl
    | 1, hx => injection hx with hx; subst hx; rfl
    | 2, hx => injection hx with hx; subst hx; rfl
    | k + 3, hx => simp [awRs] at hx
  · simp only [awRs, List.mem_cons, List.not_mem_nil, or_false] at hr
    rcases hr with rfl | rfl | rfl
    · exact intsLit (xs := [1]) h0 rfl (i64s [1]) (by simp)
    · exact intsLit (xs := [1, 2]) h1 rfl (i64s [1, 2]) (by simp)
    · exact ⟨rfl, by simp, fun k hk => absurd hk (by simp)⟩
def awTiles (g : Nat) : List TileR := [⟨⟨1, -1, [0, 2]⟩, some ⟨g, 0, none⟩, 2, 2⟩, ⟨⟨2, 0, [1]⟩, some ⟨g + 1, 0, none⟩, 1, 1⟩]
theorem aw_tiles (w : World) (W : World) (h : W = ((w.alloc (.cells #[.int .i64 0, .int .i64 2] 3)).alloc (.cells #[.int .i64 1] 3)).alloc (.cells #[.int .i64 1, .int .i64 (-1), .slice (some ⟨w.heap.size, 0, none⟩) 2 2, .int .i64 2, .int .i64 0, .slice (some ⟨w.heap.size + 1, 0, none⟩) 1 1] 76)) :
    TilesOK W (some ⟨w.heap.size + 1 + 1, 0, none⟩) 2 (awTiles w.heap.size) ∧ Below w.heap.size w W := by
  have h0 : W.heap[w.heap.size]? = some (.cells #[.int .i64 0, .int .i64 2] 3 (0, 0)) := by rw [h]; exact block_ext (ext_trans (ext_alloc _ _) (ext_alloc _ _)) (heap_alloc_new _ _)
  have h1 : W.heap[w.heap.size + 1]? = some (.cells #[.int .i64 1] 3 (0, 0)) := by
    rw [h]
    have := block_ext (ext_alloc _ (.cells #[.int .i64 1, .int .i64 (-1), .slice (some ⟨w.heap.size, 0, none⟩) 2 2, .int .i64 2, .int .i64 0, .slice (some ⟨w.heap.size + 1, 0, none⟩) 1 1] 76)) (heap_alloc_new (w.alloc (.cells #[.int .i64 0, .int .i64 2] 3)) (.cells #[.int .i64 1] 3))
    simpa using this
  have h2 : W.heap[w.heap.size + 1 + 1]? = some (.cells #[.int .i64 1, .int .i64 (-1), .slice (some ⟨w.heap.size, 0, none⟩) 2 2, .int .i64 2, .int .i64 0, .slice (some ⟨w.heap.size + 1, 0, none⟩) 1 1] 76 (0, 0)) := by
    rw [h]
    have := heap_alloc_new ((w.alloc (.cells #[.int .i64 0, .int .i64 2] 3)).alloc (.cells #[.int .i64 1] 3)) (.cells #[.int .i64 1, .int .i64 (-1), .slice (some ⟨w.heap.size, 0, none⟩) 2 2, .int .i64 2, .int .i64 0, .slice (some ⟨w.heap.size + 1, 0, none⟩) 1 1] 76)
    simpa using this
  refine ⟨⟨⟨rfl, by omega, fun k x hx => ⟨w.heap.size + 1 + 1, 0, rfl, fun j hj => ?_⟩⟩, fun t ht => ?_⟩, by rw [h]; exact (((Below.refl _ w).alloc (Nat.le_refl _) _).alloc (by simp) _).alloc (by simp; omega) _⟩
  · rw [cell_of_row _ _ _ _ _ _ h2]
    match k, hx, j, hj with
    | 0, hx, 0, _ => injection hx with hx; subst hx; rfl
    | 0, hx, 1, _ => injection hx with hx; subst hx; rfl
    | 0, hx, 2, _ => injection hx with hx; subst hx; rfl
    | 1, hx, 0, _ => injection hx with hx; subst hx; rfl
    | 1, hx, 1, _ => injection hx with hx; subst hx; rfl
    | 1, hx, 2, _ => injection hx with hx; subst hx; rfl
    | k + 2, hx, _, _ => simp [awTiles] at hx
    | _, _, j + 3, hj => omega
  · simp only [awTiles, List.mem_cons, List.not_mem_nil, or_false] at ht
    rcases ht with rfl | rfl
    · exact ⟨intsLit (xs := [0, 2]) h0 rfl (i64s [0, 2]) (by simp), by simp, by show I64 1; unfold I64; omega, by show I64 (-1); unfold I64; omega⟩
    · exact ⟨intsLit (xs := [1]) h1 rfl (i64s [1]) (by simp), by simp, by show I64 2; unfold I64; omega, by show I64 0; unfold I64; omega⟩
theorem blks_own {w : World} {base : Nat} {ba : Option Addr} {bc : Nat} {L : List (List Int)} (h : OwnR 73 5 blkC w base (.slice ba L.length bc) (L.map blkOf)) (hL : ∀ l ∈ L, ∀ x ∈ l, I64 x) : BlksOK w ba L.length (L.map blkOf) := by
  refine ⟨h.recs blkC_len, fun b hb => ?_⟩
  obtain ⟨l, hl, rfl⟩ := List.mem_map.1 hb
  have hx := hL l hl
  have i0 : I64 0 := by unfold I64; omega
  have i1 : I64 1 := by unfold I64; omega
  have i2 : I64 2 := by unfold I64; omega
  have i3 : I64 3 := by unfold I64; omega
  match l, hx with
  | [], _ => exact ⟨i3, i0, i0, i0⟩
  | [x], hx => exact ⟨i1, i0, hx x (by simp), i0⟩
  | [x, y], hx => exact ⟨i2, i1, hx x (by simp), hx y (by simp)⟩
  | x :: y :: z :: l, _ => exact ⟨i3, i0, i0, i0⟩
end

section
open Go.RowKit
def cmpV (x y : Int) : Int := if x < y then -1 else if y < x then 1 else 0
def orV : List Int → Int
  | [] => 0
  | x :: l => if x = 0 then orV l else x
theorem orV_hit : ∀ (l : List Int) (k : Nat), k < l.length → (∀ j, j < k → l.getD j 0 = 0) → l.getD k 0 ≠ 0 → orV l = l.getD k 0
  | x :: l, 0, _, _, h => by simp only [orV, List.getD_cons_zero] at h ⊢; rw [if_neg h]
  | x :: l, k + 1, hk, h0, h => by
    have h1 : x = 0 := by have := h0 0 (by omega); simpa using this
    rw [orV, if_pos h1, List.getD_cons_succ]
    exact orV_hit l k (by simpa using hk) (fun j hj => by have := h0 (j + 1) (by omega); simpa using this) (by simpa using h)
theorem orV_none : ∀ (l : List Int), (∀ j, j < l.length → l.getD j 0 = 0) → orV l = 0
  | [], _ => rfl
  | x :: l, h => by
    have h1 : x = 0 := by have := h 0 (by simp); simpa using this
    rw [orV, if_pos h1]
    exact orV_none l fun j hj => by have := h (j + 1) (by simpa using hj); simpa using this
theorem isNaN_any (x : Int) (w : World) : Calls Tryz.prog 136 #[.int .i64 x] w fun e w' => e = .returned (.bool false) ∧ w = w' := by
  go_enter Tryz.func136, Tryz.ntmps136
  go_wp2
  go_ret
  exact ⟨rfl, rfl⟩
theorem compare_any (x y : Int) (w : World) : Calls Tryz.prog 85 #[.int .i64 x, .int .i64 y] w fun e w' => e = .returned (.int .i64 (cmpV x y)) ∧ w = w' := by
  by_cases h1 : x < y
  · have HE : Hid (cmpV x y = -1) := by rw [Hid, cmpV, if_pos h1]
    go_enter Tryz.func85, Tryz.ntmps85
    go_wp2_with (go_at_call 136; refine (isNaN_any _ _).mono ?_; rintro e w1 ⟨rfl, rfl⟩)
    go_ret
    exact ⟨by rw [HE.out]; rfl, rfl⟩
  · by_cases h2 : y < x
    · have HE : Hid (cmpV x y = 1) := by rw [Hid, cmpV, if_neg h1, if_pos h2]
      go_enter Tryz.func85, Tryz.ntmps85
      go_wp2_with (go_at_call 136; refine (isNaN_any _ _).mono ?_; rintro e w1 ⟨rfl, rfl⟩)
      go_ret
      exact ⟨by rw [HE.out]; rfl, rfl⟩
    · have HE : Hid (cmpV x y = 0) := by rw [Hid, cmpV, if_neg h1, if_neg h2]
      go_enter Tryz.func85, Tryz.ntmps85
      go_wp2_with (go_at_call 136; refine (isNaN_any _ _).mono ?_; rintro e w1 ⟨rfl, rfl⟩)
      go_ret
      exact ⟨by rw [HE.out]; rfl, rfl⟩
theorem cmpOr_any (a : Option Addr) (n c : Nat) (xs : List Int) (w : World) (h : Ints w a n xs) : Calls Tryz.prog 84 #[.slice a n c] w fun e w' => e = .returned (.int .i64 (orV xs)) ∧ w = w' := by
  obtain ⟨hl, hn, hc⟩ := h
  have HL := Lib.hid hl
  have HC := Lib.hid hc
  clear hl hc
  go_enter Tryz.func84, Tryz.ntmps84
  go_wp2
  go_loopw [5, 8] (fun _ i wr => ∃ (k : Nat), k ≤ n ∧ i = .int .i64 k ∧ wr = w ∧ Hid (∀ j, j < k → xs.getD j 0 = 0)) (fun _ i _ => n - (intOf i).toNat)
  case atStart => exact ⟨0, by omega, rfl, rfl, fun j hj => absurd hj (by omega)⟩
  case round =>
    obtain ⟨k, hk, rfl, rfl, HR⟩ := hrel
    by_cases hlt : k < n
    · have hlt' : (k : Int) < (n : Int) := by omega
      obtain ⟨b, o, rfl, hcell, _⟩ := HC.out k hlt
      by_cases he : xs.getD k 0 = 0
      · have HE : Hid (∀ j, j < k + 1 → xs.getD j 0 = 0) := fun j hj => by
          by_cases hjk : j = k
          · subst hjk; exact he
          · exact HR.out j (by omega)
        rw [he] at hcell
        clear he
        go_wp2
        go_roundw
        case rel => exact ⟨k + 1, by omega, by go_num, trivial, HE⟩
        case measure => simp [intOf]; omega
      · have HE : Hid (orV xs = xs.getD k 0) := orV_hit xs k (by rw [HL.out]; exact hlt) HR.out he
        have hne : (xs.getD k 0 != 0) = true := by simpa using he
        generalize xs.getD k 0 = y at *
        go_wp2
        go_ret
        exact ⟨by rw [HE.out]; rfl, rfl⟩
    · have hlt' : ¬ (k : Int) < (n : Int) := by omega
      have HE : Hid (orV xs = 0) := orV_none xs fun j hj => HR.out j (by rw [HL.out] at hj; omega)
      go_wp2
      go_ret
      exact ⟨by rw [HE.out]; rfl, rfl⟩
theorem or_cmp (a b x y : Int) : orV [cmpV a b, cmpV x y] < 0 ↔ a < b ∨ a = b ∧ x < y := by
  simp only [orV, cmpV]
  repeat' split
  all_goals omega
end

section
open Go.RowKit
structure Chg (S : Nat → Prop) (w w' : World) : Prop where
  os : w'.os = w.os
  tape : w'.tape = w.tape
  output : w'.output = w.output
  size : w.heap.size ≤ w'.heap.size
  block : ∀ k, k < w.heap.size → ¬ S k → w'.heap[k]? = w.heap[k]?
theorem Chg.refl (S : Nat → Prop) (w : World) : Chg S w w := ⟨rfl, rfl, rfl, Nat.le_refl _, fun _ _ _ => rfl⟩
theorem Chg.trans {S : Nat → Prop} {a b c : World} (h : Chg S a b) (k : Chg S b c) : Chg S a c :=
  ⟨k.os.trans h.os, k.tape.trans h.tape, k.output.trans h.output, Nat.le_trans h.size k.size, fun i hi hn => (k.block i (Nat.lt_of_lt_of_le hi h.size) hn).trans (h.block i hi hn)⟩
theorem Chg.drewN {S : Nat → Prop} {a w : World} (h : Chg S a w) (n : Nat) : Chg S a (w.drewN n) := ⟨h.os, h.tape, h.output, h.size, h.block⟩
theorem Chg.grown {S : Nat → Prop} {a w w' : World} {row : Option Nat} (h : Chg S a w) (hg : w.grownBy w' row) (hr : ∀ k, row = some k → S k ∨ a.heap.size ≤ k) : Chg S a w' :=
  ⟨hg.os.trans h.os, hg.tape.trans h.tape, hg.output.trans h.output, Nat.le_trans h.size hg.size, fun k hk hn => (hg.block k (Nat.lt_of_lt_of_le hk h.size) (fun e => by
    rcases hr k e.symm with h1 | h1
    · exact hn h1
    · omega)).trans (h.block k hk hn)⟩
theorem Chg.setCell {S : Nat → Prop} {a w : World} (h : Chg S a w) {p : Addr} (hp : S p.block ∨ a.heap.size ≤ p.block) (u : Value) : Chg S a (w.setCell p u) :=
  ⟨h.os, h.tape, h.output, Nat.le_trans h.size (by simp [World.setCell]), fun k hk hn => (Below.heap_setCell w p u k (fun e => by
    subst e
    rcases hp with h1 | h1
    · exact hn h1
    · omega)).trans (h.block k hk hn)⟩
theorem Chg.mono {S T : Nat → Prop} {a w : World} (h : Chg S a w) (hs : ∀ k, S k → T k) : Chg T a w := ⟨h.os, h.tape, h.output, h.size, fun k hk hn => h.block k hk (fun hk' => hn (hs k hk'))⟩
theorem Chg.below {S : Nat → Prop} {a w : World} {B : Nat} (h : Chg S a w) (hB : B ≤ a.heap.size) (hs : ∀ k, S k → B ≤ k) : Below B a w :=
  ⟨h.os, h.tape, h.output, h.size, fun k hk => h.block k (by omega) (fun hk' => by have := hs k hk'; omega)⟩
theorem Chg.of_ext {S : Nat → Prop} {a b c : World} (h : Chg S a b) (hb : Below b.heap.size b c) : Chg S a c := h.trans ⟨hb.os, hb.tape, hb.output, hb.size, fun k hk _ => hb.block k hk⟩
theorem ownsRow_chg {S : Nat → Prop} {w w' : World} {base : Nat} {e : TypeId} {size : Nat} {v : Value} {n : Nat} {xs : List Value} (h : w.ownsRow base e size v n xs) (hc : Chg S w w') (hn : ∀ g, v.ownBlock = some g → ¬ S g) : w'.ownsRow base e size v n xs := by
  refine ⟨h.1, ?_⟩
  rcases h.2 with h2 | ⟨g, cap, cur, rfl, hb, hh, r⟩
  · exact .inl h2
  · exact .inr ⟨g, cap, cur, rfl, hb, (hc.block g (Array.getElem?_eq_some_iff.1 hh).1 (hn g rfl)).trans hh, r⟩
theorem rows_ne {w : World} {base base' : Nat} {e e' : TypeId} {size size' : Nat} {v v' : Value} {n n' : Nat} {xs xs' : List Value} (h : w.ownsRow base e size v n xs) (h' : w.ownsRow base' e' size' v' n' xs') (hne : e ≠ e') :
    ∀ g, v.ownBlock = some g → v'.ownBlock ≠ some g := by
  intro g hg hg'
  rcases h.2 with ⟨rfl, _⟩ | ⟨b, cap, cur, rfl, _, hh, _⟩
  · simp [Value.ownBlock] at hg
  · rcases h'.2 with ⟨rfl, _⟩ | ⟨b', cap', cur', rfl, _, hh', _⟩
    · simp [Value.ownBlock] at hg'
    · simp only [Value.ownBlock, Option.some.injEq] at hg hg'
      subst hg
      subst hg'
      rw [hh] at hh'
      injection hh' with hh'
      injection hh' with _ ht
      exact hne ht
theorem row_lt {w : World} {base : Nat} {e : TypeId} {size : Nat} {v : Value} {n : Nat} {xs : List Value} (h : w.ownsRow base e size v n xs) : ∀ g, v.ownBlock = some g → base ≤ g ∧ g < w.heap.size := h.lt
def KeepR (e : TypeId) (size : Nat) (v : Value) (n : Nat) (w w' : World) : Prop :=
  ∀ (base0 : Nat) (v0 : Value) (n0 : Nat) (xs0 : List Value), w.ownsRow base0 e size v0 n0 xs0 → (∀ g, v0.ownBlock = some g → v.ownBlock = some g → n0 ≤ n) → w'.ownsRow base0 e size v0 n0 xs0
section
variable {P : Program} {Q : Exit → Act → World → Prop}
theorem append_keep (w : World) (base : Nat) (t ty e : TypeId) (i : TypeInfo) (z : Value) (size bytes : Nat) (ht : P.underlying t = some (.slice e)) (hi : P.info? e = some i) (hz : i.zero = some z)
    (hsize : i.size = size) (hby : i.bytes = bytes) (hzs : z.cells.size = size) (hsz : 0 < size)
    (v : Value) (n : Nat) (xs : List Value) (hown : w.ownsRow base e size v n xs)
    (a : Addr) (m c : Nat) (news : List Value) (hl : news.length = m * size) (hnews : ∀ j u, news[j]? = some u → w.cell? (a.add j) = some u) (h1 : ∀ u ∈ news, u.oneCell' = true)
    (h63 : n + m ≤ maxLen) (hbytes : (n + m) * bytes ≤ 140737488355328) (hbase : base ≤ w.heap.size) :
    ∃ v' w', (Builtin.append_ #[t, t] ty #[v, .slice (some a) m c]).run P w = .ok v' w' ∧ w'.ownsRow base e size v' (n + m) (xs ++ news) ∧ w.grownBy w' v.ownBlock ∧
      (v'.ownBlock = v.ownBlock ∨ v'.ownBlock = some w.heap.size) ∧ KeepR e size v n w w' := by
  obtain ⟨v', w', hrun, h2, h3, h4, h5⟩ := run_append_own_at (P := P) w base t ty e i z size bytes ht hi hz hsize hby hzs hsz v n xs hown a m c news hl hnews h1 h63 hbytes hbase
  refine ⟨v', w', hrun, h2, h3, h5, ?_⟩
  intro base0 v0 n0 xs0 h0 hle
  rcases h0.2 with ⟨hv0, hn0⟩ | ⟨g0, cap0, cur0, hv0, hb0, hh0, hnc0, hcm0, hcs0, htake0⟩
  · exact ⟨h0.1, .inl ⟨hv0, hn0⟩⟩
  · subst hv0
    by_cases hblk : v.ownBlock = some g0
    · have hn0 := hle g0 rfl hblk
      rcases hown.2 with ⟨rfl, _⟩ | ⟨g, cap, cur, rfl, hbg, hg, hnc, hcm, hcs, htake⟩
      · simp [Value.ownBlock] at hblk
      · simp only [Value.ownBlock, Option.some.injEq] at hblk
        subst hblk
        rw [hg] at hh0
        injection hh0 with hh0
        injection hh0 with hcc _
        subst hcc
        have hcap : cap = cap0 := Nat.eq_of_mul_eq_mul_right hsz (hcs.symm.trans hcs0)
        subst hcap
        have hle2 : n0 * size ≤ n * size := Nat.mul_le_mul_right _ hn0
        have hxs0 : xs0 = xs.take (n0 * size) := by
          rw [← htake0, ← htake, List.take_take, Nat.min_eq_left hle2]
        by_cases hroom : n + m ≤ cap
        · obtain ⟨w'', hr, h6, h7⟩ := run_append_own_spare (P := P) w base t ty e i size ht hi hsize g n cap xs hown a m c news hl hnews h1 hroom
          rw [hrun] at hr
          injection hr with e1 e2
          subst e1
          subst e2
          rcases h6.2 with ⟨hbad, _⟩ | ⟨g', cap', cur', hv', hb', hh', hnc', hcm', hcs', htake'⟩
          · cases hbad
          · injection hv' with e1 e2 e3
            injection e1 with e1
            injection e1 with e1 _ _
            subst e1
            subst e3
            refine ⟨h0.1, .inr ⟨g, cap, cur', rfl, hb0, hh', hnc0, hcm0, hcs', ?_⟩⟩
            have : cur'.toList.take (n0 * size) = (cur'.toList.take ((n + m) * size)).take (n0 * size) := by
              rw [List.take_take, Nat.min_eq_left (Nat.mul_le_mul_right _ (by omega))]
            rw [this, htake', hxs0, List.take_append_of_le_length (by rw [hown.1]; exact hle2)]
        · have holds : ∀ j u, xs[j]? = some u → w.cell? ((⟨g, 0, none⟩ : Addr).add j) = some u := hown.cells (g := g) rfl
          subst hsize
          have hr := run_append_grow (P := P) w t ty e i z ht hi hz ⟨g, 0, none⟩ n cap xs hown.1 holds a m c news hl hnews (by omega) (by simp only [maxLen] at h63; omega) (growslice_fits (by omega) (by rw [hby]; exact hbytes))
          rw [hrun] at hr
          injection hr with e1 e2
          subst e2
          refine ⟨h0.1, .inr ⟨g, cap, cur, rfl, hb0, ?_, hnc0, hcm0, hcs, htake0⟩⟩
          exact (Below.heap_alloc _ _ _ (by simpa using (Array.getElem?_eq_some_iff.1 hg).1)).trans hg
    · exact h0.kept h3 (.inr (fun e => hblk e.symm))
theorem wpList_append1K {ops : Array Oper} {rest : List Oper} {o : Oper} {a : Act} (hgd : o.guard = none) (w0 : World) (s x : Operand) (t e : TypeId) (ho : o.op = .call { callee := .builtin .append, args := #[s, x], argTypes := #[t, t] })
    (base : Nat) (z : Value) (size bytes : Nat) (ht : P.underlying t = some (.slice e)) (hinfo : (P.info? e).map (fun i => (i.zero, i.size, i.bytes)) = some (some z, size, bytes)) (hzs : z.cells.size = size) (hsz : 0 < size)
    (v : Value) (n : Nat) (xs news : List Value) (hs : a.eval s = v) (hown : w0.ownsRow base e size v n xs) (H : Nat) (hH : w0.heap.size = H) (hx : a.eval x = .slice (some ⟨H, 0, none⟩) 1 1) (hl : news.length = size) (h1 : ∀ u ∈ news, u.oneCell' = true)
    (h63 : n + 1 ≤ maxLen) (hbytes : (n + 1) * bytes ≤ 140737488355328) (hbase : base ≤ w0.heap.size)
    (h : ∀ g cap w', w'.ownsRow base e size (.slice (some ⟨g, 0, none⟩) (n + 1) cap) (n + 1) (xs ++ news) → w0.grownBy w' v.ownBlock → (some g = v.ownBlock ∨ g = H + 1) → KeepR e size v n w0 w' → wpList P ops Q rest (a.put o.dst (.slice (some ⟨g, 0, none⟩) (n + 1) cap)) w') :
    wpList P ops Q (o :: rest) a (w0.alloc (.cells news.toArray e)) := by
  refine wpList_plain hgd fun K hK => ?_
  subst hH
  obtain ⟨i, hi, hz, hsize, hby⟩ := info_parts hinfo
  have hnews : ∀ j u, news[j]? = some u → (w0.alloc (.cells news.toArray e)).cell? ((⟨w0.heap.size, 0, none⟩ : Addr).add j) = some u := by
    intro j u hu
    have hadd : (⟨w0.heap.size, 0, none⟩ : Addr).add j = ⟨w0.heap.size, j, none⟩ := by unfold Addr.add; split <;> simp_all
    rw [hadd, cell_of_row _ _ _ _ _ _ (World.alloc_heap_new w0 _)]
    simpa using hu
  obtain ⟨v', w', hrun, h2, h3, h5, h6⟩ := append_keep (P := P) (w0.alloc (.cells news.toArray e)) base t o.type e i z size bytes ht hi hz hsize hby hzs hsz v n xs (hown.alloc _) ⟨w0.heap.size, 0, none⟩ 1 1 news (by omega) hnews h1 h63 hbytes (by simp; omega)
  obtain ⟨g, cap, rfl⟩ : ∃ g cap, v' = .slice (some ⟨g, 0, none⟩) (n + 1) cap := by
    rcases h2.2 with ⟨_, h0⟩ | ⟨g, cap, cur, hv, _⟩
    · omega
    · exact ⟨g, cap, hv⟩
  have hg : w0.grownBy w' v.ownBlock := by
    refine ⟨h3.os, h3.tape, h3.output, Nat.le_trans (by simp) h3.size, fun k hk hne => ?_⟩
    rw [h3.block k (by simp; omega) hne]
    exact Below.heap_alloc _ _ _ hk
  unfold Oper.wp execOp
  simp only [ho, resolve, invoke, builtin, Sem.run_bind, Sem.run_pure, Result.andThen_ok, List.map_toArray, List.map_cons, List.map_nil, hs, hx, hrun]
  refine hK _ _ (h g cap w' h2 hg ?_ (fun b0 v0 n0 xs0 h0 hle => h6 b0 v0 n0 xs0 (h0.alloc _) hle))
  rcases h5 with h5 | h5
  · exact Or.inl (by simpa [Value.ownBlock] using h5)
  · exact Or.inr (by simpa [Value.ownBlock] using h5)
theorem wpList_appendK {ops : Array Oper} {rest : List Oper} {o : Oper} {a : Act} (hgd : o.guard = none) (w : World) (s x : Operand) (t e : TypeId) (ho : o.op = .call { callee := .builtin .append, args := #[s, x], argTypes := #[t, t] })
    (base : Nat) (z : Value) (size bytes : Nat) (ht : P.underlying t = some (.slice e)) (hinfo : (P.info? e).map (fun i => (i.zero, i.size, i.bytes)) = some (some z, size, bytes)) (hzs : z.cells.size = size) (hsz : 0 < size)
    (v : Value) (n : Nat) (xs : List Value) (hs : a.eval s = v) (hown : w.ownsRow base e size v n xs) (M m c : Nat) (news : List Value) (hx : a.eval x = .slice (some ⟨M, 0, none⟩) m c) (hm : w.ownsRow base e size (.slice (some ⟨M, 0, none⟩) m c) m news) (h1 : ∀ u ∈ news, u.oneCell' = true)
    (h63 : n + m ≤ maxLen) (hbytes : (n + m) * bytes ≤ 140737488355328) (hbase : base ≤ w.heap.size)
    (h : ∀ v' w', w'.ownsRow base e size v' (n + m) (xs ++ news) → w.grownBy w' v.ownBlock → (v'.ownBlock = v.ownBlock ∨ v'.ownBlock = some w.heap.size) → KeepR e size v n w w' → wpList P ops Q rest (a.put o.dst v') w') :
    wpList P ops Q (o :: rest) a w := by
  refine wpList_plain hgd fun K hK => ?_
  obtain ⟨i, hi, hz, hsize, hby⟩ := info_parts hinfo
  obtain ⟨v', w', hrun, h2, h3, h5, h6⟩ := append_keep (P := P) w base t o.type e i z size bytes ht hi hz hsize hby hzs hsz v n xs hown ⟨M, 0, none⟩ m c news hm.1 (hm.cells (g := M) rfl) h1 h63 hbytes hbase
  unfold Oper.wp execOp
  simp only [ho, resolve, invoke, builtin, Sem.run_bind, Sem.run_pure, Result.andThen_ok, List.map_toArray, List.map_cons, List.map_nil, hs, hx, hrun]
  exact hK _ _ (h v' w' h2 h3 h5 h6)
end
def SepF (v v' : Value) : Prop := ∀ g, v.ownBlock = some g → v'.ownBlock ≠ some g
theorem SepF.symm {v v' : Value} (h : SepF v v') : SepF v' v := fun g h1 h2 => h g h2 h1
def mrow (mk : Nat → Nat → List Value) (k n : Nat) : List Value := (List.range n).flatMap (mk k)
theorem mrow_snoc (mk : Nat → Nat → List Value) (k n : Nat) : mrow mk k (n + 1) = mrow mk k n ++ mk k n := by simp [mrow, List.range_succ]
theorem mrow_len (mk : Nat → Nat → List Value) (size : Nat) (hs : ∀ k i, (mk k i).length = size) (k n : Nat) : (mrow mk k n).length = n * size := by
  induction n with
  | zero => simp [mrow]
  | succ n ih => rw [mrow_snoc, List.length_append, ih, hs, Nat.add_mul, Nat.one_mul]
theorem mrow_at (mk : Nat → Nat → List Value) (hs : ∀ k i, (mk k i).length = 1) (k n i : Nat) (hi : i < n) : (mrow mk k n)[i]? = (mk k i)[0]? := by
  induction n with
  | zero => omega
  | succ n ih =>
    have hl := mrow_len mk 1 hs k n
    rw [mrow_snoc]
    by_cases h : i < n
    · rw [List.getElem?_append_left (by omega), ih h]
    · have : i = n := by omega
      subst this
      rw [List.getElem?_append_right (by omega)]
      congr 1
      omega
theorem range_map_set {α : Type} (K : Nat) (f : Nat → α) (k : Nat) (x : α) : ((List.range K).map f).set k x = (List.range K).map (fun j => if j = k then x else f j) := by
  refine List.ext_getElem (by simp) fun i h1 h2 => ?_
  simp only [List.getElem_set, List.getElem_map, List.getElem_range]
  by_cases e : k = i
  · subst e; simp
  · rw [if_neg e, if_neg (fun h => e h.symm)]
end

section
open Go.RowKit
section
variable {P : Program} {ops : Array Oper} {rest : List Oper} {o : Oper} {a : Act}
theorem wpQuiet_load_mid {C : World → Prop} {Q : Act → Prop} (hw : Region.wanted o (yielded ops a.tmps) = true) (ty : TypeId) (x : Operand) (ho : o.op = .load ty x)
    (b q : Nat) (hx : a.eval x = .pointer (some ⟨b, q, none⟩)) (cs : List Value) (d : TypeDesc) (hc : ∀ w, C w → w.rangeAt b q cs)
    (hu : P.underlying ty = some d) (hd : d.isRow = true) (hi : (P.info? ty).map (·.size) = some cs.length)
    (h : wpQuiet P ops C Q rest (a.put o.dst (.agg cs.toArray))) : wpQuiet P ops C Q (o :: rest) a :=
  BigFrame.wpQuiet_want hw fun _ hK => ⟨.agg cs.toArray, fun w hC => by
    unfold Oper.quietAt execOp
    simp only [ho, hx, Instr.loadAt, Instr.sureAddr, Sem.run_bind, Sem.run_pure, Result.andThen_ok, run_loadVar_mid w b q ty cs d (hc w hC) hu hd hi]
    exact ⟨rfl, rfl⟩, hK _ h⟩
end
theorem own_cells {base : Nat} {e : TypeId} {size g n c : Nat} : ∀ (vs : List Value) (o : Nat) (xs : List Value) (w : World), w.ownsRow base e size (.slice (some ⟨g, 0, none⟩) n c) n xs → o + vs.length ≤ xs.length →
    (w.setCells g o vs).ownsRow base e size (.slice (some ⟨g, 0, none⟩) n c) n (xs.take o ++ vs ++ xs.drop (o + vs.length))
  | [], o, xs, w, h, _ => by simpa [World.setCells] using h
  | v :: r, o, xs, w, h, ho => by
    simp only [List.length_cons] at ho
    have h1 := own_cells r (o + 1) _ _ (h.stored o v).1 (by simp; omega)
    rw [World.setCells]
    have e : (xs.set o v).take (o + 1) ++ r ++ (xs.set o v).drop (o + 1 + r.length) = xs.take o ++ (v :: r) ++ xs.drop (o + (v :: r).length) := by
      rw [List.drop_set_of_lt (by omega), List.take_add_one, List.take_set_of_le (by omega), List.getElem?_set_self (by omega)]
      simp [Nat.add_assoc, Nat.add_comm 1]
    rw [e] at h1
    exact h1
theorem flat_set {α : Type} (cs : α → List Value) (size : Nat) (hs : ∀ x, (cs x).length = size) (x : α) : ∀ (l : List α) (k : Nat), k < l.length → (l.flatMap cs).take (k * size) ++ cs x ++ (l.flatMap cs).drop (k * size + size) = (l.set k x).flatMap cs
  | y :: l, 0, _ => by
    simp only [List.flatMap_cons, Nat.zero_mul, List.take_zero, List.nil_append, List.set_cons_zero, Nat.zero_add]
    rw [← hs y, List.drop_left]
  | y :: l, k + 1, h => by
    have ih := flat_set cs size hs x l k (by simpa using h)
    rw [List.flatMap_cons, List.set_cons_succ, List.flatMap_cons, ← ih, Nat.add_mul, Nat.one_mul]
    have e1 : k * size + size = (cs y).length + k * size := by rw [hs]; omega
    have e2 : k * size + size + size = (cs y).length + (k * size + size) := by rw [hs]; omega
    rw [e2, List.drop_append, e1, List.take_append]
    simp only [List.append_assoc]
    rw [List.take_of_length_le (by omega), List.drop_of_length_le (l := cs y) (by omega), List.nil_append]
    congr 2
    · congr 1; omega
    · congr 1
      congr 1; omega
section
variable {α : Type} {e : TypeId} {size : Nat} {cs : α → List Value} {w w' : World} {base : Nat} {ls : List α} {g n c : Nat}
theorem OwnR.range (hs : ∀ x, (cs x).length = size) (h : OwnR e size cs w base (.slice (some ⟨g, 0, none⟩) n c) ls) (z : α) {k : Nat} (hk : k < ls.length) : w.rangeAt g (k * size) (cs (ls.getD k z)) := by
  obtain rfl : n = ls.length := by obtain ⟨a, c', e⟩ := h.form; injection e
  have hr := h.recs hs
  obtain ⟨b, o, ea, hc⟩ := hr.at_ (k := k) (by rw [hr.1]; exact hk) z
  injection ea with ea
  injection ea with ea eo
  subst ea eo
  intro j v hv
  have hj : j < size := by rw [← hs (ls.getD k z)]; exact (List.getElem?_eq_some_iff.1 hv).1
  rw [← hv, ← hc j hj, Nat.zero_add]
theorem OwnR.setAt (hs : ∀ x, (cs x).length = size) (h : OwnR e size cs w base (.slice (some ⟨g, 0, none⟩) n c) ls) {k : Nat} (hk : k < ls.length) (x : α) : OwnR e size cs (w.setCells g (k * size) (cs x)) base (.slice (some ⟨g, 0, none⟩) n c) (ls.set k x) := by
  obtain rfl : n = ls.length := by obtain ⟨a, c', e⟩ := h.form; injection e
  have hl := flatMap_len cs size hs ls
  have hkk : k * size + size ≤ ls.length * size := by
    have : (k + 1) * size ≤ ls.length * size := Nat.mul_le_mul_right _ hk
    rw [Nat.add_mul, Nat.one_mul] at this
    exact this
  have h1 := own_cells (cs x) (k * size) _ _ h.1 (by rw [hs, hl]; exact hkk)
  rw [hs, flat_set cs size hs x ls k hk] at h1
  refine ⟨?_, by simpa using h.2⟩
  rw [List.length_set]
  exact h1
theorem OwnR.there (hs : ∀ x, (cs x).length = size) (h : OwnR e size cs w base (.slice (some ⟨g, 0, none⟩) n c) ls) {k : Nat} (hk : k < ls.length) : w.there g (k * size) size := by
  have hl := flatMap_len cs size hs ls
  have hkk : k * size + size ≤ ls.length * size := by
    have : (k + 1) * size ≤ ls.length * size := Nat.mul_le_mul_right _ hk
    rw [Nat.add_mul, Nat.one_mul] at this
    exact this
  rcases h.1.2 with ⟨h0, _⟩ | ⟨g', cap, cur, hv, hb, hh, hnc, hcm, hcs, ht⟩
  · cases h0
  · simp only [Value.slice.injEq, Option.some.injEq, Addr.mk.injEq, and_true, true_and] at hv
    obtain ⟨rfl, rfl, rfl⟩ := hv
    intro j hj
    have : ls.length * size ≤ c * size := Nat.mul_le_mul_right _ hnc
    refine ⟨?_, frozen_of_row _ _ _ _ _ hh⟩
    rw [cell_of_row _ _ _ _ _ _ hh]
    rw [Array.getElem?_eq_getElem (by omega)]
    rfl
end
theorem chg_setCells {S : Nat → Prop} {a : World} {g : Nat} (hs : S g) : ∀ (vs : List Value) (o : Nat) (w : World), Chg S a w → Chg S a (w.setCells g o vs)
  | [], _, _, h => h
  | v :: r, o, w, h => chg_setCells hs r (o + 1) _ (h.setCell (Or.inl hs) v)
end

section
open Go.RowKit
theorem box2 (w : World) (o1 o2 : Obj) (W : World) (h : Below ((w.alloc o1).alloc o2).heap.size ((w.alloc o1).alloc o2) W) : W.heap[w.heap.size]? = some o1 ∧ W.heap[w.heap.size + 1]? = some o2 ∧ Below w.heap.size w W := by
  refine ⟨?_, ?_, ext_trans (ext_trans (ext_alloc w o1) (ext_alloc _ o2)) h⟩
  · rw [h.block _ (by simp; omega), Below.heap_alloc _ _ _ (by simp)]
    exact heap_alloc_new w o1
  · rw [h.block _ (by simp)]
    have := heap_alloc_new (w.alloc o1) o2
    simpa using this
theorem boxes2 (w : World) (o1 o2 : Obj) : ∃ W0, Hid (Below w.heap.size w W0) ∧ W0.heap[w.heap.size]? = some o1 ∧ W0.heap[w.heap.size + 1]? = some o2 ∧ (w.alloc o1).alloc o2 = W0 := by
  obtain ⟨x1, x2, x3⟩ := box2 w o1 o2 _ (Below.refl _ _)
  exact ⟨_, x3, x1, x2, rfl⟩
theorem chg_setRow (w : World) (g : Nat) (cs : Array Value) : Chg (fun k => k = g) w (w.setRow g cs) :=
  ⟨rfl, rfl, rfl, by rw [size_setRow]; exact Nat.le_refl _, fun k _ hn => setRow_other w g k cs hn⟩
theorem chg_setCell (w : World) (b o : Nat) (u : Value) : Chg (fun k => k = b) w (w.setCell ⟨b, o, none⟩ u) := (Chg.refl (fun k => k = b) w).setCell (p := ⟨b, o, none⟩) (Or.inl rfl) u
theorem Chg.row {S : Nat → Prop} {w w' : World} (h : Chg S w w') {k : Nat} {o : Obj} (hk : w.heap[k]? = some o) (hn : ¬ S k) : w'.heap[k]? = some o := (h.block k (Array.getElem?_eq_some_iff.1 hk).1 hn).trans hk
theorem chg_below {w w' : World} (h : Below w.heap.size w w') : Chg (fun _ => False) w w' := ⟨h.os, h.tape, h.output, h.size, fun k hk _ => h.block k hk⟩
section
variable {P : Program} {Q : Exit → Act → World → Prop}
theorem wpList_store_rowC {ops : Array Oper} {rest : List Oper} {o : Oper} {a : Act} {w : World} (hgd : o.guard = none) (ty : TypeId) (x y : Operand) (ho : o.op = .store ty x y)
    (g : Nat) (cells : Array Value) (hx : a.eval x = .pointer (some ⟨g, 0, none⟩)) (hy : a.eval y = .agg cells)
    (t : TypeId) (old : Array Value) (hg : w.heap[g]? = some (.cells old t (0, 0))) (hi : (P.info? ty).map (·.size) = some cells.size)
    (hold : old.size = cells.size) (h1 : cells.all (·.oneCell') = true)
    (h : ∀ W', Chg (fun k => k = g) w W' → W'.heap[g]? = some (.cells cells t (0, 0)) → wpList P ops Q rest (a.put o.dst undef) W') : wpList P ops Q (o :: rest) a w :=
  wpList_store_row hgd ty x y ho g cells hx hy t old hg hi hold h1 (h _ (chg_setRow _ _ _) (setRow_heap _ _ _ _ _ _ hg))
end
def SameEs {α : Type} (SD : α → α → Prop) (rs ss : List α) : Prop := rs.length = ss.length ∧ ∀ (k : Nat) r s, rs[k]? = some r → ss[k]? = some s → SD r s
end

section
open Go.RowKit Go.Shelf
def partC (p : PartD) : List Value := (setA p.s).toList ++ [.int .i64 p.kind, .int .i64 p.entry]
theorem partC_len (p : PartD) : (partC p).length = 202 := by simp [partC, setA_size]
theorem partC_one (p : PartD) : ∀ v ∈ partC p, v.oneCell' = true := by
  intro v hv
  rcases List.mem_append.1 hv with h | h
  · have := setA_all p.s
    rw [Array.all_eq_true_iff_forall_mem] at this
    exact this v (by simpa using h)
  · simp only [List.mem_cons, List.not_mem_nil, or_false] at h
    rcases h with rfl | rfl <;> rfl
abbrev partV (p : PartD) : Value := .agg (partC p).toArray
theorem toArr_toList (l : List Value) : l.toArray.toList = l := rfl
theorem size_part : (Tryz.prog.info? 128).map (·.size) = some 202 := by kernel_rfl
theorem size_partC (p : PartD) : (Tryz.prog.info? 128).map (·.size) = some (partC p).length := by rw [partC_len]; exact size_part
theorem size_partA (p : PartD) : (Tryz.prog.info? 128).map (·.size) = some (partC p).toArray.size := by rw [List.size_toArray]; exact size_partC p
def PartsIn (W : World) (base : Nat) (v : Value) (L : List PartD) : Prop := OwnR 128 202 partC W base v L
section
variable {W W' : World} {base g n c : Nat} {L : List PartD}
theorem PartsIn.len (h : PartsIn W base (.slice (some ⟨g, 0, none⟩) n c) L) : L.length = n := by
  obtain ⟨_, _, e⟩ := OwnR.form h
  injection e with _ e _
  exact e.symm
theorem PartsIn.ext {v : Value} (h : PartsIn W base v L) (hb : Below W.heap.size W W') : PartsIn W' base v L := OwnR.ext h hb
theorem PartsIn.drew {v : Value} (h : PartsIn W base v L) : PartsIn W.drew base v L := h.ext (ext_drewN (Below.refl _ _) 1)
theorem part_range (h : PartsIn W base (.slice (some ⟨g, 0, none⟩) n c) L) {k : Nat} (hk : k < n) : W.rangeAt g (k * 202) (partC (L.getD k zPart)) := OwnR.range partC_len h zPart (by rw [h.len]; exact hk)
theorem part_there (h : PartsIn W base (.slice (some ⟨g, 0, none⟩) n c) L) {k : Nat} (hk : k < n) (p : PartD) : W.there g (k * 202) (partC p).toArray.size := by
  rw [List.size_toArray, partC_len]
  exact OwnR.there partC_len h (by rw [h.len]; exact hk)
theorem part_set (h : PartsIn W base (.slice (some ⟨g, 0, none⟩) n c) L) {k : Nat} (hk : k < n) (p : PartD) : PartsIn (W.setCells g (k * 202) (partC p)) base (.slice (some ⟨g, 0, none⟩) n c) (L.set k p) := OwnR.setAt partC_len h (by rw [h.len]; exact hk) p
end
theorem swapRange_any (g n c a b m base : Nat) (fv : Value) (L : List PartD) (w : World) (h : PartsIn w base (.slice (some ⟨g, 0, none⟩) n c) L) (hn : n ≤ 1000000) (hab : a + m ≤ b) (hbm : b + m ≤ n) :
    Calls Tryz.prog 220 #[.slice (some ⟨g, 0, none⟩) n c, .int .i64 (a : Int), .int .i64 (b : Int), .int .i64 (m : Int), fv] w fun e w' => e = .returned (.tuple #[]) ∧
      ∃ L', PartsIn w' base (.slice (some ⟨g, 0, none⟩) n c) L' ∧ Sh zPart L L' a (b + m) ∧ (∀ k, L'.getD k zPart = swapR (fun k => L.getD k zPart) a b m k) ∧ Chg (fun k => k = g) w w' := by
  have H := Lib.hid h
  clear h
  go_enter Tryz.func220, Tryz.ntmps220
  go_wp2
  go_loopw [10] (fun s10 wr => ∃ (i : Nat) (L1 : List PartD), i ≤ m ∧ s10 = .int .i64 (i : Int) ∧ Hid (PartsIn wr base (.slice (some ⟨g, 0, none⟩) n c) L1 ∧ Sh zPart L L1 a (b + m) ∧ (∀ k, L1.getD k zPart = swapR (fun k => L.getD k zPart) a b i k) ∧ Chg (fun k => k = g) w wr)) (fun s10 _ => m - (intOf s10).toNat)
  case atStart => exact ⟨0, L, by omega, by go_num, H.out, Sh.refl _ _ _, fun k => by rw [swapR_zero], Chg.refl _ _⟩
  case round =>
    obtain ⟨i, L1, hi, rfl, HJ⟩ := hrel
    by_cases hlt : i < m
    · have hlt' : (i : Int) < (m : Int) := by omega
      have h1 := HJ.out.1.drew
      have hr1 := part_range h1 (k := a + i) (by omega)
      have hr2 := part_range h1 (k := b + i) (by omega)
      have ht1 := part_there h1 (k := a + i) (by omega) (L1.getD (b + i) zPart)
      have h2 := part_set h1 (k := a + i) (by omega) (L1.getD (b + i) zPart)
      have ht2 := part_there h2 (k := b + i) (by omega) (L1.getD (a + i) zPart)
      have h3 := part_set h2 (k := b + i) (by omega) (L1.getD (a + i) zPart)
      have hlen := HJ.out.1.len
      have HJ2 : Hid (PartsIn ((wr.drew.setCells g ((a + i) * 202) (partC (L1.getD (b + i) zPart))).setCells g ((b + i) * 202) (partC (L1.getD (a + i) zPart))) base (.slice (some ⟨g, 0, none⟩) n c) (swapL zPart L1 (a + i) (b + i)) ∧ Sh zPart L (swapL zPart L1 (a + i) (b + i)) a (b + m) ∧ (∀ k, (swapL zPart L1 (a + i) (b + i)).getD k zPart = swapR (fun k => L.getD k zPart) a b (i + 1) k) ∧ Chg (fun k => k = g) w ((wr.drew.setCells g ((a + i) * 202) (partC (L1.getD (b + i) zPart))).setCells g ((b + i) * 202) (partC (L1.getD (a + i) zPart)))) := by
        refine ⟨h3, HJ.out.2.1.trans (Sh.swap L1 (by omega) (by omega) (by omega)), fun k => ?_, chg_setCells (S := fun k => k = g) rfl _ _ _ (chg_setCells (S := fun k => k = g) rfl _ _ _ (HJ.out.2.2.2.drewN 1))⟩
        rw [swapL_at zPart L1 (by omega) (by omega), ← swapR_step _ _ _ _ (by omega), HJ.out.2.2.1, HJ.out.2.2.1, HJ.out.2.2.1]
      clear h1 h2 h3 HJ
      generalize L1.getD (a + i) zPart = x at *
      generalize L1.getD (b + i) zPart = y at *
      go_wp2
      obtain ⟨w8, hw8⟩ : ∃ w8, w8 = wr.drew.setCells g ((a + i) * 202) (partC y) := ⟨_, rfl⟩
      rw [← hw8] at HJ2 ht2
      obtain ⟨w9, hw9⟩ : ∃ w9, w9 = w8.setCells g ((b + i) * 202) (partC x) := ⟨_, rfl⟩
      rw [← hw9] at HJ2
      refine z_start (fun _ => True) (by kernel_rfl) ?_
      refine z_reads 0 13 (by kernel_rfl) trivial ?_
      simp only [List.take_succ_cons, List.take_zero, List.drop_succ_cons, List.drop_zero]
      repeat (go_big_quiet_step (fail))
      refine wpQuiet_nil ?_
      refine z_reads 14 5 (by kernel_rfl) trivial ?_
      simp only [List.take_succ_cons, List.take_zero, List.drop_succ_cons, List.drop_zero]
      repeat (go_big_quiet_step (fail))
      refine wpQuiet_nil ?_
      refine z_two 13 19 (by kernel_rfl) ?_ ?_
      · refine wpOp_atK rfl rfl ?_
        refine wp_load_mid 128 _ rfl g ((b + i) * 202) rfl (partC y) _ hr2 Tryz.underlying128 rfl (size_partC _) ?_
        refine ⟨Or.inr trivial, ?_⟩
        simp only [zJ,zG,zH,zI]
        refine z_one 19 (by kernel_rfl) ?_
        refine wpOp_atK rfl rfl ?_
        refine wp_load_mid 128 _ rfl g ((a + i) * 202) rfl (partC x) _ hr1 Tryz.underlying128 rfl (size_partC _) ?_
        refine ⟨Or.inr trivial, ?_⟩
        simp only [zJ,zG,zH,zI]
        refine z_reads 20 1 (by kernel_rfl) trivial ?_
        simp only [List.take_succ_cons, List.take_zero, List.drop_succ_cons, List.drop_zero]
        repeat (go_big_quiet_step (fail))
        refine wpQuiet_nil ?_
        refine z_one 21 (by kernel_rfl) ?_
        refine wpOp_atK rfl rfl ?_
        refine wp_store_mid 128 _ _ rfl g ((a + i) * 202) (partC y).toArray rfl rfl ht1 (size_partA _) (all_oneCell_toArray (partC_one _)) ?_
        simp only [put_none, toArr_toList]
        rw [← hw8]
        refine ⟨Or.inr trivial, ?_⟩
        refine z_reads 22 1 (by kernel_rfl) trivial ?_
        simp only [List.take_succ_cons, List.take_zero, List.drop_succ_cons, List.drop_zero]
        repeat (go_big_quiet_step (fail))
        refine wpQuiet_nil ?_
        refine z_one 23 (by kernel_rfl) ?_
        refine wpOp_atK rfl rfl ?_
        refine wp_store_mid 128 _ _ rfl g ((b + i) * 202) (partC x).toArray rfl rfl ht2 (size_partA _) (all_oneCell_toArray (partC_one _)) ?_
        simp only [put_none, toArr_toList]
        refine ⟨Or.inr trivial, ?_⟩
        rw [← hw9]
        refine z_done (by kernel_rfl) ?_
        clear hw9 hw8
        go_wp2
        go_roundw
        case rel => exact ⟨i + 1, _, by omega, by go_num, HJ2⟩
        case measure => simp [intOf]; omega
      · refine wpOp_atK rfl rfl ?_
        refine wp_load_mid 128 _ rfl g ((a + i) * 202) rfl (partC x) _ hr1 Tryz.underlying128 rfl (size_partC _) ?_
        refine ⟨Or.inr trivial, ?_⟩
        simp only [zJ,zG,zH,zI]
        refine z_one 13 (by kernel_rfl) ?_
        refine wpOp_atK rfl rfl ?_
        refine wp_load_mid 128 _ rfl g ((b + i) * 202) rfl (partC y) _ hr2 Tryz.underlying128 rfl (size_partC _) ?_
        refine ⟨Or.inr trivial, ?_⟩
        simp only [zJ,zG,zH,zI]
        refine z_reads 20 1 (by kernel_rfl) trivial ?_
        simp only [List.take_succ_cons, List.take_zero, List.drop_succ_cons, List.drop_zero]
        repeat (go_big_quiet_step (fail))
        refine wpQuiet_nil ?_
        refine z_one 21 (by kernel_rfl) ?_
        refine wpOp_atK rfl rfl ?_
        refine wp_store_mid 128 _ _ rfl g ((a + i) * 202) (partC y).toArray rfl rfl ht1 (size_partA _) (all_oneCell_toArray (partC_one _)) ?_
        simp only [put_none, toArr_toList]
        rw [← hw8]
        refine ⟨Or.inr trivial, ?_⟩
        refine z_reads 22 1 (by kernel_rfl) trivial ?_
        simp only [List.take_succ_cons, List.take_zero, List.drop_succ_cons, List.drop_zero]
        repeat (go_big_quiet_step (fail))
        refine wpQuiet_nil ?_
        refine z_one 23 (by kernel_rfl) ?_
        refine wpOp_atK rfl rfl ?_
        refine wp_store_mid 128 _ _ rfl g ((b + i) * 202) (partC x).toArray rfl rfl ht2 (size_partA _) (all_oneCell_toArray (partC_one _)) ?_
        simp only [put_none, toArr_toList]
        refine ⟨Or.inr trivial, ?_⟩
        rw [← hw9]
        refine z_done (by kernel_rfl) ?_
        clear hw9 hw8
        go_wp2
        go_roundw
        case rel => exact ⟨i + 1, _, by omega, by go_num, HJ2⟩
        case measure => simp [intOf]; omega
    · obtain rfl : i = m := by omega
      go_wp2
      go_end0
      exact ⟨rfl, L1, HJ.out.1, HJ.out.2.1, HJ.out.2.2.1, HJ.out.2.2.2⟩
theorem swapRange_anyZ (g n c a b m base : Nat) (za zb zm : Int) (fv : Value) (L : List PartD) (w : World) (h : PartsIn w base (.slice (some ⟨g, 0, none⟩) n c) L) (hn : n ≤ 1000000) (ha : za = (a : Int)) (hb : zb = (b : Int)) (hm : zm = (m : Int)) (hab : a + m ≤ b) (hbm : b + m ≤ n) :
    Calls Tryz.prog 220 #[.slice (some ⟨g, 0, none⟩) n c, .int .i64 za, .int .i64 zb, .int .i64 zm, fv] w fun e w' => e = .returned (.tuple #[]) ∧
      ∃ L', PartsIn w' base (.slice (some ⟨g, 0, none⟩) n c) L' ∧ Sh zPart L L' a (b + m) ∧ (∀ k, L'.getD k zPart = swapR (fun k => L.getD k zPart) a b m k) ∧ Chg (fun k => k = g) w w' := by
  subst ha hb hm
  exact swapRange_any g n c a b m base fv L w h hn hab hbm
end

section
open Go.RowKit
section
variable {P : Program} {F : Fence} {n : Nat} {op : Oper} {a : Act} {w : World} {K : Act → World → Prop} {Q : Exit → Act → World → Prop}
theorem opIn_load_row (ty : TypeId) (x : Operand) (ho : op.op = .load ty x)
    (g : Nat) (hx : a.eval x = .pointer (some ⟨g, 0, none⟩)) (t : TypeId) (cs : Array Value) (fr : Nat × Nat) (d : TypeDesc) (hg : w.heap[g]? = some (.cells cs t fr))
    (hu : P.underlying ty = some d) (hd : (match d with | .struct _ | .array _ _ => true | _ => false) = true) (hi : (P.info? ty).map (·.size) = some cs.size)
    (h : K (a.put op.dst (.agg cs)) w) : op.wpIn F n P a w K Q := by
  refine ⟨fun f hf => by simp [Oper.about, ho] at hf, ?_⟩
  rw [Oper.semAt_eq _ _ _ (by simp [ho])]
  unfold execOp
  simp only [ho, hx, Instr.loadAt, Instr.sureAddr, Sem.run_bind, Sem.run_pure, Result.andThen_ok, run_loadVar_row w g t ty cs fr d hg hu hd hi]
  exact h
theorem opIn_store_row (ty : TypeId) (x y : Operand) (ho : op.op = .store ty x y)
    (g : Nat) (cells : Array Value) (hx : a.eval x = .pointer (some ⟨g, 0, none⟩)) (hy : a.eval y = .agg cells)
    (t : TypeId) (old : Array Value) (hg : w.heap[g]? = some (.cells old t (0, 0))) (hi : (P.info? ty).map (·.size) = some cells.size)
    (hold : old.size = cells.size) (h1 : cells.all (·.oneCell') = true)
    (h : K (a.put op.dst undef) (w.setRow g cells)) : op.wpIn F n P a w K Q := by
  refine ⟨fun f hf => by simp [Oper.about, ho] at hf, ?_⟩
  rw [Oper.semAt_eq _ _ _ (by simp [ho])]
  unfold execOp
  simp only [ho, hx, hy, Instr.storeAt, Instr.sureAddr, Sem.run_bind, Sem.run_pure, Result.andThen_ok, run_storeVar_row w g t ty old cells hg hi hold h1]
  exact h
end
end

section
open Go.RowKit Go.Shelf
attribute [local go_sem] Oper.semAt_some wide_fn wide_depth wide_fnR wide_depthR
def WiJ (w : World) (f g : Nat → Bool) (W : World) : Prop :=
  W.heap[w.heap.size]? = some (setO f) ∧ W.heap[w.heap.size + 1]? = some (setO g) ∧ W.heap[w.heap.size + 1 + 1]? = some (.cells #[.bool false] 4 (0, 0)) ∧ W.heap[w.heap.size + 1 + 1 + 1]? = some (.cells #[.pointer (some ⟨w.heap.size, 0, none⟩)] 189 (0, 0)) ∧ Below w.heap.size w W
theorem WiJ.steady {w : World} {f g : Nat → Bool} {D : Nat} (hD : w.heap.size ≤ D) : Steady D (WiJ w f g) := by
  unfold WiJ
  exact (Steady.block _ _ rfl).and ((Steady.block _ _ rfl).and ((Steady.block _ _ rfl).and ((Steady.block _ _ rfl).and (Steady.below (Nat.le_refl _) hD))))
theorem within_any (f g : Nat → Bool) (w : World) :
    Calls Tryz.prog 137 #[.agg (setA f), .agg (setA g)] w fun e w' => e = .returned (.bool (withinB f g)) ∧ Below w.heap.size w w' := by
  refine (callsIn_wide (n := 0)).1 ?_
  refine callsIn_of_wp_marks Tryz.func137 rfl trivial ?_
  simp only [Tryz.ntmps137, List.size_toArray, List.length_cons, List.length_nil, Nat.reduceAdd, Nat.reduceSub, Array.replicate_succ, Array.replicate_zero, List.push_toArray, List.append_toArray, List.nil_append, List.cons_append]
  gi_wp2_with (gi_at_call 88; refine (callsIn_wide.2 (each_any _ _)).mono ?_; rintro e w' ⟨rfl, rfl⟩)
  refine range_list (ps := #[7]) (gf := 139) (lb := #[.pointer (some ⟨w.heap.size + 1 + 1 + 1, 0, none⟩)]) (enc := encN) (l := listS f) rfl enter_each _ (each_iterI f (w.heap.size + 1 + 1 + 1) w.heap.size) (fun _ => rfl)
    (fun dn r W => Hid (dn.all g = true ∧ WiJ w f g W)) (fun c W => c = .ret ∧ W.heap[w.heap.size + 1 + 1]? = some (.cells #[.bool (withinB f g)] 4 (0, 0)) ∧ Below w.heap.size w W)
    (fun dn r => (Steady.pure _ _).and (WiJ.steady (by simp; omega))) (fun c => (Steady.pure _ _).and ((Steady.block _ _ rfl).and (Steady.below (Nat.le_refl _) (by simp; omega)))) (fun dn r W h => ⟨by rw [cell_of_row _ _ _ _ _ _ h.out.2.2.2.2.1]; rfl, h.out.2.1⟩) ?start ?round ?done ?stop
  case start =>
    refine ⟨rfl, ?_, ?_, ?_, ?_, ?_⟩
    · rw [Below.heap_alloc _ _ _ (by simp; omega), Below.heap_alloc _ _ _ (by simp; omega), Below.heap_alloc _ _ _ (by simp)]; exact heap_alloc_new _ _
    · rw [Below.heap_alloc _ _ _ (by simp), Below.heap_alloc _ _ _ (by simp)]; exact heap_at _ _ _ (by simp)
    · rw [Below.heap_alloc _ _ _ (by simp)]; exact heap_at _ _ _ (by simp)
    · exact heap_at _ _ _ (by simp)
    · exact (((ext_alloc _ _).alloc (by simp) _).alloc (by simp; omega) _).alloc (by simp; omega) _
  case round =>
    rintro lp dn x r W0 hd hJ
    unfold encN
    gi_wp2
    refine ⟨Keep.refl _, hJ, ?_⟩
    clear hJ lp W0
    rintro lp W0 hJ
    obtain ⟨ja, j1, j2, j3, j4, jb⟩ := hJ.out
    have hxl : x < 200 := listS_lt f x (by rw [hd]; simp)
    have hcx := set_cell j2 x hxl
    by_cases hgx : g x = true
    · rw [hgx] at hcx
      have HN : Hid ((dn ++ [x]).all g = true ∧ WiJ w f g W0) := ⟨by simp only [List.all_append, ja, List.all_cons, hgx, List.all_nil, Bool.and_self], j1, j2, j3, j4, jb⟩
      clear hJ ja j1 j2 j3 j4 jb hgx
      gi_wp2
      exact ⟨Keep.refl _, HN⟩
    · have hgx' : g x = false := by simpa using hgx
      rw [hgx'] at hcx
      have HE : Hid (withinB f g = false) := by
        have : (listS f).all g = false := by rw [hd, List.all_append, List.all_cons, hgx', Bool.false_and, Bool.and_false]
        rw [Hid, withinB, this, Bool.false_and]
      have hf1 : W0.frozen? ⟨w.heap.size + 1 + 1, 0, none⟩ = false := frozen_of_row _ _ _ _ _ j3
      have hc1 : W0.cell? ⟨w.heap.size + 1 + 1, 0, none⟩ = some (.bool false) := by rw [cell_of_row _ _ _ _ _ _ j3]; rfl
      have hl1 := lt_of_heap j3
      have HR := Lib.hid j3
      have HB := Lib.hid jb
      clear hJ ja j1 j2 j3 j4 jb hgx hgx'
      gi_wp2
      have hst := heap_setCell_same W0 (w.heap.size + 1 + 1) 0 _ _ (.bool false) HR.out
      exact ⟨(Keep.setCell _ _ _), rfl, by rw [HE.out]; simpa using hst, HB.out.setCell (by simp; omega) _⟩
  case done =>
    rintro D W hD hJ hK
    obtain ⟨ja, j1, j2, j3, j4, jb⟩ := hJ.out
    have HE : Hid (withinB f g = !eqS f g) := by rw [Hid, withinB, ja, Bool.true_and]
    have hc1 : W.cell? ⟨w.heap.size + 1 + 1, 0, none⟩ = some (.bool false) := by rw [cell_of_row _ _ _ _ _ _ j3]; rfl
    have hf1 : W.frozen? ⟨w.heap.size + 1 + 1, 0, none⟩ = false := frozen_of_row _ _ _ _ _ j3
    have hl1 := lt_of_heap j3
    have HB := Lib.hid jb
    have HJ1 := Lib.hid j1
    have HJ2 := Lib.hid j2
    have HJ3 := Lib.hid j3
    have HD : Hid (w.heap.size + 1 + 1 + 1 < D) := by simp at hD; simp [Hid]; omega
    clear hJ ja j1 j2 j3 j4 jb hD
    gi_wp2
    refine opIn_load_row 124 _ rfl w.heap.size rfl 124 _ (0, 0) _ HJ1.out Tryz.underlying124 rfl (by rw [setA_size]; exact size_set) ?_
    gi_wp2
    refine opIn_load_row 124 _ rfl (w.heap.size + 1) rfl 124 _ (0, 0) _ HJ2.out Tryz.underlying124 rfl (by rw [setA_size]; exact size_set) ?_
    have heq := equal_set W f g
    gi_wp2
    have hDP : D ≠ w.heap.size + 1 + 1 := by have := HD.out; omega
    have gg := grown_setCell W (w.heap.size + 1 + 1) 0 (.bool (!eqS f g))
    have hK2 := grown_row gg hK (by simp; omega)
    have hb2 : Below w.heap.size w (W.setCell ⟨w.heap.size + 1 + 1, 0, none⟩ (.bool (!eqS f g))) := HB.out.setCell (by simp; omega) _
    have hv2 : (W.setCell ⟨w.heap.size + 1 + 1, 0, none⟩ (.bool (!eqS f g))).heap[w.heap.size + 1 + 1]? = some (.cells #[.bool (!eqS f g)] 4 (0, 0)) := by
      have := heap_setCell_same W (w.heap.size + 1 + 1) 0 _ _ (.bool (!eqS f g)) HJ3.out
      simpa using this
    generalize W.setCell ⟨w.heap.size + 1 + 1, 0, none⟩ (.bool (!eqS f g)) = W2 at *
    have hb3 := (Steady.below (n₀ := w.heap.size) (B := w.heap.size) (w₀ := w) (Nat.le_refl _) (Nat.le_refl _)).put (.deferred none) (l := D) hb2 (by have := HD.out; omega) hK2 rfl
    have hv3 : (W2.putObj D (.deferred none)).heap[w.heap.size + 1 + 1]? = some (.cells #[.bool (!eqS f g)] 4 (0, 0)) := (World.putObj_heap_other (by omega)).trans hv2
    have hc3 : (W2.putObj D (.deferred none)).cell? ⟨w.heap.size + 1 + 1, 0, none⟩ = some (.bool (!eqS f g)) := by rw [cell_of_row _ _ _ _ _ _ hv3]; rfl
    refine ⟨by simp, .inl ⟨_, _, rfl, run_takeDeferred hK2, ?_⟩⟩
    exact ⟨.bool (!eqS f g), by simp [results, Tryz.results137, go_sem, hc3], by rw [HE.out], hb3⟩
  case stop =>
    rintro D c W hD ⟨rfl, hv, hb⟩ hK
    have hv2 : (W.putObj D (.deferred none)).heap[w.heap.size + 1 + 1]? = some (.cells #[.bool (withinB f g)] 4 (0, 0)) := (World.putObj_heap_other (by simp at hD; omega)).trans hv
    have hb2 := (Steady.below (n₀ := w.heap.size) (B := w.heap.size) (w₀ := w) (Nat.le_refl _) (Nat.le_refl _)).put (.deferred none) (l := D) hb (by simp at hD; omega) hK rfl
    have hc : (W.putObj D (.deferred none)).cell? ⟨w.heap.size + 1 + 1, 0, none⟩ = some (.bool (withinB f g)) := by rw [cell_of_row _ _ _ _ _ _ hv2]; rfl
    gi_wp2
    refine ⟨by simp, .inl ⟨_, _, rfl, run_takeDeferred hK, ?_⟩⟩
    exact ⟨.bool (withinB f g), by simp [results, Tryz.results137, go_sem, hc], rfl, hb2⟩
end
end Go.Proofs.YtblhmdhfhaencaaGreat
