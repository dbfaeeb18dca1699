/-
  Tile: how tiles lie in memory; parents.
-/
import Derived.Test.YtblhmdhfhaencaaGreatTH
import Derived.Test.YtblhmdhfhaencaaGreatSortI
import Derived.Test.YtblhmdhfhaencaaGreatRangeT
import Derived.Deep.LoopGhost
namespace Go.Proofs.YtblhmdhfhaencaaGreat
set_option linter.unusedSimpArgs false
set_option linter.unusedVariables false
open Go.RowKit

/-- a tile as it lies -/
structure TileR where
  d : TileD
  ba : Option Addr
  bn : Nat
  bc : Nat
def tileC (t : TileR) : List Value := [.int .i64 t.d.kind, .int .i64 t.d.parent, .slice t.ba t.bn t.bc]
theorem tileC_len (t : TileR) : (tileC t).length = 3 := rfl
def TilesOK (w : World) (a : Option Addr) (n : Nat) (ls : List TileR) : Prop := Recs 3 tileC w a n ls ∧ ∀ t ∈ ls, Ints w t.ba t.bn t.d.blocks ∧ t.bn ≤ t.bc ∧ I64 t.d.kind ∧ I64 t.d.parent
theorem TilesOK.ext {w w' : World} {a : Option Addr} {n : Nat} {ls : List TileR} (h : TilesOK w a n ls) (hb : Below w.heap.size w w') : TilesOK w' a n ls := ⟨h.1.ext tileC_len hb, fun t ht => ⟨(h.2 t ht).1.ext hb, (h.2 t ht).2⟩⟩
def tdOf (ls : List TileR) : List TileD := ls.map (·.d)
theorem tdOf_len (ls : List TileR) : (tdOf ls).length = ls.length := by simp [tdOf]
theorem tdOf_at (ls : List TileR) (k : Nat) (t : TileR) (h : ls[k]? = some t) : (tdOf ls).getD k zTile = t.d := by simp [tdOf, List.getD_eq_getElem?_getD, h]
abbrev tileO (t : TileR) : Obj := .cells #[.int .i64 t.d.kind, .int .i64 t.d.parent, .slice t.ba t.bn t.bc] 76
theorem TilesOK.cells {w : World} {a : Option Addr} {n : Nat} {ls : List TileR} (h : TilesOK w a n ls) {k : Nat} (hk : k < n) : ∃ t b o, ls[k]? = some t ∧ (Ints w t.ba t.bn t.d.blocks ∧ t.bn ≤ t.bc ∧ I64 t.d.kind ∧ I64 t.d.parent) ∧ a = some ⟨b, o, none⟩ ∧
    w.cell? ⟨b, o + k * 3, none⟩ = some (.int .i64 t.d.kind) ∧ w.cell? ⟨b, o + k * 3 + 1, none⟩ = some (.int .i64 t.d.parent) ∧ w.cell? ⟨b, o + k * 3 + 2, none⟩ = some (.slice t.ba t.bn t.bc) := by
  have hk' : k < ls.length := by rw [h.1.1]; exact hk
  obtain ⟨b, o, e, hc⟩ := h.1.2.2 k ls[k] (List.getElem?_eq_getElem hk')
  exact ⟨ls[k], b, o, List.getElem?_eq_getElem hk', h.2 _ (List.getElem_mem hk'), e, hc 0 (by omega), hc 1 (by omega), hc 2 (by omega)⟩
set_option maxHeartbeats 1000000 in
theorem parents_any (a : Option Addr) (n c : Nat) (ls : List TileR) (w : World) (h : TilesOK w a n ls) :
    Calls Tryz.prog 92 #[.slice a n c] w fun e w' => e = .returned (.bool (parentsB (tdOf ls))) ∧ Below w.heap.size w w' := by
  have hn := h.1.2.1
  have HL := Lib.hid h.1.1
  have H := Lib.hid h
  clear h
  go_enter Tryz.func92, Tryz.ntmps92
  go_wp2
  go_loopw [7] (fun i wr => ∃ (k : Nat), k ≤ n ∧ i = .int .i64 k ∧ Hid (∀ j, j < k → -1 ≤ parL (tdOf ls) j ∧ parL (tdOf ls) j < j) ∧ Hid (Below w.heap.size w wr)) (fun i _ => n - (intOf i).toNat)
  case atStart => exact ⟨0, by omega, rfl, fun j hj => absurd hj (by omega), Below.refl _ _⟩
  case round =>
    obtain ⟨k, hk, rfl, HR, HB⟩ := hrel
    by_cases hlt : k < n
    · obtain ⟨t, b, o, hlk, hok, rfl, c0, c1, c2⟩ := (H.out.ext HB.out).cells hlt
      obtain ⟨_, _, _, hp1, hp2⟩ := hok
      have htd := tdOf_at ls k t hlk
      have HTD : Hid (parL (tdOf ls) k = t.d.parent) := by rw [Hid, parL, htd]
      clear hlk htd
      have hlt' : (k : Int) < (n : Int) := by omega
      by_cases hg1 : t.d.parent < -1
      · have HE : Hid (parentsB (tdOf ls) = false) := by
          rw [Hid, Bool.eq_false_iff]
          intro h
          have := (parentsB_iff _).1 h k (by rw [tdOf_len, HL.out]; exact hlt)
          rw [HTD.out] at this
          omega
        go_wp2
        go_ret
        exact ⟨by rw [HE.out]; rfl, HB.out.alloc HB.out.size _⟩
      · by_cases hg2 : t.d.parent < k
        · have HR2 : Hid (∀ j, j < k + 1 → -1 ≤ parL (tdOf ls) j ∧ parL (tdOf ls) j < j) := fun j hj => by
            by_cases e : j = k
            · subst e; rw [HTD.out]; omega
            · exact HR.out j (by omega)
          go_wp2
          go_roundw
          case rel => exact ⟨k + 1, by omega, by go_num, HR2, HB.out.alloc HB.out.size _⟩
          case measure => simp [intOf]; omega
        · have HE : Hid (parentsB (tdOf ls) = false) := by
            rw [Hid, Bool.eq_false_iff]
            intro h
            have := (parentsB_iff _).1 h k (by rw [tdOf_len, HL.out]; exact hlt)
            rw [HTD.out] at this
            omega
          go_wp2
          go_ret
          exact ⟨by rw [HE.out]; rfl, HB.out.alloc HB.out.size _⟩
    · obtain rfl : k = n := by omega
      have HE : Hid (parentsB (tdOf ls) = true) := (parentsB_iff _).2 fun j hj => HR.out j (by rw [tdOf_len, HL.out] at hj; exact hj)
      go_wp2
      go_ret
      exact ⟨by rw [HE.out]; rfl, HB.out⟩

open Go.RowKit

/-! ### plain -/
def totL (l : List TileD) : Nat := (l.map fun t => t.blocks.length).sum
theorem sum_take (l : List TileD) : ∀ m, ((l.take m).map fun t => t.blocks.length).sum ≤ totL l := by
  induction l with
  | nil => intro m; simp [totL]
  | cons t l ih =>
    intro m
    cases m with
    | zero => simp [totL]
    | succ m => have := ih m; simp only [totL, List.take_succ_cons, List.map_cons, List.sum_cons] at this ⊢; omega
theorem blkL_le (l : List TileD) (k : Nat) : (blkL l k).length ≤ totL l := by
  induction l generalizing k with
  | nil => simp [totL, blkL]
  | cons t l ih =>
    cases k with
    | zero => simp [totL, blkL]
    | succ k => have := ih k; simp only [totL, List.map_cons, List.sum_cons, blkL, List.getD_cons_succ] at this ⊢; omega
theorem rawL_len (l : List TileD) (k m : Nat) (hm : m ≤ l.length) : (rawL l k m).length ≤ 2 * totL l := by
  have h1 : ∀ m, m ≤ l.length → (((List.range m).filter fun n => n != k && descB l k n).flatMap (blkL l)).length ≤ ((l.take m).map fun t => t.blocks.length).sum := by
    intro m
    induction m with
    | zero => intro _; simp
    | succ m ih =>
      intro hm
      have := ih (by omega)
      rw [List.range_succ, List.filter_append, List.flatMap_append, List.length_append, List.take_add_one, List.getElem?_eq_getElem (by omega), List.map_append, List.sum_append]
      have e : (blkL l m).length = (l[m]'(by omega)).blocks.length := by simp [blkL, List.getD_eq_getElem?_getD, show m < l.length by omega]
      by_cases hc : (m != k && descB l k m) = true
      · simp only [List.filter_cons, hc, if_true, List.filter_nil, List.flatMap_cons, List.flatMap_nil, List.append_nil, Option.toList_some, List.map_cons, List.map_nil, List.sum_cons, List.sum_nil]
        omega
      · have hc' : (m != k && descB l k m) = false := by simpa using hc
        simp only [List.filter_cons, hc', List.filter_nil, Option.toList_some, List.map_cons, List.map_nil, List.sum_cons, List.sum_nil]
        simp only [Bool.false_eq_true, if_false, List.flatMap_nil, List.length_nil]
        omega
  have h2 := h1 m hm
  have h3 := sum_take l m
  have h4 := blkL_le l k
  rw [rawL, List.length_append]
  omega
theorem rawL_zero (l : List TileD) (k : Nat) : rawL l k 0 = blkL l k := by simp [rawL]
/-- is a tile's parent one of those? -/
def upB (l : List TileD) (k m : Nat) : Bool := decide (0 ≤ parL l m) && descB l k (parL l m).toNat
theorem upB_self {l : List TileD} (hp : parentsB l = true) (k : Nat) (hk : k < l.length) : upB l k k = false := by
  rw [Bool.eq_false_iff]
  intro h
  simp only [upB, Bool.and_eq_true, decide_eq_true_eq] at h
  have h1 := (parentsB_iff l).1 hp k hk
  have := descB_ge hp k _ (by omega) h.2
  omega
theorem rawL_step {l : List TileD} (hp : parentsB l = true) (k m : Nat) (hk : k < l.length) (hm : m < l.length) : rawL l k (m + 1) = if upB l k m then rawL l k m ++ blkL l m else rawL l k m := by
  have e : (m != k && descB l k m) = upB l k m := by
    by_cases h : m = k
    · subst h; rw [upB_self hp m hm]; simp
    · have h1 : (m != k) = true := by simpa using h
      have h2 : (m == k) = false := by simpa using h
      rw [h1, Bool.true_and, descB_eq hp k m hm, h2, Bool.false_or]
      rfl
  simp only [rawL, List.range_succ, List.filter_append, List.filter_cons, List.filter_nil, e, List.flatMap_append]
  cases upB l k m <;> simp
/-- the map of those that have been found -/
def belowF (l : List TileD) (k m : Nat) : Int → Option Value := fun x => if x = k ∨ (0 ≤ x ∧ x < m ∧ descB l k x.toNat = true) then some (.int .i64 1) else none
theorem belowF_zero (l : List TileD) (k : Nat) : upd (fun _ => none) (k : Int) (.int .i64 1) = belowF l k 0 := by
  funext x
  by_cases e : x = k
  · simp [upd, belowF, e]
  · have : ¬ (0 ≤ x ∧ x < ((0 : Nat) : Int) ∧ descB l k x.toNat = true) := fun h => by omega
    simp only [upd, belowF, if_neg e]
    rw [if_neg (fun h => h.elim e this)]
theorem belowF_step {l : List TileD} (hp : parentsB l = true) (k m : Nat) (hk : k < l.length) (hm : m < l.length) : belowF l k (m + 1) = if upB l k m then upd (belowF l k m) (m : Int) (.int .i64 1) else belowF l k m := by
  funext x
  have hd : m ≠ k → descB l k m = upB l k m := fun h => by
    have h2 : (m == k) = false := by simpa using h
    rw [descB_eq hp k m hm, h2, Bool.false_or]
    rfl
  by_cases e : x = m
  · subst e
    by_cases hmk : m = k
    · subst hmk
      rw [upB_self hp m hm]
      simp [belowF]
    · have hne : ¬ (m : Int) = k := by omega
      cases hu : upB l k m with
      | true =>
        have : belowF l k (m + 1) (m : Int) = some (.int .i64 1) := by
          unfold belowF
          rw [if_pos (.inr ⟨by omega, by omega, by simpa [hd hmk] using hu⟩)]
        rw [this]; simp [upd]
      | false =>
        have h1 : belowF l k (m + 1) (m : Int) = none := by
          unfold belowF
          rw [if_neg]
          rintro (h | ⟨_, _, h⟩)
          · exact hne h
          · rw [Int.toNat_natCast, hd hmk, hu] at h; cases h
        have h2 : belowF l k m (m : Int) = none := by
          unfold belowF
          rw [if_neg]
          rintro (h | ⟨_, h, _⟩)
          · exact hne h
          · omega
        rw [h1]; simp [h2]
  · have h1 : belowF l k (m + 1) x = belowF l k m x := by
      unfold belowF
      congr 1
      rw [eq_iff_iff]
      constructor
      · rintro (h | ⟨a, b, c⟩)
        · exact .inl h
        · exact .inr ⟨a, by omega, c⟩
      · rintro (h | ⟨a, b, c⟩)
        · exact .inl h
        · exact .inr ⟨a, by omega, c⟩
    rw [h1]
    cases upB l k m <;> simp [upd, e]
theorem belowF_par {l : List TileD} (hp : parentsB l = true) (k m : Nat) (hm : m < l.length) : (decide (0 ≤ parL l m) && (belowF l k m (parL l m)).isSome) = upB l k m := by
  have h1 := (parentsB_iff l).1 hp m hm
  unfold upB
  by_cases h0 : 0 ≤ parL l m
  · rw [decide_eq_true h0, Bool.true_and, Bool.true_and]
    unfold belowF
    by_cases hd : descB l k (parL l m).toNat = true
    · rw [if_pos (.inr ⟨h0, by omega, hd⟩), hd]; rfl
    · rw [if_neg]
      · have : descB l k (parL l m).toNat = false := by simpa using hd
        rw [this]; rfl
      · rintro (h | ⟨_, _, h⟩)
        · rw [h, Int.toNat_natCast, descB_self] at hd; exact hd rfl
        · exact hd h
  · rw [decide_eq_false h0]; rfl
/-- each number once, of a list that rises -/
theorem compact_inv (d : Array Int) (hs : ∀ i, i + 1 < d.size → d[i]! ≤ d[i + 1]!) : ∀ m, m ≤ d.size → (Lib.compactUpTo d m).Pairwise (· < ·) ∧ (∀ y, y ∈ Lib.compactUpTo d m ↔ ∃ j, j < m ∧ d[j]! = y) ∧ (0 < m → ∀ y ∈ Lib.compactUpTo d m, y ≤ d[m - 1]!) := by
  intro m
  induction m with
  | zero => intro _; refine ⟨by simp [Lib.compactUpTo], fun y => ⟨fun h => by simp [Lib.compactUpTo] at h, fun ⟨j, h, _⟩ => by omega⟩, fun h => by omega⟩
  | succ m ih =>
    intro hm
    obtain ⟨h1, h2, h3⟩ := ih (by omega)
    rw [Lib.compactUpTo_succ]
    have hle : 0 < m → ∀ y ∈ Lib.compactUpTo d m, y ≤ d[m]! := fun h0 y hy => by
      have := h3 h0 y hy
      have h4 := hs (m - 1) (by omega)
      rw [show m - 1 + 1 = m by omega] at h4
      omega
    by_cases hk : Lib.keeps d m = true
    · rw [if_pos hk]
      have hlt : ∀ y ∈ Lib.compactUpTo d m, y < d[m]! := fun y hy => by
        have h0 : 0 < m := by
          rcases Nat.eq_zero_or_pos m with e | e
          · subst e; simp [Lib.compactUpTo] at hy
          · exact e
        simp only [Lib.keeps, decide_eq_true_eq] at hk
        have hk := hk.resolve_left (by omega)
        have := h3 h0 y hy
        have h4 := hs (m - 1) (by omega)
        rw [show m - 1 + 1 = m by omega] at h4
        omega
      refine ⟨?_, fun y => ?_, fun _ y hy => ?_⟩
      · rw [List.pairwise_append]
        exact ⟨h1, by simp, fun y hy z hz => by simp at hz; subst hz; exact hlt y hy⟩
      · rw [List.mem_append, h2]
        constructor
        · rintro (⟨j, hj, e⟩ | h)
          · exact ⟨j, by omega, e⟩
          · simp at h; exact ⟨m, by omega, h.symm⟩
        · rintro ⟨j, hj, e⟩
          by_cases hjm : j = m
          · subst hjm; exact .inr (by simp [e])
          · exact .inl ⟨j, by omega, e⟩
      · rcases List.mem_append.1 hy with hy | hy
        · have := hlt y hy; simp; omega
        · simp at hy; subst hy; simp
    · rw [if_neg hk, List.append_nil]
      have hk' : m ≠ 0 ∧ d[m]! = d[m - 1]! := by
        simp only [Lib.keeps, decide_eq_true_eq, not_or] at hk
        exact ⟨hk.1, Classical.not_not.1 hk.2⟩
      refine ⟨h1, fun y => ?_, fun _ y hy => by have := hle (by omega) y hy; simpa using this⟩
      rw [h2]
      constructor
      · rintro ⟨j, hj, e⟩; exact ⟨j, by omega, e⟩
      · rintro ⟨j, hj, e⟩
        by_cases hjm : j = m
        · subst hjm; exact ⟨j - 1, by omega, by rw [← hk'.2, e]⟩
        · exact ⟨j, by omega, e⟩
theorem compact_sort (xs : List Int) : Lib.compact (xs.mergeSort fun x y => decide (x ≤ y)) = sortD xs := by
  have hp := List.mergeSort_perm xs fun x y => decide (x ≤ y)
  have hso := List.pairwise_mergeSort (le := fun x y : Int => decide (x ≤ y)) (fun a b c h1 h2 => by simp at *; omega) (fun a b => by simp; omega) xs
  generalize xs.mergeSort (fun x y => decide (x ≤ y)) = ys at *
  have hs : ∀ i, i + 1 < ys.toArray.size → ys.toArray[i]! ≤ ys.toArray[i + 1]! := fun i hi => by
    have hi' : i + 1 < ys.length := by simpa using hi
    have := List.pairwise_iff_getElem.1 hso i (i + 1) (by omega) hi' (by omega)
    simp at this
    simp [show i < ys.length by omega, hi']
    exact this
  have h := compact_inv ys.toArray hs ys.length (by simp)
  refine sorted_eq _ _ h.1 (sorted_sortD xs) fun y => ?_
  rw [mem_sortD, ← hp.mem_iff]
  show y ∈ Lib.compactUpTo ys.toArray ys.length ↔ _
  rw [h.2.1]
  constructor
  · rintro ⟨j, hj, rfl⟩; simp [hj]
  · intro hy
    obtain ⟨j, hj, e⟩ := List.mem_iff_getElem.1 hy
    exact ⟨j, hj, by simp [hj, e]⟩
end Go.Proofs.YtblhmdhfhaencaaGreat
