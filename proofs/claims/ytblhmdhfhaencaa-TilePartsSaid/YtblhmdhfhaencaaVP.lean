/-
 Sorting in place, plain: what swaps leave, rotations, merging of two sorted runs (SymMerge), insertion. No program in sight.
-/
import Derived.Test.YtblhmdhfhaencaaEQ
import Derived.Test.YtblhmdhfhaencaaRows
import Derived.Test.YtblhmdhfhaencaaBS
import Derived.Test.YtblhmdhfhaencaaCP
import Derived.Test.YtblhmdhfhaencaaQT
namespace Go.Proofs.Ytblhmdhfhaencaa
set_option linter.unusedSimpArgs false
set_option linter.unusedVariables false
set_option linter.unusedSectionVars false
set_option maxRecDepth 100000
set_option maxHeartbeats 40000000
section
section
variable {α : Type} (z : α) (key : α → Nat)
def swapL (L : List α) (i j : Nat) : List α := (L.set i (L.getD j z)).set j (L.getD i z)
theorem getD_set (L : List α) (i : Nat) (x : α) (k : Nat) (hi : i < L.length) : (L.set i x).getD k z = if k = i then x else L.getD k z := by
 rw [List.getD_eq_getElem?_getD, List.getElem?_set, List.getD_eq_getElem?_getD]
 by_cases e : i = k
 · subst e; simp [hi]
 · rw [if_neg e, if_neg (fun h => e h.symm)]
theorem swapL_len (L : List α) (i j : Nat) : (swapL z L i j).length = L.length := by simp [swapL]
theorem swapL_at (L : List α) {i j : Nat} (hi : i < L.length) (hj : j < L.length) (k : Nat) : (swapL z L i j).getD k z = if k = j then L.getD i z else if k = i then L.getD j z else L.getD k z := by
 rw [swapL, getD_set z _ j _ k (by simpa using hj), getD_set z _ i _ k hi]
theorem swap_perm1 (A B C : List α) (x y : α) : (A ++ y :: (B ++ x :: C)).Perm (A ++ x :: (B ++ y :: C)) := by
 refine List.Perm.append_left A ?_
 have h1 : (y :: (B ++ x :: C)).Perm (x :: (y :: (B ++ C))) := ((List.perm_middle (a := x) (l₁ := B) (l₂ := C)).cons y).trans (List.Perm.swap x y _)
 exact h1.trans ((List.perm_middle (a := y) (l₁ := B) (l₂ := C)).symm.cons x)
theorem swapL_perm_lt (L : List α) {i j : Nat} (hij : i < j) (hj : j < L.length) : (swapL z L i j).Perm L ∧ (swapL z L j i).Perm L := by
 obtain ⟨A, x, L1, rfl, hA⟩ : ∃ A x L1, L = A ++ x :: L1 ∧ A.length = i := ⟨L.take i, L[i]'(by omega), L.drop (i + 1), by rw [← List.drop_eq_getElem_cons, List.take_append_drop], by simp; omega⟩
 obtain ⟨B, y, C, rfl, hB⟩ : ∃ B y C, L1 = B ++ y :: C ∧ B.length = j - i - 1 := by
  have hl : j - i - 1 < L1.length := by simp at hj; omega
  exact ⟨L1.take (j - i - 1), L1[j - i - 1]'hl, L1.drop (j - i - 1 + 1), by rw [← List.drop_eq_getElem_cons, List.take_append_drop], by simp; omega⟩
 have ei : (A ++ x :: (B ++ y :: C)).getD i z = x := by rw [← hA]; simp [List.getD_eq_getElem?_getD]
 have ej : (A ++ x :: (B ++ y :: C)).getD j z = y := by
  have : j = A.length + (B.length + 1) := by omega
  rw [this]; simp [List.getD_eq_getElem?_getD]
 have e1 : swapL z (A ++ x :: (B ++ y :: C)) i j = A ++ y :: (B ++ x :: C) := by
  rw [swapL, ei, ej]
  have h1 : (A ++ x :: (B ++ y :: C)).set i y = A ++ y :: (B ++ y :: C) := by rw [← hA]; simp
  have h2 : j = A.length + (B.length + 1) := by omega
  rw [h1, h2]
  simp
 have e2 : swapL z (A ++ x :: (B ++ y :: C)) j i = A ++ y :: (B ++ x :: C) := by
  rw [swapL, ei, ej]
  have h2 : j = A.length + (B.length + 1) := by omega
  have h1 : (A ++ x :: (B ++ y :: C)).set j x = A ++ x :: (B ++ x :: C) := by rw [h2]; simp
  rw [h1, ← hA]
  simp
 rw [e1, e2]
 exact ⟨swap_perm1 A B C x y, swap_perm1 A B C x y⟩
theorem swapL_perm (L : List α) {i j : Nat} (hi : i < L.length) (hj : j < L.length) : (swapL z L i j).Perm L := by
 rcases Nat.lt_trichotomy i j with h | h | h
 · exact (swapL_perm_lt z L h hj).1
 · subst h
   have : swapL z L i i = L := by
    rw [swapL, List.set_set]
    apply List.ext_getElem?
    intro k
    rw [List.getElem?_set]
    by_cases e : i = k
    · subst e; simp [List.getD_eq_getElem?_getD, hi]
    · rw [if_neg e]
   rw [this]
 · exact (swapL_perm_lt z L h hi).2

/-- shuffled within [a, b) -/
structure Sh (L L' : List α) (a b : Nat) : Prop where
 len : L'.length = L.length
 perm : L'.Perm L
 out : ∀ k, k < a ∨ b ≤ k → L'.getD k z = L.getD k z
 inn : ∀ k, a ≤ k → k < b → ∃ k', a ≤ k' ∧ k' < b ∧ L'.getD k z = L.getD k' z
variable {z}
theorem Sh.refl (L : List α) (a b : Nat) : Sh z L L a b := ⟨rfl, List.Perm.refl _, fun _ _ => rfl, fun k h1 h2 => ⟨k, h1, h2, rfl⟩⟩
theorem Sh.trans {L1 L2 L3 : List α} {a b : Nat} (h : Sh z L1 L2 a b) (k : Sh z L2 L3 a b) : Sh z L1 L3 a b where
 len := k.len.trans h.len
 perm := k.perm.trans h.perm
 out := fun j hj => (k.out j hj).trans (h.out j hj)
 inn := fun j h1 h2 => by
  obtain ⟨j', h3, h4, e⟩ := k.inn j h1 h2
  obtain ⟨j'', h5, h6, e2⟩ := h.inn j' h3 h4
  exact ⟨j'', h5, h6, e.trans e2⟩
theorem Sh.mono {L L' : List α} {a b a' b' : Nat} (h : Sh z L L' a b) (ha : a' ≤ a) (hb : b ≤ b') : Sh z L L' a' b' where
 len := h.len
 perm := h.perm
 out := fun k hk => h.out k (by omega)
 inn := fun k h1 h2 => by
  by_cases hk : a ≤ k ∧ k < b
  · obtain ⟨k', h3, h4, e⟩ := h.inn k hk.1 hk.2
    exact ⟨k', by omega, by omega, e⟩
  · exact ⟨k, h1, h2, h.out k (by omega)⟩
theorem Sh.swap (L : List α) {i j a b : Nat} (hi : a ≤ i ∧ i < b) (hj : a ≤ j ∧ j < b) (hb : b ≤ L.length) : Sh z L (swapL z L i j) a b where
 len := swapL_len z L i j
 perm := swapL_perm z L (by omega) (by omega)
 out := fun k hk => by rw [swapL_at z L (by omega) (by omega), if_neg (by omega), if_neg (by omega)]
 inn := fun k h1 h2 => by
  rw [swapL_at z L (by omega) (by omega)]
  by_cases e : k = j
  · exact ⟨i, hi.1, hi.2, by rw [if_pos e]⟩
  · by_cases e2 : k = i
    · exact ⟨j, hj.1, hj.2, by rw [if_neg e, if_pos e2]⟩
    · exact ⟨k, h1, h2, by rw [if_neg e, if_neg e2]⟩
abbrev kAt (z : α) (key : α → Nat) (L : List α) (k : Nat) : Nat := key (L.getD k z)
/-- sorted in [a, b) -/
def Srt (z : α) (key : α → Nat) (L : List α) (a b : Nat) : Prop := ∀ i j, a ≤ i → i < j → j < b → kAt z key L i ≤ kAt z key L j
theorem Srt.le {L : List α} {a b : Nat} (h : Srt z key L a b) {i j : Nat} (ha : a ≤ i) (hij : i ≤ j) (hb : j < b) : kAt z key L i ≤ kAt z key L j := by
 rcases Nat.lt_or_eq_of_le hij with h1 | h1
 · exact h i j ha h1 hb
 · subst h1; exact Nat.le_refl _
theorem Srt.one (L : List α) {a b : Nat} (h : b ≤ a + 1) : Srt z key L a b := fun i j _ _ _ => by omega
theorem Srt.sub {L : List α} {a b a' b' : Nat} (h : Srt z key L a b) (ha : a ≤ a') (hb : b' ≤ b) : Srt z key L a' b' := fun i j h1 h2 h3 => h i j (by omega) h2 (by omega)
theorem Srt.out {L L' : List α} {a b c d : Nat} (h : Srt z key L c d) (hs : Sh z L L' a b) (hd : d ≤ a ∨ b ≤ c) : Srt z key L' c d := fun i j h1 h2 h3 => by
 rw [kAt, kAt, hs.out i (by omega), hs.out j (by omega)]
 exact h i j h1 h2 h3

/-! ### insertion -/
/-- all of [a, i] sorted but for the one at j, which goes down -/
structure InsJ (z : α) (key : α → Nat) (L : List α) (a i j : Nat) : Prop where
 low : a ≤ j ∧ j ≤ i
 rest : ∀ x y, a ≤ x → x < y → y ≤ i → x ≠ j → y ≠ j → kAt z key L x ≤ kAt z key L y
 up : ∀ y, j < y → y ≤ i → kAt z key L j ≤ kAt z key L y
theorem InsJ.start {L : List α} {a i : Nat} (h : Srt z key L a i) (ha : a ≤ i) : InsJ z key L a i i := ⟨⟨ha, Nat.le_refl _⟩, fun x y h1 h2 h3 _ h5 => h x y h1 h2 (by omega), fun y h1 h2 => by omega⟩
theorem InsJ.step {L : List α} {a i j : Nat} (h : InsJ z key L a i j) (hj : a < j) (hi : i < L.length) (hc : kAt z key L j ≤ kAt z key L (j - 1)) : InsJ z key (swapL z L j (j - 1)) a i (j - 1) := by
 obtain ⟨⟨h1, h2⟩, h3, h4⟩ := h
 have hat := swapL_at z L (i := j) (j := j - 1) (by omega) (by omega)
 refine ⟨⟨by omega, by omega⟩, fun x y hx hxy hy hxj hyj => ?_, fun y hy1 hy2 => ?_⟩
 · simp only [kAt, hat]
   rw [if_neg hxj, if_neg hyj]
   by_cases ex : x = j
   · rw [if_pos ex, if_neg (by omega)]
     exact h3 (j - 1) y (by omega) (by omega) hy (by omega) (by omega)
   · rw [if_neg ex]
     by_cases ey : y = j
     · rw [if_pos ey]
       exact h3 x (j - 1) hx (by omega) (by omega) ex (by omega)
     · rw [if_neg ey]
       exact h3 x y hx hxy hy ex ey
 · simp only [kAt, hat]
   rw [if_pos True.intro, if_neg (by omega)]
   by_cases ey : y = j
   · rw [if_pos ey]; exact hc
   · rw [if_neg ey]; exact h4 y (by omega) hy2
theorem InsJ.fin {L : List α} {a i j : Nat} (h : InsJ z key L a i j) (hc : j = a ∨ kAt z key L (j - 1) ≤ kAt z key L j) : Srt z key L a (i + 1) := by
 obtain ⟨⟨h1, h2⟩, h3, h4⟩ := h
 intro x y hx hxy hy
 by_cases ex : x = j
 · subst ex; exact h4 y hxy (by omega)
 · by_cases ey : y = j
   · subst ey
     have hc2 := hc.resolve_left (by omega)
     by_cases e : x = y - 1
     · subst e; exact hc2
     · exact Nat.le_trans (h3 x (y - 1) hx (by omega) (by omega) ex (by omega)) hc2
   · exact h3 x y hx hxy (by omega) ex ey
end

/-! ### rotation -/
section
variable {β : Type}
def swapR (f : Nat → β) (a b n : Nat) (k : Nat) : β := if a ≤ k ∧ k < a + n then f (k + (b - a)) else if b ≤ k ∧ k < b + n then f (k - (b - a)) else f k
def rotR (f : Nat → β) (a m b : Nat) (k : Nat) : β := if a ≤ k ∧ k < a + (b - m) then f (k + (m - a)) else if a + (b - m) ≤ k ∧ k < b then f (k - (b - m)) else f k
theorem rot_step1 (f : Nat → β) {m i j : Nat} (hi : i ≤ m) (hij : j < i) : rotR (swapR f (m - i) m j) (m - (i - j)) m (m + j) = rotR f (m - i) m (m + j) := by
 obtain ⟨p, rfl⟩ : ∃ p, m = p + i := ⟨m - i, by omega⟩
 obtain ⟨d, rfl⟩ : ∃ d, i = j + d := ⟨i - j, by omega⟩
 have e1 : p + (j + d) - (j + d) = p := by omega
 have e2 : p + (j + d) - (j + d - j) = p + j := by omega
 have e3 : p + (j + d) + j - (p + (j + d)) = j := by omega
 have e4 : p + (j + d) - p = j + d := by omega
 have e5 : p + (j + d) - (p + j) = d := by omega
 funext k
 simp only [rotR, swapR, e1, e2, e3, e4, e5]
 repeat' split
 all_goals first
  | omega
  | rfl
  | (congr 1 <;> omega)
theorem rot_step2 (f : Nat → β) {m i j : Nat} (hi : i ≤ m) (hij : i < j) : rotR (swapR f (m - i) (m + j - i) i) (m - i) m (m + (j - i)) = rotR f (m - i) m (m + j) := by
 obtain ⟨p, rfl⟩ : ∃ p, m = p + i := ⟨m - i, by omega⟩
 obtain ⟨d, rfl⟩ : ∃ d, j = i + d := ⟨j - i, by omega⟩
 have e1 : p + i - i = p := by omega
 have e2 : p + i + (i + d) - i = p + i + d := by omega
 have e3 : p + i + (i + d - i) = p + i + d := by omega
 have e4 : p + i + d - (p + i) = d := by omega
 have e5 : p + i - p = i := by omega
 have e6 : p + i + (i + d) - (p + i) = i + d := by omega
 have e7 : p + i + d - p = i + d := by omega
 funext k
 simp only [rotR, swapR, e1, e2, e3, e4, e5, e6, e7]
 repeat' split
 all_goals first
  | omega
  | rfl
  | (congr 1 <;> omega)
theorem rot_last (f : Nat → β) {m i : Nat} (hi : i ≤ m) : swapR f (m - i) m i = rotR f (m - i) m (m + i) := by
 obtain ⟨p, rfl⟩ : ∃ p, m = p + i := ⟨m - i, by omega⟩
 have e1 : p + i - i = p := by omega
 have e2 : p + i + i - (p + i) = i := by omega
 have e3 : p + i - p = i := by omega
 funext k
 simp only [rotR, swapR, e1, e2, e3]
 repeat' split
 all_goals first
  | omega
  | rfl
  | (congr 1 <;> omega)
theorem swapR_step (f : Nat → β) (a b n : Nat) (hab : a + n < b) (k : Nat) : (if k = b + n then swapR f a b n (a + n) else if k = a + n then swapR f a b n (b + n) else swapR f a b n k) = swapR f a b (n + 1) k := by
 simp only [swapR]
 repeat' split
 all_goals first
  | omega
  | rfl
  | (congr 1 <;> omega)
theorem swapR_zero (f : Nat → β) (a b : Nat) (k : Nat) : swapR f a b 0 k = f k := by
 simp only [swapR]
 repeat' split
 all_goals first
  | omega
  | rfl
  | (congr 1 <;> omega)
end

/-! ### SymMerge -/
section
variable {α : Type} {z : α} {key : α → Nat}
/-- what the search finds -/
structure Found (z : α) (key : α → Nat) (L : List α) (a m b st : Nat) : Prop where
 low : a ≤ st ∧ st ≤ m ∧ st ≤ (a + b) / 2
 high : m ≤ (a + b) / 2 + m - st ∧ (a + b) / 2 + m - st ≤ b
 one : ∀ x y, a ≤ x → x < st → (a + b) / 2 + m - st ≤ y → y < b → kAt z key L x ≤ kAt z key L y
 two : ∀ x y, m ≤ x → x < (a + b) / 2 + m - st → st ≤ y → y < m → kAt z key L x ≤ kAt z key L y
def s0 (a m b : Nat) : Nat := if (a + b) / 2 < m then (a + b) / 2 + m - b else a
def r0 (a m b : Nat) : Nat := if (a + b) / 2 < m then (a + b) / 2 else m
theorem found_bounds {a m b : Nat} (ham : a < m) (hmb : m < b) : a ≤ s0 a m b ∧ s0 a m b ≤ r0 a m b ∧ r0 a m b ≤ m ∧ (∀ c, s0 a m b ≤ c → c < r0 a m b → m ≤ (a + b) / 2 + m - 1 - c ∧ (a + b) / 2 + m - 1 - c < b ∧ c < m) := by
 unfold s0 r0
 split
 all_goals refine ⟨by omega, by omega, by omega, fun c h1 h2 => ⟨by omega, by omega, by omega⟩⟩
theorem found_of {L : List α} {a m b st : Nat} (ham : a < m) (hmb : m < b) (h1 : Srt z key L a m) (h2 : Srt z key L m b) (hlo : s0 a m b ≤ st) (hhi : st ≤ r0 a m b)
  (hl : st = s0 a m b ∨ kAt z key L (st - 1) ≤ kAt z key L ((a + b) / 2 + m - 1 - (st - 1))) (hr : st = r0 a m b ∨ kAt z key L ((a + b) / 2 + m - 1 - st) ≤ kAt z key L st) : Found z key L a m b st := by
 have hb := found_bounds ham hmb
 obtain ⟨b1, b2, b3, b4⟩ := hb
 have hs : a ≤ st ∧ st ≤ m ∧ st ≤ (a + b) / 2 := by
  unfold s0 at hlo; unfold r0 at hhi
  split at hlo <;> (first | (rw [if_pos (by assumption)] at hhi) | (rw [if_neg (by assumption)] at hhi)) <;> omega
 have hs2 : m ≤ (a + b) / 2 + m - st ∧ (a + b) / 2 + m - st ≤ b := by
  unfold s0 at hlo; unfold r0 at hhi
  split at hlo <;> (first | (rw [if_pos (by assumption)] at hhi) | (rw [if_neg (by assumption)] at hhi)) <;> omega
 refine ⟨hs, hs2, fun x y hx1 hx2 hy1 hy2 => ?_, fun x y hx1 hx2 hy1 hy2 => ?_⟩
 · rcases hl with hl | hl
   · exfalso
     rw [hl] at hx2 hy1
     unfold s0 at hx2 hy1
     split at hx2 <;> (first | (rw [if_pos (by assumption)] at hy1) | (rw [if_neg (by assumption)] at hy1)) <;> omega
   · have e : (a + b) / 2 + m - 1 - (st - 1) = (a + b) / 2 + m - st := by omega
     rw [e] at hl
     exact Nat.le_trans (h1.le key hx1 (by omega) (by omega)) (Nat.le_trans hl (h2.le key (by omega) hy1 hy2))
 · rcases hr with hr | hr
   · exfalso
     rw [hr] at hx2 hy1
     unfold r0 at hx2 hy1
     split at hx2 <;> (first | (rw [if_pos (by assumption)] at hy1) | (rw [if_neg (by assumption)] at hy1)) <;> omega
   · have e : (a + b) / 2 + m - 1 - st = (a + b) / 2 + m - st - 1 := by omega
     rw [e] at hr
     exact Nat.le_trans (h2.le key hx1 (by omega) (by omega)) (Nat.le_trans hr (h1.le key (by omega) hy1 hy2))
/-- what holds behind the rotation -/
structure MidJ (z : α) (key : α → Nat) (L : List α) (a st mid en b : Nat) : Prop where
 s1 : Srt z key L a st
 s2 : Srt z key L st mid
 s3 : Srt z key L mid en
 s4 : Srt z key L en b
 cross : ∀ x y, a ≤ x → x < mid → mid ≤ y → y < b → kAt z key L x ≤ kAt z key L y
theorem mid_of {L L' : List α} {a m b st : Nat} (h1 : Srt z key L a m) (h2 : Srt z key L m b) (hf : Found z key L a m b st) (hr : ∀ k, L'.getD k z = rotR (fun k => L.getD k z) st m ((a + b) / 2 + m - st) k) :
  MidJ z key L' a st ((a + b) / 2) ((a + b) / 2 + m - st) b := by
 obtain ⟨⟨f1, f2, f5⟩, ⟨f3, f4⟩, g1, g2⟩ := hf
 generalize hmid : (a + b) / 2 = mid at *
 have e1 : ∀ k, k < st → L'.getD k z = L.getD k z := fun k hk => by rw [hr]; unfold rotR; rw [if_neg (by omega), if_neg (by omega)]
 have e2 : ∀ k, st ≤ k → k < mid → L'.getD k z = L.getD (k + (m - st)) z := fun k hk hk2 => by rw [hr]; unfold rotR; rw [if_pos (by omega)]
 have e3 : ∀ k, mid ≤ k → k < mid + m - st → L'.getD k z = L.getD (k - (mid - st)) z := fun k hk hk2 => by
  rw [hr]; unfold rotR; rw [if_neg (by omega), if_pos (by omega)]
  congr 1; omega
 have e4 : ∀ k, mid + m - st ≤ k → L'.getD k z = L.getD k z := fun k hk => by rw [hr]; unfold rotR; rw [if_neg (by omega), if_neg (by omega)]
 refine ⟨fun i j hi hij hj => ?_, fun i j hi hij hj => ?_, fun i j hi hij hj => ?_, fun i j hi hij hj => ?_, fun x y hx1 hx2 hy1 hy2 => ?_⟩
 · rw [kAt, kAt, e1 i (by omega), e1 j hj]; exact h1 i j hi hij (by omega)
 · rw [kAt, kAt, e2 i hi (by omega), e2 j (by omega) hj]; exact h2 _ _ (by omega) (by omega) (by omega)
 · rw [kAt, kAt, e3 i hi (by omega), e3 j (by omega) hj]; exact h1 _ _ (by omega) (by omega) (by omega)
 · rw [kAt, kAt, e4 i hi, e4 j (by omega)]; exact h2 i j (by omega) hij hj
 · by_cases hx : x < st
   · by_cases hy : y < mid + m - st
     · rw [kAt, kAt, e1 x hx, e3 y hy1 hy]; exact h1 _ _ hx1 (by omega) (by omega)
     · rw [kAt, kAt, e1 x hx, e4 y (by omega)]; exact g1 x y hx1 hx (by omega) hy2
   · by_cases hy : y < mid + m - st
     · rw [kAt, kAt, e2 x (by omega) hx2, e3 y hy1 hy]; exact g2 _ _ (by omega) (by omega) (by omega) (by omega)
     · rw [kAt, kAt, e2 x (by omega) hx2, e4 y (by omega)]; exact h2 _ _ (by omega) (by omega) hy2
/-- both halves sorted, all of the first at most all of the second: sorted -/
theorem Srt.join {L L1 L2 : List α} {a mid b : Nat} (hc : ∀ x y, a ≤ x → x < mid → mid ≤ y → y < b → kAt z key L x ≤ kAt z key L y) (hs1 : Sh z L L1 a mid) (hs2 : Sh z L1 L2 mid b) (h1 : Srt z key L1 a mid) (h2 : Srt z key L2 mid b) : Srt z key L2 a b := by
 intro i j hi hij hj
 by_cases hj2 : j < mid
 · rw [kAt, kAt, hs2.out i (by omega), hs2.out j (by omega)]; exact h1 i j hi hij hj2
 · by_cases hi2 : mid ≤ i
   · exact h2 i j hi2 hij hj
   · obtain ⟨j', h3, h4, e⟩ := hs2.inn j (by omega) hj
     obtain ⟨i', h5, h6, e2⟩ := hs1.inn i hi (by omega)
     rw [kAt, kAt, hs2.out i (by omega), e, e2, hs1.out j' (by omega)]
     exact hc i' j' h5 h6 h3 h4
end
/-! ### one put into a run -/
section
variable {β : Type}
theorem bub_zero (f : Nat → β) (a k : Nat) : rotR f a (a + 1) (a + 1) k = f k := by
 simp only [rotR]
 repeat' split
 all_goals first
  | omega
  | rfl
  | (congr 1 <;> omega)
theorem bub_up (f : Nat → β) {a k : Nat} (h : a ≤ k) (x : Nat) : (if x = k + 1 then rotR f a (a + 1) (k + 1) k else if x = k then rotR f a (a + 1) (k + 1) (k + 1) else rotR f a (a + 1) (k + 1) x) = rotR f a (a + 1) (k + 1 + 1) x := by
 simp only [rotR]
 repeat' split
 all_goals first
  | omega
  | rfl
  | (congr 1 <;> omega)
theorem bub_zero2 (f : Nat → β) (m k : Nat) : rotR f m m (m + 1) k = f k := by
 simp only [rotR]
 repeat' split
 all_goals first
  | omega
  | rfl
  | (congr 1 <;> omega)
theorem bub_down (f : Nat → β) {m k : Nat} (h : k + 1 ≤ m) (x : Nat) : (if x = k then rotR f (k + 1) m (m + 1) (k + 1) else if x = k + 1 then rotR f (k + 1) m (m + 1) k else rotR f (k + 1) m (m + 1) x) = rotR f k m (m + 1) x := by
 simp only [rotR]
 repeat' split
 all_goals first
  | omega
  | rfl
  | (congr 1 <;> omega)
end
section
variable {α : Type} {z : α} {key : α → Nat}
theorem put_left {L L' : List α} {a b i : Nat} (h2 : Srt z key L (a + 1) b) (hi : a + 1 ≤ i) (hib : i ≤ b) (hl : i = a + 1 ∨ kAt z key L (i - 1) ≤ kAt z key L a) (hr : i = b ∨ kAt z key L a ≤ kAt z key L i)
  (he : ∀ k, L'.getD k z = rotR (fun k => L.getD k z) a (a + 1) i k) : Srt z key L' a b := by
 have e1 : ∀ k, a ≤ k → k < i - 1 → L'.getD k z = L.getD (k + 1) z := fun k h1 h2 => by
  rw [he]; unfold rotR; rw [if_pos (by omega)]; congr 1; omega
 have e2 : L'.getD (i - 1) z = L.getD a z := by
  rw [he]; unfold rotR; rw [if_neg (by omega), if_pos (by omega)]; congr 1; omega
 have e3 : ∀ k, i ≤ k → L'.getD k z = L.getD k z := fun k h1 => by
  rw [he]; unfold rotR; rw [if_neg (by omega), if_neg (by omega)]
 intro x y hx hxy hy
 by_cases hy1 : y < i - 1
 · rw [kAt, kAt, e1 x hx (by omega), e1 y (by omega) hy1]; exact h2 _ _ (by omega) (by omega) (by omega)
 · by_cases hy2 : y = i - 1
   · rw [kAt, kAt, hy2, e2, e1 x hx (by omega)]
     exact Nat.le_trans (h2.le key (by omega) (show x + 1 ≤ i - 1 by omega) (by omega)) (hl.resolve_left (by omega))
   · rw [kAt, kAt, e3 y (by omega)]
     by_cases hx1 : x < i - 1
     · rw [e1 x hx hx1]; exact h2.le key (by omega) (by omega) hy
     · by_cases hx2 : x = i - 1
       · rw [hx2, e2]
         exact Nat.le_trans (hr.resolve_left (by omega)) (h2.le key hi (by omega) hy)
       · rw [e3 x (by omega)]; exact h2 x y (by omega) hxy hy
theorem put_right {L L' : List α} {a m i : Nat} (h1 : Srt z key L a m) (hi : a ≤ i) (him : i ≤ m) (hl : i = a ∨ kAt z key L (i - 1) ≤ kAt z key L m) (hr : i = m ∨ kAt z key L m ≤ kAt z key L i)
  (he : ∀ k, L'.getD k z = rotR (fun k => L.getD k z) i m (m + 1) k) : Srt z key L' a (m + 1) := by
 have e1 : ∀ k, k < i → L'.getD k z = L.getD k z := fun k h1 => by
  rw [he]; unfold rotR; rw [if_neg (by omega), if_neg (by omega)]
 have e2 : L'.getD i z = L.getD m z := by
  rw [he]; unfold rotR; rw [if_pos (by omega)]; congr 1; omega
 have e3 : ∀ k, i < k → k < m + 1 → L'.getD k z = L.getD (k - 1) z := fun k h1 h2 => by
  rw [he]; unfold rotR; rw [if_neg (by omega), if_pos (by omega)]; congr 1; omega
 intro x y hx hxy hy
 by_cases hx1 : x < i
 · rw [kAt, kAt, e1 x hx1]
   by_cases hy1 : y < i
   · rw [e1 y hy1]; exact h1 x y hx hxy (by omega)
   · by_cases hy2 : y = i
     · rw [hy2, e2]
       exact Nat.le_trans (h1.le key hx (show x ≤ i - 1 by omega) (by omega)) (hl.resolve_left (by omega))
     · rw [e3 y (by omega) hy]; exact h1.le key hx (by omega) (by omega)
 · by_cases hx2 : x = i
   · rw [kAt, kAt, hx2, e2, e3 y (by omega) hy]
     exact Nat.le_trans (hr.resolve_left (by omega)) (h1.le key hi (by omega) (by omega))
   · rw [kAt, kAt, e3 x (by omega) (by omega), e3 y (by omega) hy]; exact h1.le key (by omega) (by omega) (by omega)
end
end

section
open Go.RowKit

/-- Pick: a number brought into 0 to n - 1 -/
def pickI (x n : Int) : Int := if n < 1 then 0 else x % n
theorem pick_any (x n : Int) (w : World) (hx : I64 x) (hn : I64 n) :
  Calls Try.prog 24 #[.int .i64 x, .int .i64 n] w fun e w' => e = .returned (.int .i64 (pickI x n)) ∧ w = w' := by
 obtain ⟨_, _⟩ := hx
 obtain ⟨_, _⟩ := hn
 by_cases h1 : n < 1
 · have HE : Hid (pickI x n = 0) := if_pos h1
   go_enter Try.func24, Try.ntmps24
   go_wp2
   go_ret
   exact ⟨by rw [HE.out]; rfl, rfl⟩
 · have h2 : 1 ≤ n := by omega
   have hd := @Int.tmod_eq_emod x n
   have e1 := Int.emod_nonneg x (show n ≠ 0 by omega)
   have e2 := Int.emod_lt_of_pos x (show 0 < n by omega)
   have HE : Hid (pickI x n = x % n) := if_neg h1
   rcases Int.lt_or_le x 0 with hx | hx
   · by_cases hv : n ∣ x
     · rw [if_pos (Or.inr hv)] at hd
       have h3 : 0 ≤ x.tmod n := by omega
       have HD := Lib.hid hd
       clear hd hv h1
       go_enter Try.func24, Try.ntmps24
       go_wp2
       go_ret
       exact ⟨ret_int (by rw [HE.out, HD.out]; omega), rfl⟩
     · have hne : x % n ≠ 0 := fun e => hv (Int.dvd_of_emod_eq_zero e)
       rw [if_neg (by intro h; rcases h with h | h; omega; exact hv h)] at hd
       have h3 : x.tmod n < 0 := by omega
       have h4 : -9223372036854775808 ≤ x.tmod n := by omega
       have HD := Lib.hid hd
       clear hd hv h1 hne
       go_enter Try.func24, Try.ntmps24
       go_wp2
       go_ret
       exact ⟨ret_int (by rw [HE.out]; have := HD.out; omega), rfl⟩
   · clear hd h1
     go_enter Try.func24, Try.ntmps24
     go_wp2
     go_ret
     exact ⟨ret_int (by rw [HE.out]), rfl⟩
end

section
def awTs : List TermD := [⟨1, 0, 1, 0⟩, ⟨2, 1, 1, 2⟩, ⟨3, 0, 0, 0⟩]
def awL : List TileD := [⟨1, -1, [0, 2]⟩, ⟨2, 0, [1]⟩]
theorem aw_fits : fitsB awTs = true := by decide +kernel
theorem aw_right : rightB awTs awL = true := by decide +kernel
theorem aw_rows : rowsL awTs awL (fun _ => true) = [⟨⟨0, 0, 1⟩, [], [1]⟩, ⟨⟨1, 1, 2⟩, [1], []⟩] := by rfl
theorem aw_crit : critB awTs ⟨1, 0, 1⟩ = true := by decide +kernel
end

section
open Go.RowKit

theorem sameInts_any (a b : Option Addr) (n m c d : Nat) (xs ys : List Int) (w : World) (h : Ints w a n xs) (h' : Ints w b m ys) :
  Calls Try.prog 29 #[.slice a n c, .slice b m d] w fun e w' => e = .returned (.bool (decide (xs = ys))) ∧ ∃ q, w' = w.drewN q := by
 obtain ⟨hl, hn, hc⟩ := h
 obtain ⟨hl', hn', hc'⟩ := h'
 by_cases hnm : n = m
 · subst hnm
   have HL := Lib.hid hl
   have HC := Lib.hid hc
   have HL' := Lib.hid hl'
   have HC' := Lib.hid hc'
   clear hl hc hl' hc'
   have hne : ((n : Int) != (n : Int)) = false := by simp
   go_enter Try.func29, Try.ntmps29
   go_wp2
   go_loopw [5] (fun i wr => ∃ (k q : Nat), k ≤ n ∧ i = .int .i64 k ∧ wr = w.drewN q ∧ Hid (∀ j, j < k → xs.getD j 0 = ys.getD j 0)) (fun i _ => n - (intOf i).toNat)
   case atStart => exact ⟨0, 0, by omega, rfl, rfl, fun j hj => absurd hj (by omega)⟩
   case round =>
    obtain ⟨k, q, hk, rfl, rfl, HR⟩ := hrel
    by_cases hlt : k < n
    · obtain ⟨b1, o1, rfl, hcell1, hw1, hw2⟩ := HC.out k hlt
      obtain ⟨b2, o2, rfl, hcell2, hw3, hw4⟩ := HC'.out k hlt
      by_cases he : xs.getD k 0 = ys.getD k 0
      · have HE : Hid (∀ j, j < k + 1 → xs.getD j 0 = ys.getD j 0) := fun j hj => by
         by_cases hjk : j = k
         · subst hjk; exact he
         · exact HR.out j (by omega)
        rw [← he] at hcell2
        generalize xs.getD k 0 = y at *
        clear he
        go_wp2
        go_quiet (fail)
        go_wp2
        go_roundw
        case rel => exact ⟨k + 1, _, by omega, by go_num, rfl, HE⟩
        case measure => simp [intOf]; omega
      · have HE : Hid (xs ≠ ys) := fun e => he (by rw [e])
        have hb : (xs.getD k 0 != ys.getD k 0) = true := by simpa using he
        generalize xs.getD k 0 = y at *
        generalize ys.getD k 0 = z at *
        clear he
        go_wp2
        go_quiet (fail)
        go_wp2
        go_ret
        exact ⟨ret_bool (by rw [decide_eq_false HE.out]), _, World.drewN_drewN _ _ _⟩
    · have HE : Hid (xs = ys) := List.ext_getElem (by rw [HL.out, HL'.out]) (fun j h1 h2 => by
       have := HR.out j (by rw [HL.out] at h1; omega)
       simpa [List.getD, h1, h2] using this)
      go_wp2
      go_ret
      exact ⟨ret_bool (by rw [decide_eq_true HE.out]), _, rfl⟩
 · have HE : Hid (xs ≠ ys) := fun e => hnm (by rw [← hl, ← hl', e])
   have hne : ((n : Int) != (m : Int)) = true := by simp; omega
   clear hc hc' hl hl' hnm
   go_enter Try.func29, Try.ntmps29
   go_wp2
   go_ret
   exact ⟨ret_bool (by rw [decide_eq_false HE.out]), 0, rfl⟩
end

section
theorem aw_parts : (partsP awTs).length = 1 := by decide +kernel
theorem aw_built : tilesP 3 (partsP awTs) = awL := by rfl
theorem aw_tiles17 {qs : List PartD} (h : (partsP awTs).Perm qs) : tilesP awTs.length qs = awL := by
 obtain ⟨p, hp⟩ := List.length_eq_one_iff.1 aw_parts
 rw [hp] at h
 have := List.perm_singleton.1 h.symm
 subst this
 rw [← hp]
 exact aw_built
theorem aw_all : (allL awL 0).length = 3 := by decide +kernel
end
end Go.Proofs.Ytblhmdhfhaencaa
