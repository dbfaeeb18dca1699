/-
  Do lists lie apart? What holds at each round of the loops of intarsiakit's flat.. functions. No program in sight.
-/
import Derived.Test.YtkakanjoeofjcaaFlatBase
namespace Go.Proofs.Ytkakanjoeofjcaa
open Go.RowKit

/-- lists that are handed in: the outer list, the rows, each in a block of its own -/
structure FIn (e eo : TypeId) (size base K : Nat) (vo : Value) (rv : Nat → Value) (L : Nat → Nat) (w : World) : Prop where
  outer : w.ownsRow base eo 1 vo K ((List.range K).map rv)
  rows : ∀ j, j < K → ∃ X, w.ownsRow base e size (rv j) (L j) X
  sep : ∀ i j, i < K → j < K → i ≠ j → Sep (rv i) (rv j)
/-- the rows' blocks -/
def SB (K : Nat) (rv : Nat → Value) : Nat → Prop := fun g => ∃ j, j < K ∧ (rv j).ownBlock = some g

structure FA (e eo : TypeId) (size : Nat) (mk : Nat → Nat → List Value) (base K : Nat) (vo : Value) (rv : Nat → Value) (L : Nat → Nat) (w0 : World) (k i : Nat) (w : World) : Prop where
  outer : w.ownsRow base eo 1 vo K ((List.range K).map rv)
  rows : ∀ j, j < K → ∃ X, w.ownsRow base e size (rv j) (L j) X ∧ (j < k → X = mrow mk j (L j)) ∧ (j = k → X.take (i * size) = mrow mk k i)
  chg : Chg (SB K rv) w0 w
structure FB (e eo : TypeId) (size : Nat) (mk : Nat → Nat → List Value) (base K : Nat) (vo : Value) (rv : Nat → Value) (L : Nat → Nat) (w0 : World) (G k : Nat) (gv : Nat → Value) (w : World) : Prop where
  outer : w.ownsRow base eo 1 vo K ((List.range K).map rv)
  rows : ∀ j, j < K → w.ownsRow base e size (rv j) (L j) (mrow mk j (L j))
  gs : w.ownsRow base eo 1 (.slice (some ⟨G, 0, none⟩) K K) K ((List.range K).map fun j => if j < k then gv j else .slice none 0 0)
  gne : vo.ownBlock ≠ some G
  gnew : w0.heap.size ≤ G
  grow : ∀ j, j < k → w.ownsRow base e size (gv j) (L j + 64) (mrow mk j (L j + 64))
  sep1 : ∀ i j, i < K → j < k → i ≠ j → Sep (rv i) (gv j)
  chg : Chg (SB K rv) w0 w
structure FBi (e eo : TypeId) (size : Nat) (mk : Nat → Nat → List Value) (base K : Nat) (vo : Value) (rv : Nat → Value) (L : Nat → Nat) (w0 : World) (G k i : Nat) (gv : Nat → Value) (g : Value) (w : World) : Prop where
  fb : FB e eo size mk base K vo rv L w0 G k gv w
  row : w.ownsRow base e size g (L k + i) (mrow mk k (L k + i))
  s1 : ∀ j, j < K → j ≠ k → Sep (rv j) g
  s2 : ∀ j, j < k → Sep (gv j) g
  blk : ∀ b, g.ownBlock = some b → SB K rv b ∨ w0.heap.size ≤ b
structure FD (e eo : TypeId) (size : Nat) (mk : Nat → Nat → List Value) (base K : Nat) (vo : Value) (rv : Nat → Value) (L : Nat → Nat) (w0 : World) (G k : Nat) (gl : Nat → Value) (w : World) : Prop where
  outer : w.ownsRow base eo 1 vo K ((List.range K).map rv)
  rows : ∀ j, j < K → w.ownsRow base e size (rv j) (L j) (mrow mk j (L j))
  gs : w.ownsRow base eo 1 (.slice (some ⟨G, 0, none⟩) K K) K ((List.range K).map gl)
  gne : vo.ownBlock ≠ some G
  gnew : w0.heap.size ≤ G
  grow : ∀ j, j < k → ∃ Z, w.ownsRow base e size (gl j) (L j + 64) (mrow mk j (L j) ++ Z)
  sep1 : ∀ i j, i < K → j < k → i ≠ j → Sep (rv i) (gl j)
  chg : Chg (SB K rv) w0 w
structure FDi (e eo : TypeId) (size : Nat) (mk : Nat → Nat → List Value) (base K : Nat) (vo : Value) (rv : Nat → Value) (L : Nat → Nat) (w0 : World) (G k : Nat) (gl : Nat → Value) (M : Nat) (w : World) : Prop where
  fd : FD e eo size mk base K vo rv L w0 G k gl w
  many : ∃ Y, w.ownsRow base e size (.slice (some ⟨M, 0, none⟩) 64 64) 64 Y ∧ ∀ u ∈ Y, u.oneCell' = true
  m1 : ∀ j, j < K → (rv j).ownBlock ≠ some M
  m2 : ∀ j, j < k → (gl j).ownBlock ≠ some M
  mnew : w0.heap.size ≤ M

section
variable {e eo : TypeId} {size : Nat} {mk : Nat → Nat → List Value} {base K : Nat} {vo : Value} {rv : Nat → Value} {L : Nat → Nat} {w0 w : World} {G k i : Nat} {gv gl : Nat → Value} {g : Value}

theorem FIn.start (h : FIn e eo size base K vo rv L w0) : FA e eo size mk base K vo rv L w0 0 0 w0 :=
  ⟨h.outer, fun j hj => by
    obtain ⟨X, hX⟩ := h.rows j hj
    exact ⟨X, hX, fun h => absurd h (by omega), fun _ => by simp [mrow]⟩, Chg.refl _ _⟩
theorem FA.drewN (h : FA e eo size mk base K vo rv L w0 k i w) (q : Nat) : FA e eo size mk base K vo rv L w0 k i (w.drewN q) := ⟨h.outer, h.rows, h.chg.drewN q⟩
theorem FA.next (h : FA e eo size mk base K vo rv L w0 k (L k) w) : FA e eo size mk base K vo rv L w0 (k + 1) 0 w :=
  ⟨h.outer, fun j hj => by
    obtain ⟨X, hX, h1, h2⟩ := h.rows j hj
    refine ⟨X, hX, fun hlt => ?_, fun _ => by simp [mrow]⟩
    by_cases hjk : j = k
    · have := h2 hjk
      subst hjk
      rwa [List.take_of_length_le (by rw [hX.1]; exact Nat.le_refl _)] at this
    · exact h1 (by omega), h.chg⟩
theorem FA.row (h : FA e eo size mk base K vo rv L w0 k i w) (hk : k < K) : ∃ a c, rv k = .slice a (L k) c ∧ L k ≤ c ∧ c ≤ maxLen := by
  obtain ⟨X, hX, _⟩ := h.rows k hk
  rcases hX.2 with ⟨e1, e2⟩ | ⟨g, cap, cur, e1, _, _, h1, h2, _⟩
  · exact ⟨none, 0, by rw [e1, e2], by omega, by omega⟩
  · exact ⟨_, cap, e1, h1, h2⟩
theorem FA.cell (h : FA e eo 1 mk base K vo rv L w0 k i w) (hk : k < K) (hi : i < L k) :
    ∃ b cap, rv k = .slice (some ⟨b, 0, none⟩) (L k) cap ∧ cap ≤ maxLen ∧ L k ≤ cap ∧ (∃ u, w.cell? ⟨b, i, none⟩ = some u) ∧ w.frozen? ⟨b, i, none⟩ = false ∧ b < w.heap.size := by
  obtain ⟨X, hX, _⟩ := h.rows k hk
  rcases hX.2 with ⟨e1, e2⟩ | ⟨b, cap, cur, e1, _, hh, h1, h2, h3, h4⟩
  · omega
  · rw [e1] at hX
    refine ⟨b, cap, e1, h2, h1, ?_, World.ownsRow.frozenAt hX i, (Array.getElem?_eq_some_iff.1 hh).1⟩
    rw [World.ownsRow.cellAt hX i (by omega)]
    exact ⟨X[i]'(by rw [hX.1]; omega), List.getElem?_eq_getElem _⟩
theorem FA.store (h : FA e eo 1 mk base K vo rv L w0 k i w) (hne : e ≠ eo) (hsep : ∀ i j, i < K → j < K → i ≠ j → Sep (rv i) (rv j)) (hk : k < K) (hi : i < L k) {b cap : Nat} (hb : rv k = .slice (some ⟨b, 0, none⟩) (L k) cap) (u : Value) (hu : mk k i = [u]) :
    FA e eo 1 mk base K vo rv L w0 k (i + 1) (w.setCell ⟨b, i, none⟩ u) := by
  obtain ⟨X, hX, hX1, hX2⟩ := h.rows k hk
  rw [hb] at hX
  obtain ⟨hs, hg⟩ := World.ownsRow.stored hX i u
  have hkb : (rv k).ownBlock = some b := by rw [hb]; rfl
  refine ⟨h.outer.kept hg (.inr (fun e => ?_)), fun j hj => ?_, h.chg.setCell (.inl ⟨k, hk, hkb⟩) u⟩
  · exact rows_ne hX h.outer hne b rfl e
  · by_cases hjk : j = k
    · subst hjk
      refine ⟨X.set i u, by rw [hb]; exact hs, fun hlt => absurd hlt (by omega), fun _ => ?_⟩
      have hlen : i < X.length := by rw [hX.1]; omega
      have := hX2 rfl
      rw [Nat.mul_one] at this ⊢
      rw [mrow_snoc, hu, ← this, List.take_set, List.take_add_one, List.set_append, if_neg (by simp; omega), List.getElem?_eq_getElem hlen]
      simp [Nat.min_eq_left (Nat.le_of_lt hlen)]
    · obtain ⟨Y, hY, hY1, hY2⟩ := h.rows j hj
      refine ⟨Y, hY.kept hg (.inr (fun e => hsep k j hk hj (fun h => hjk h.symm) b hkb e)), hY1, fun e => absurd e hjk⟩

theorem FB.drewN (h : FB e eo size mk base K vo rv L w0 G k gv w) (q : Nat) : FB e eo size mk base K vo rv L w0 G k gv (w.drewN q) := ⟨h.outer, h.rows, h.gs, h.gne, h.gnew, h.grow, h.sep1, h.chg.drewN q⟩
/-- behind the first loops: the new outer list is made -/
theorem FA.made (h : FA e eo size mk base K vo rv L w0 K 0 w) {w' : World} (hg : w.grownBy w' none) (hm : w'.ownsRow base eo 1 (.slice (some ⟨w.heap.size, 0, none⟩) K K) K (List.replicate K (.slice none 0 0))) :
    FB e eo size mk base K vo rv L w0 w.heap.size 0 (fun _ => .slice none 0 0) w' := by
  have kp : ∀ {base : Nat} {e : TypeId} {size : Nat} {v : Value} {n : Nat} {xs : List Value}, w.ownsRow base e size v n xs → w'.ownsRow base e size v n xs := fun {_ _ _ v _ _} h => h.kept hg (by
    cases hv : v.ownBlock with
    | none => exact .inl rfl
    | some b => exact .inr (fun e => by cases e))
  refine ⟨kp h.outer, fun j hj => ?_, ?_, ?_, h.chg.size, fun j hj => absurd hj (by omega), fun i j _ hj => absurd hj (by omega), h.chg.grown hg (fun k e => by cases e)⟩
  · obtain ⟨X, hX, h1, _⟩ := h.rows j hj
    rw [← h1 hj]
    exact kp hX
  · have : ((List.range K).map fun j => if j < 0 then (Value.slice none 0 0) else .slice none 0 0) = List.replicate K (.slice none 0 0) := by
      refine List.ext_getElem (by simp) fun i h1 h2 => by simp
    rw [this]
    exact hm
  · intro e
    have := (row_lt h.outer _ e).2
    omega
theorem FB.start (h : FB e eo size mk base K vo rv L w0 G k gv w) (hsep : ∀ i j, i < K → j < K → i ≠ j → Sep (rv i) (rv j)) (hk : k < K) : FBi e eo size mk base K vo rv L w0 G k 0 gv (rv k) w :=
  ⟨h, h.rows k hk, fun j hj hne => hsep j k hj hk hne, fun j hj => (h.sep1 k j hk hj (by omega)).symm, fun b hb => .inl ⟨k, hk, hb⟩⟩
theorem FB.row (h : FB e eo size mk base K vo rv L w0 G k gv w) {j : Nat} (hj : j < K) : ∃ a c, rv j = .slice a (L j) c ∧ L j ≤ c ∧ c ≤ maxLen := by
  rcases (h.rows j hj).2 with ⟨e1, e2⟩ | ⟨g, cap, cur, e1, _, _, h1, h2, _⟩
  · exact ⟨none, 0, by rw [e1, e2], by omega, by omega⟩
  · exact ⟨_, cap, e1, h1, h2⟩
theorem FBi.step (h : FBi e eo size mk base K vo rv L w0 G k i gv g w) (hne : e ≠ eo) (hk : k < K) {g' : Value} {w' : World} {b' H : Nat} (hrow : w'.ownsRow base e size g' (L k + i + 1) (mrow mk k (L k + i) ++ mk k (L k + i)))
    (hg : w.grownBy w' g.ownBlock) (hb' : g'.ownBlock = some b') (hat : some b' = g.ownBlock ∨ b' = H) (hH : w.heap.size ≤ H) (hkeep : KeepR e size g (L k + i) w w') : FBi e eo size mk base K vo rv L w0 G k (i + 1) gv g' w' := by
  have oth : ∀ {v : Value} {xs : List Value}, w.ownsRow base eo 1 v K xs → w'.ownsRow base eo 1 v K xs := fun {v xs} ho => ho.kept hg (by
    cases hv : v.ownBlock with
    | none => exact .inl rfl
    | some b => exact .inr (fun e => rows_ne ho h.row (fun h => hne h.symm) b hv e.symm))
  have hrw : ∀ j, j < K → w'.ownsRow base e size (rv j) (L j) (mrow mk j (L j)) := fun j hj => hkeep _ _ _ _ (h.fb.rows j hj) (fun b h1 h2 => by
    by_cases hjk : j = k
    · subst hjk; omega
    · exact absurd h2 (h.s1 j hj hjk b h1))
  have hgr : ∀ j, j < k → w'.ownsRow base e size (gv j) (L j + 64) (mrow mk j (L j + 64)) := fun j hj => hkeep _ _ _ _ (h.fb.grow j hj) (fun b h1 h2 => absurd h2 (h.s2 j hj b h1))
  have sp : ∀ {v : Value}, Sep v g → (∀ b, v.ownBlock = some b → b < w.heap.size) → Sep v g' := fun {v} hs hlt b h1 h2 => by
    rw [hb'] at h2
    injection h2 with h2
    subst h2
    rcases hat with hat | hat
    · exact hs _ h1 hat.symm
    · have := hlt _ h1
      omega
  refine ⟨⟨oth h.fb.outer, hrw, oth h.fb.gs, h.fb.gne, h.fb.gnew, hgr, h.fb.sep1, h.fb.chg.grown hg h.blk⟩, ?_, ?_, ?_, ?_⟩
  · have := mrow_snoc mk k (L k + i)
    rw [← this] at hrow
    exact hrow
  · intro j hj hjk
    exact sp (h.s1 j hj hjk) (fun b hb => (row_lt (h.fb.rows j hj) b hb).2)
  · intro j hj
    exact sp (h.s2 j hj) (fun b hb => (row_lt (h.fb.grow j hj) b hb).2)
  · intro b hb
    rw [hb'] at hb
    injection hb with hb
    subst hb
    rcases hat with hat | hat
    · exact h.blk _ hat.symm
    · have := h.fb.chg.size
      exact .inr (by omega)
theorem FBi.fin (h : FBi e eo size mk base K vo rv L w0 G k 64 gv g w) (hne : e ≠ eo) (hk : k < K) : FB e eo size mk base K vo rv L w0 G (k + 1) (fun j => if j = k then g else gv j) (w.setCell ⟨G, k, none⟩ g) := by
  obtain ⟨hs, hg⟩ := World.ownsRow.stored h.fb.gs k g
  have oth : ∀ {v : Value} {n : Nat} {xs : List Value}, w.ownsRow base e size v n xs → (w.setCell ⟨G, k, none⟩ g).ownsRow base e size v n xs := fun {v n xs} ho => ho.kept hg (by
    cases hv : v.ownBlock with
    | none => exact .inl rfl
    | some b => exact .inr (fun e => rows_ne ho h.fb.gs hne b hv (by rw [e]; rfl)))
  refine ⟨h.fb.outer.kept hg (.inr h.fb.gne), fun j hj => oth (h.fb.rows j hj), ?_, h.fb.gne, h.fb.gnew, fun j hj => ?_, fun i j hi hj hij => ?_, h.fb.chg.setCell (.inr h.fb.gnew) g⟩
  · rw [range_map_set] at hs
    have : (fun j => if j = k then g else if j < k then gv j else (Value.slice none 0 0)) = (fun j => if j < k + 1 then (if j = k then g else gv j) else .slice none 0 0) := by
      funext j
      by_cases h1 : j = k
      · subst h1; simp
      · by_cases h2 : j < k
        · simp [h1, h2, show j < k + 1 by omega]
        · simp [h1, h2, show ¬ j < k + 1 by omega]
    rw [this] at hs
    exact hs
  · by_cases hjk : j = k
    · subst hjk
      simp only [if_true]
      exact oth h.row
    · simp only [hjk, if_false]
      exact oth (h.fb.grow j (by omega))
  · by_cases hjk : j = k
    · subst hjk
      simp only [if_true]
      exact h.s1 i hi hij
    · simp only [hjk, if_false]
      exact h.fb.sep1 i j hi (by omega) hij
/-- what is read of the outer lists -/
theorem FB.outs (h : FB e eo size mk base K vo rv L w0 G k gv w) {j : Nat} (hj : j < K) : ∃ O c, vo = .slice (some ⟨O, 0, none⟩) K c ∧ w.cell? ⟨O, j, none⟩ = some (rv j) ∧ w.cell? ⟨G, j, none⟩ = some (if j < k then gv j else .slice none 0 0) ∧ w.frozen? ⟨G, j, none⟩ = false := by
  rcases h.outer.2 with ⟨_, e2⟩ | ⟨O, c, cur, e1, _⟩
  · omega
  · have ho := h.outer
    rw [e1] at ho
    refine ⟨O, c, e1, ?_, ?_, World.ownsRow.frozenAt h.gs j⟩
    · rw [World.ownsRow.cellAt ho j (by omega)]
      simp [hj]
    · rw [World.ownsRow.cellAt h.gs j (by omega)]
      simp [hj]
theorem FA.outs (h : FA e eo size mk base K vo rv L w0 k i w) {j : Nat} (hj : j < K) : ∃ O c, vo = .slice (some ⟨O, 0, none⟩) K c ∧ w.cell? ⟨O, j, none⟩ = some (rv j) := by
  rcases h.outer.2 with ⟨_, e2⟩ | ⟨O, c, cur, e1, _⟩
  · omega
  · have ho := h.outer
    rw [e1] at ho
    refine ⟨O, c, e1, ?_⟩
    rw [World.ownsRow.cellAt ho j (by omega)]
    simp [hj]
theorem row_cell {w : World} {base : Nat} {e : TypeId} {v : Value} {n : Nat} {xs : List Value} (h : w.ownsRow base e 1 v n xs) {i : Nat} (hi : i < n) {u : Value} (hu : xs[i]? = some u) :
    ∃ b c, v = .slice (some ⟨b, 0, none⟩) n c ∧ w.cell? ⟨b, i, none⟩ = some u := by
  rcases h.2 with ⟨_, e2⟩ | ⟨b, c, cur, rfl, _⟩
  · omega
  · exact ⟨b, c, rfl, by rw [World.ownsRow.cellAt h i (by omega)]; exact hu⟩
theorem FB.toD (h : FB e eo size mk base K vo rv L w0 G K gv w) : FD e eo size mk base K vo rv L w0 G 0 (fun j => if j < K then gv j else .slice none 0 0) w :=
  ⟨h.outer, h.rows, h.gs, h.gne, h.gnew, fun j hj => absurd hj (by omega), fun i j _ hj => absurd hj (by omega), h.chg⟩
theorem FD.drewN (h : FD e eo size mk base K vo rv L w0 G k gl w) (q : Nat) : FD e eo size mk base K vo rv L w0 G k gl (w.drewN q) := ⟨h.outer, h.rows, h.gs, h.gne, h.gnew, h.grow, h.sep1, h.chg.drewN q⟩
theorem FD.made (h : FD e eo size mk base K vo rv L w0 G k gl w) {w' : World} (hg : w.grownBy w' none) {Y : List Value} (hm : w'.ownsRow base e size (.slice (some ⟨w.heap.size, 0, none⟩) 64 64) 64 Y) (hY : ∀ u ∈ Y, u.oneCell' = true) (hk : k ≤ K) :
    FDi e eo size mk base K vo rv L w0 G k gl w.heap.size w' := by
  have kp : ∀ {base : Nat} {e : TypeId} {size : Nat} {v : Value} {n : Nat} {xs : List Value}, w.ownsRow base e size v n xs → w'.ownsRow base e size v n xs := fun {_ _ _ v _ _} h => h.kept hg (by
    cases hv : v.ownBlock with
    | none => exact .inl rfl
    | some b => exact .inr (fun e => by cases e))
  refine ⟨⟨kp h.outer, fun j hj => kp (h.rows j hj), kp h.gs, h.gne, h.gnew, fun j hj => ?_, h.sep1, h.chg.grown hg (fun k e => by cases e)⟩, ⟨Y, hm, hY⟩, fun j hj e => ?_, fun j hj e => ?_, h.chg.size⟩
  · obtain ⟨Z, hZ⟩ := h.grow j hj
    exact ⟨Z, kp hZ⟩
  · have := (row_lt (h.rows j hj) _ e).2
    omega
  · obtain ⟨Z, hZ⟩ := h.grow j hj
    have := (row_lt hZ _ e).2
    omega
theorem FDi.set_ {M : Nat} (h : FDi e eo size mk base K vo rv L w0 G k gl M w) (hne : e ≠ eo) (i : Nat) (u : Value) (hu : u.oneCell' = true) : FDi e eo size mk base K vo rv L w0 G k gl M (w.setCell ⟨M, i, none⟩ u) := by
  obtain ⟨Y, hY, hY1⟩ := h.many
  obtain ⟨hs, hg⟩ := World.ownsRow.stored hY i u
  refine ⟨⟨h.fd.outer.kept hg (.inr (fun e => rows_ne hY h.fd.outer hne M rfl e)), fun j hj => (h.fd.rows j hj).kept hg (.inr (h.m1 j hj)), h.fd.gs.kept hg (.inr (fun e => rows_ne hY h.fd.gs hne M rfl e)), h.fd.gne, h.fd.gnew, fun j hj => ?_, h.fd.sep1, h.fd.chg.setCell (.inr h.mnew) u⟩, ⟨_, hs, fun v hv => ?_⟩, h.m1, h.m2, h.mnew⟩
  · obtain ⟨Z, hZ⟩ := h.fd.grow j hj
    exact ⟨Z, hZ.kept hg (.inr (h.m2 j hj))⟩
  · rcases List.mem_or_eq_of_mem_set hv with hv | hv
    · exact hY1 v hv
    · rw [hv]; exact hu
theorem FDi.fin {M : Nat} (h : FDi e eo size mk base K vo rv L w0 G k gl M w) (hne : e ≠ eo) (hsep : ∀ i j, i < K → j < K → i ≠ j → Sep (rv i) (rv j)) (hk : k < K) {v' : Value} {w' : World} {Y : List Value} (hrow : w'.ownsRow base e size v' (L k + 64) (mrow mk k (L k) ++ Y))
    (hg : w.grownBy w' (rv k).ownBlock) (hat : v'.ownBlock = (rv k).ownBlock ∨ v'.ownBlock = some w.heap.size) (hkeep : KeepR e size (rv k) (L k) w w') : FD e eo size mk base K vo rv L w0 G (k + 1) (fun j => if j = k then v' else gl j) (w'.setCell ⟨G, k, none⟩ v') := by
  have oth : ∀ {v : Value} {xs : List Value}, w.ownsRow base eo 1 v K xs → w'.ownsRow base eo 1 v K xs := fun {v xs} ho => ho.kept hg (by
    cases hv : v.ownBlock with
    | none => exact .inl rfl
    | some b => exact .inr (fun e => rows_ne ho (h.fd.rows k hk) (fun h => hne h.symm) b hv e.symm))
  obtain ⟨hs, hg2⟩ := World.ownsRow.stored (oth h.fd.gs) k v'
  have oth2 : ∀ {v : Value} {n : Nat} {xs : List Value}, w'.ownsRow base e size v n xs → (w'.setCell ⟨G, k, none⟩ v').ownsRow base e size v n xs := fun {v n xs} ho => ho.kept hg2 (by
    cases hv : v.ownBlock with
    | none => exact .inl rfl
    | some b => exact .inr (fun e => rows_ne ho (oth h.fd.gs) hne b hv (by rw [e]; rfl)))
  refine ⟨(oth h.fd.outer).kept hg2 (.inr h.fd.gne), fun j hj => oth2 (hkeep _ _ _ _ (h.fd.rows j hj) (fun b h1 h2 => ?_)), ?_, h.fd.gne, h.fd.gnew, fun j hj => ?_, fun i j hi hj hij => ?_, (h.fd.chg.grown hg (fun b hb => .inl ⟨k, hk, hb⟩)).setCell (.inr h.fd.gnew) v'⟩
  · by_cases hjk : j = k
    · subst hjk; exact Nat.le_refl _
    · exact absurd h2 (hsep j k hj hk hjk b h1)
  · rw [range_map_set] at hs
    exact hs
  · by_cases hjk : j = k
    · subst hjk
      simp only [if_true]
      exact ⟨Y, oth2 hrow⟩
    · simp only [hjk, if_false]
      obtain ⟨Z, hZ⟩ := h.fd.grow j (by omega)
      exact ⟨Z, oth2 (hkeep _ _ _ _ hZ (fun b h1 h2 => absurd h1 (h.fd.sep1 k j hk (by omega) (fun h => hjk h.symm) b h2)))⟩
  · by_cases hjk : j = k
    · subst hjk
      simp only [if_true]
      intro b h1 h2
      rcases hat with hat | hat
      · exact hsep i j hi hk hij b h1 (by rw [← hat]; exact h2)
      · rw [hat] at h2
        injection h2 with h2
        have := (row_lt (h.fd.rows i hi) b h1).2
        omega
    · simp only [hjk, if_false]
      exact h.fd.sep1 i j hi (by omega) hij
theorem FD.outs (h : FD e eo size mk base K vo rv L w0 G k gl w) {j : Nat} (hj : j < K) : ∃ O c, vo = .slice (some ⟨O, 0, none⟩) K c ∧ w.cell? ⟨O, j, none⟩ = some (rv j) ∧ w.cell? ⟨G, j, none⟩ = some (gl j) ∧ w.frozen? ⟨G, j, none⟩ = false ∧ O < w.heap.size ∧ G < w.heap.size := by
  rcases h.outer.2 with ⟨_, e2⟩ | ⟨O, c, cur, e1, _, hh, _⟩
  · omega
  · have ho := h.outer
    rw [e1] at ho
    refine ⟨O, c, e1, ?_, ?_, World.ownsRow.frozenAt h.gs j, (Array.getElem?_eq_some_iff.1 hh).1, (row_lt h.gs G rfl).2⟩
    · rw [World.ownsRow.cellAt ho j (by omega)]
      simp [hj]
    · rw [World.ownsRow.cellAt h.gs j (by omega)]
      simp [hj]
theorem FD.row (h : FD e eo size mk base K vo rv L w0 G k gl w) {j : Nat} (hj : j < K) : ∃ a c, rv j = .slice a (L j) c ∧ L j ≤ c ∧ c ≤ maxLen := by
  rcases (h.rows j hj).2 with ⟨e1, e2⟩ | ⟨g, cap, cur, e1, _, _, h1, h2, _⟩
  · exact ⟨none, 0, by rw [e1, e2], by omega, by omega⟩
  · exact ⟨_, cap, e1, h1, h2⟩
end
end Go.Proofs.Ytkakanjoeofjcaa
