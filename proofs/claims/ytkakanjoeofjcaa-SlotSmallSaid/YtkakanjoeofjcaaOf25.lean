/-
  intarsiaref25.Of: what the document's answer tells is what slot.Of tells.
-/
import Derived.Test.YtkakanjoeofjcaaApartWalk
import Derived.Test.YtkakanjoeofjcaaFlatInts
namespace Go.Proofs.Ytkakanjoeofjcaa
open Go.RowKit

/-! plain -/
theorem blk_at (ps : List (Int × Int)) (vs : List Int) (hn : vs.Nodup) (i : Nat) (hi : i < vs.length) (s : Nat) :
    blk (notsOf ps (vs.getD i 0)) (gOf (asg ps (vs.take i))) (s : Int) = true ↔ ∃ j, j < i ∧ slt ps vs j = s ∧ pairedB ps (vs.getD i 0) (vs.getD j 0) = true := by
  have hl : (vs.take i).length = i := by simp; omega
  have hgt : ∀ j, j < i → (vs.take i).getD j 0 = vs.getD j 0 := fun j hj => by simp [List.getD_eq_getElem?_getD, List.getElem?_take, hj]
  unfold blk
  rw [List.any_eq_true]
  constructor
  · rintro ⟨x, hx, e⟩
    obtain ⟨d, hd, rfl, e2⟩ := gOf_mem (of_decide_eq_true e)
    obtain ⟨j, hj, hg⟩ := List.mem_iff_getElem.1 hd
    rw [asg_length, hl] at hj
    have h1 := asg_at ps (vs.take i) j (by omega)
    rw [List.getElem?_eq_getElem (by rw [asg_length]; omega), hg, hgt j hj, slt_take ps vs i j hj] at h1
    have h2 := Option.some.inj h1
    refine ⟨j, hj, ?_, ?_⟩
    · have := congrArg Prod.snd h2
      simp only at this
      omega
    · have := congrArg Prod.fst h2
      simp only at this
      rw [pairedB, decide_eq_true_eq, ← this]
      exact (mem_notsOf _ _ _).1 hx
  · rintro ⟨j, hj, e, hp⟩
    rw [pairedB, decide_eq_true_eq] at hp
    refine ⟨vs.getD j 0, (mem_notsOf _ _ _).2 hp, ?_⟩
    have h1 := asg_at ps (vs.take i) j (by omega)
    rw [hgt j hj, slt_take ps vs i j hj] at h1
    have h2 := gOf_at _ (by rw [asg_keys]; exact hn.sublist (List.take_sublist _ _)) j _ h1
    simp only at h2
    rw [decide_eq_true_eq, h2, e]
theorem hit_lt (ps : List (Int × Int)) (vs : List Int) (hv : vs.length ≤ 300) (hn : vs.Nodup) (i : Nat) (hi : i < vs.length) (s j : Nat) (hs : s ≤ slt ps vs i) (hj : j < i) (e : slt ps vs j = s) (hp : pairedB ps (vs.getD i 0) (vs.getD j 0) = true) : s < slt ps vs i := by
  have h := (slt_least ps vs hv i hi).1
  have h2 := (blk_at ps vs hn i hi s).2 ⟨j, hj, e, hp⟩
  rcases Nat.lt_or_ge s (slt ps vs i) with h3 | h3
  · exact h3
  · have : s = slt ps vs i := by omega
    rw [this, h] at h2
    cases h2
theorem miss_eq (ps : List (Int × Int)) (vs : List Int) (hv : vs.length ≤ 300) (hn : vs.Nodup) (i : Nat) (hi : i < vs.length) (s : Nat) (hs : s ≤ slt ps vs i) (hm : ∀ j, j < i → ¬ (slt ps vs j = s ∧ pairedB ps (vs.getD i 0) (vs.getD j 0) = true)) : s = slt ps vs i := by
  rcases Nat.lt_or_ge s (slt ps vs i) with h3 | h3
  · have h := (slt_least ps vs hv i hi).2 s h3
    obtain ⟨j, hj, h2⟩ := (blk_at ps vs hn i hi s).1 h
    exact absurd h2 (hm j hj)
  · omega
theorem asg_succ (ps : List (Int × Int)) (vs : List Int) (i : Nat) (hi : i < vs.length) : asg ps (vs.take (i + 1)) = asg ps (vs.take i) ++ [(vs.getD i 0, slt ps vs i)] := by
  have hl := asg_length ps vs
  have h1 := asg_at ps vs i hi
  rw [← asg_take, ← asg_take, List.take_add_one, h1]
  rfl
def sltV (ps : List (Int × Int)) (vs : List Int) (i : Nat) : List Value := (List.range i).map fun j => .int .i64 (slt ps vs j : Int)
theorem sltV_snoc (ps : List (Int × Int)) (vs : List Int) (i : Nat) : sltV ps vs (i + 1) = sltV ps vs i ++ [.int .i64 (slt ps vs i : Int)] := by simp [sltV, List.range_succ]
theorem vars_sltV (ps : List (Int × Int)) (vs : List Int) : intVals (((asg ps vs).map (·.2)).map fun (s : Nat) => (s : Int)) = sltV ps vs vs.length := by
  have hl := asg_length ps vs
  apply List.ext_getElem?
  intro i
  by_cases hi : i < vs.length
  · have h1 := asg_at ps vs i hi
    simp only [intVals, sltV, List.getElem?_map, h1, List.getElem?_range hi, Option.map_some]
  · rw [List.getElem?_eq_none (by simp [intVals, hl]; omega), List.getElem?_eq_none (by simp [sltV]; omega)]

/-! the frame, as it is made -/
structure RF (w0 W : World) (R F : Nat) (vs hs : Value) (nv nh : Nat) (Xv Xh : List Value) (tm sz : Int) : Prop where
  res : W.heap[R]? = some (frC nilS nilS 0 0 32)
  fr : W.heap[F]? = some (frC vs hs tm sz 32)
  rv : W.ownsRow (F + 1) 3 1 vs nv Xv
  rh : W.ownsRow (F + 1) 3 1 hs nh Xh
  sep : Sep vs hs
  ext : Below w0.heap.size w0 W
  le : w0.heap.size ≤ R ∧ R < F
section
variable {w0 W : World} {R F : Nat} {vs hs : Value} {nv nh : Nat} {Xv Xh : List Value} {tm sz : Int}
theorem RF.cells (h : RF w0 W R F vs hs nv nh Xv Xh tm sz) : W.cell? ⟨F, 0, none⟩ = some vs ∧ W.cell? ⟨F, 1, none⟩ = some hs ∧ W.cell? ⟨F, 2, none⟩ = some (.int .i64 tm) ∧ W.cell? ⟨F, 3, none⟩ = some (.int .i64 sz) ∧ (∀ i, W.frozen? ⟨F, i, none⟩ = false) ∧ F < W.heap.size := by
  have hf := h.fr
  refine ⟨?_, ?_, ?_, ?_, ?_, (Array.getElem?_eq_some_iff.1 hf).1⟩
  · simp [World.cell?, hf]
  · simp [World.cell?, hf]
  · simp [World.cell?, hf]
  · simp [World.cell?, hf]
  · intro i; simp [World.frozen?, hf]
theorem RF.resCells (h : RF w0 W R F vs hs nv nh Xv Xh tm sz) : (∀ i, i < 4 → ∃ u, W.cell? ⟨R, i, none⟩ = some u) ∧ (∀ i, W.frozen? ⟨R, i, none⟩ = false) ∧ R < W.heap.size := by
  have hf := h.res
  refine ⟨?_, ?_, (Array.getElem?_eq_some_iff.1 hf).1⟩
  · intro i hi
    match i, hi with
    | 0, _ => exact ⟨_, by simp [World.cell?, hf]; rfl⟩
    | 1, _ => exact ⟨_, by simp [World.cell?, hf]; rfl⟩
    | 2, _ => exact ⟨_, by simp [World.cell?, hf]; rfl⟩
    | 3, _ => exact ⟨_, by simp [World.cell?, hf]; rfl⟩
  · intro i; simp [World.frozen?, hf]
theorem RF.drewN (h : RF w0 W R F vs hs nv nh Xv Xh tm sz) (q : Nat) : RF w0 (W.drewN q) R F vs hs nv nh Xv Xh tm sz := ⟨h.res, h.fr, h.rv, h.rh, h.sep, below_drewN h.ext q, h.le⟩
theorem RF.rowF (h : RF w0 W R F vs hs nv nh Xv Xh tm sz) : ∀ g, vs.ownBlock = some g → F < g ∧ g < W.heap.size := fun g hg => by have := h.rv.lt g hg; omega
theorem RF.rowH (h : RF w0 W R F vs hs nv nh Xv Xh tm sz) : ∀ g, hs.ownBlock = some g → F < g ∧ g < W.heap.size := fun g hg => by have := h.rh.lt g hg; omega
/-- a store into the frame -/
theorem RF.set_ (h : RF w0 W R F vs hs nv nh Xv Xh tm sz) {tm' sz' : Int} (i : Nat) (u : Value) (hcs : (#[vs, hs, .int .i64 tm, .int .i64 sz] : Array Value).setIfInBounds i u = #[vs, hs, .int .i64 tm', .int .i64 sz']) : RF w0 (W.setCell ⟨F, i, none⟩ u) R F vs hs nv nh Xv Xh tm' sz' := by
  have hc : Chg (fun k => k = F) W (W.setCell ⟨F, i, none⟩ u) := (Chg.refl (fun k => k = F) W).setCell (p := ⟨F, i, none⟩) (.inl rfl) u
  refine ⟨(hc.block R (Array.getElem?_eq_some_iff.1 h.res).1 (by have := h.le; omega)).trans h.res, ?_, ownsRow_chg h.rv hc (fun g hg => by have := h.rowF g hg; omega), ownsRow_chg h.rh hc (fun g hg => by have := h.rowH g hg; omega), h.sep, h.ext.setCell (p := ⟨F, i, none⟩) (by have := h.le; show w0.heap.size ≤ F; omega) u, h.le⟩
  rw [set_block W F i _ _ u h.fr, hcs]
theorem RF.pushV (h : RF w0 W R F vs hs nv nh Xv Xh tm sz) {W' : World} {g cap : Nat} {x : Value} (hown : W'.ownsRow (F + 1) 3 1 (.slice (some ⟨g, 0, none⟩) (nv + 1) cap) (nv + 1) (Xv ++ [x])) (hg : W.grownBy W' vs.ownBlock) (hat : some g = vs.ownBlock ∨ g = W.heap.size + 1) :
    RF w0 (W'.setCell ⟨F, 0, none⟩ (.slice (some ⟨g, 0, none⟩) (nv + 1) cap)) R F (.slice (some ⟨g, 0, none⟩) (nv + 1) cap) hs (nv + 1) nh (Xv ++ [x]) Xh tm sz ∧ (∀ i, W'.cell? ⟨F, i, none⟩ = W.cell? ⟨F, i, none⟩) ∧ (∀ i, W'.frozen? ⟨F, i, none⟩ = false) ∧ F < W'.heap.size := by
  have hle := h.le
  have hF := (Array.getElem?_eq_some_iff.1 h.fr).1
  have hR := (Array.getElem?_eq_some_iff.1 h.res).1
  have hr' : W'.heap[R]? = some _ := (hg.block R hR (fun e => by have := h.rowF R e.symm; omega)).trans h.res
  have hf' : W'.heap[F]? = some _ := (hg.block F hF (fun e => by have := h.rowF F e.symm; omega)).trans h.fr
  have hrh : W'.ownsRow (F + 1) 3 1 hs nh Xh := h.rh.kept hg (by
    cases hv : hs.ownBlock with
    | none => exact .inl rfl
    | some b => exact .inr (fun e => h.sep b e.symm hv))
  have hc : Chg (fun k => k = F) W' (W'.setCell ⟨F, 0, none⟩ (.slice (some ⟨g, 0, none⟩) (nv + 1) cap)) := (Chg.refl (fun k => k = F) W').setCell (p := ⟨F, 0, none⟩) (.inl rfl) _
  refine ⟨⟨(hc.block R (Array.getElem?_eq_some_iff.1 hr').1 (by omega)).trans hr', ?_, ownsRow_chg hown hc (fun b hb => by have := hown.lt b hb; omega), ownsRow_chg hrh hc (fun b hb => by have := hrh.lt b hb; omega), ?_, (h.ext.grown hg h.ext.size (fun b e => by have := h.rowF b e; omega)).setCell (p := ⟨F, 0, none⟩) (by show w0.heap.size ≤ F; omega) _, hle⟩, ?_, ?_, (Array.getElem?_eq_some_iff.1 hf').1⟩
  · rw [set_block W' F 0 _ _ _ hf']
    rfl
  · intro b hb hb'
    simp only [Value.ownBlock, Option.some.injEq] at hb
    subst hb
    rcases hat with e | e
    · exact h.sep _ e.symm hb'
    · have := h.rowH _ hb'
      omega
  · intro i
    have := h.fr
    simp [World.cell?, hf', this]
  · intro i
    simp [World.frozen?, hf']
theorem RF.pushH (h : RF w0 W R F vs hs nv nh Xv Xh tm sz) {W' : World} {g cap : Nat} {x : Value} (hown : W'.ownsRow (F + 1) 3 1 (.slice (some ⟨g, 0, none⟩) (nh + 1) cap) (nh + 1) (Xh ++ [x])) (hg : W.grownBy W' hs.ownBlock) (hat : some g = hs.ownBlock ∨ g = W.heap.size + 1) :
    RF w0 (W'.setCell ⟨F, 1, none⟩ (.slice (some ⟨g, 0, none⟩) (nh + 1) cap)) R F vs (.slice (some ⟨g, 0, none⟩) (nh + 1) cap) nv (nh + 1) Xv (Xh ++ [x]) tm sz ∧ (∀ i, W'.cell? ⟨F, i, none⟩ = W.cell? ⟨F, i, none⟩) ∧ (∀ i, W'.frozen? ⟨F, i, none⟩ = false) ∧ F < W'.heap.size := by
  have hle := h.le
  have hF := (Array.getElem?_eq_some_iff.1 h.fr).1
  have hR := (Array.getElem?_eq_some_iff.1 h.res).1
  have hr' : W'.heap[R]? = some _ := (hg.block R hR (fun e => by have := h.rowH R e.symm; omega)).trans h.res
  have hf' : W'.heap[F]? = some _ := (hg.block F hF (fun e => by have := h.rowH F e.symm; omega)).trans h.fr
  have hrv : W'.ownsRow (F + 1) 3 1 vs nv Xv := h.rv.kept hg (by
    cases hv : vs.ownBlock with
    | none => exact .inl rfl
    | some b => exact .inr (fun e => h.sep b hv e.symm))
  have hc : Chg (fun k => k = F) W' (W'.setCell ⟨F, 1, none⟩ (.slice (some ⟨g, 0, none⟩) (nh + 1) cap)) := (Chg.refl (fun k => k = F) W').setCell (p := ⟨F, 1, none⟩) (.inl rfl) _
  refine ⟨⟨(hc.block R (Array.getElem?_eq_some_iff.1 hr').1 (by omega)).trans hr', ?_, ownsRow_chg hrv hc (fun b hb => by have := hrv.lt b hb; omega), ownsRow_chg hown hc (fun b hb => by have := hown.lt b hb; omega), ?_, (h.ext.grown hg h.ext.size (fun b e => by have := h.rowH b e; omega)).setCell (p := ⟨F, 1, none⟩) (by show w0.heap.size ≤ F; omega) _, hle⟩, ?_, ?_, (Array.getElem?_eq_some_iff.1 hf').1⟩
  · rw [set_block W' F 1 _ _ _ hf']
    rfl
  · intro b hb hb'
    simp only [Value.ownBlock, Option.some.injEq] at hb'
    subst hb'
    rcases hat with e | e
    · exact h.sep _ hb e.symm
    · have := h.rowF _ hb
      omega
  · intro i
    have := h.fr
    simp [World.cell?, hf', this]
  · intro i
    simp [World.frozen?, hf']
end
end Go.Proofs.Ytkakanjoeofjcaa
