/-
  Tile: sets compared; how functions lie in memory; families of rows of the call's own.
-/
import Derived.Test.YtblhmdhfhaencaaGreatTG
import Derived.Test.YtblhmdhfhaencaaGreatEU
import Derived.Laws.StructEq
import Derived.ChangeKeysEq
namespace Go.Proofs.YtblhmdhfhaencaaGreat
set_option linter.unusedSimpArgs false
set_option linter.unusedVariables false
open Go.RowKit

/-! ### sets compared -/
theorem part_bool (cs : Array Value) (o : Nat) (v : Value) (w : World) (h : cs[o]? = some v) : (part 4 cs o).run Tryz.prog w = .ok v w := by
  have hu : (underlying 4).run Tryz.prog w = .ok .bool w := run_underlying Tryz.underlying4 w
  simp [part, isAgg, hu, h]
theorem eqItems_bool (w : World) (f g : Nat → Bool) (xs ys : Array Value) : ∀ (is : List Nat), (∀ i ∈ is, xs[i]? = some (.bool (f i)) ∧ ys[i]? = some (.bool (g i))) → (Op.eqItems 9999 4 1 xs ys is).run Tryz.prog w = .ok (is.all fun i => f i == g i) w
  | [], _ => by simp [Op.eqItems]
  | i :: is, h => by
    obtain ⟨h1, h2⟩ := h i (by simp)
    have ih := eqItems_bool w f g xs ys is (fun j hj => h j (by simp [hj]))
    simp only [Op.eqItems, Sem.run_bind, Nat.mul_one]
    rw [part_bool _ i _ w h1]
    simp only [Result.andThen_ok]
    rw [part_bool _ i _ w h2]
    simp only [Result.andThen_ok]
    rw [run_equalIn_bool' w 9998 4 (f i) (g i) Tryz.underlying4]
    simp only [Result.andThen_ok]
    cases hq : (f i == g i) with
    | false => simp [hq]
    | true => simp [hq, ih]
theorem equal_set (w : World) (f g : Nat → Bool) : (Op.equalIn 10000 124 (.agg (setA f)) (.agg (setA g))).run Tryz.prog w = .ok (eqS f g) w := by
  have hi : ∃ i, Tryz.prog.info? 4 = some i := Option.isSome_iff_exists.1 (by kernel_rfl)
  obtain ⟨i, hi⟩ := hi
  have h1 : Tryz.prog.cellsOf 4 = 1 := by kernel_rfl
  rw [run_equalIn_array w 9999 _ _ Tryz.underlying124 hi, h1]
  exact eqItems_bool w f g _ _ _ (fun i hi => ⟨setA_at f i (List.mem_range.1 hi), setA_at g i (List.mem_range.1 hi)⟩)
theorem eql_set (w : World) (f g : Nat → Bool) : (binOp .eql 124 (.agg (setA f)) (.agg (setA g))).run Tryz.prog w = .ok (.bool (eqS f g)) w := by
  rw [run_eql_struct, equal_set]
  rfl
theorem neq_set (w : World) (f g : Nat → Bool) : (binOp .neq 124 (.agg (setA f)) (.agg (setA g))).run Tryz.prog w = .ok (.bool (!eqS f g)) w := by
  rw [run_neq_struct, equal_set]
  rfl

/-! ### functions -/
/-- a block as it lies: the slice of its instructions, its end -/
structure BlkH where
  ia : Option Addr
  n : Nat
  c : Nat
  t : TermD
def blkC (b : BlkH) : List Value := [.slice b.ia b.n b.c, .int .i64 b.t.kind, .int .i64 b.t.a, .int .i64 b.t.t0, .int .i64 b.t.t1]
theorem blkC_len (b : BlkH) : (blkC b).length = 5 := rfl
def BlksOK (w : World) (a : Option Addr) (n : Nat) (bs : List BlkH) : Prop := Recs 5 blkC w a n bs ∧ ∀ b ∈ bs, TermOK b.t
theorem BlksOK.ext {w w' : World} {a : Option Addr} {n : Nat} {bs : List BlkH} (h : BlksOK w a n bs) (hb : Below w.heap.size w w') : BlksOK w' a n bs := ⟨h.1.ext blkC_len hb, h.2⟩
def tsOf (bs : List BlkH) : List TermD := bs.map (·.t)
theorem tsOf_len (bs : List BlkH) : (tsOf bs).length = bs.length := by simp [tsOf]
theorem tsOf_at (bs : List BlkH) (k : Nat) (b : BlkH) (h : bs[k]? = some b) : (tsOf bs).getD k zTerm = b.t := by
  simp [tsOf, List.getD_eq_getElem?_getD, h]
abbrev blkV (b : BlkH) : Value := .agg #[.slice b.ia b.n b.c, .int .i64 b.t.kind, .int .i64 b.t.a, .int .i64 b.t.t0, .int .i64 b.t.t1]
abbrev blkO (b : BlkH) : Obj := .cells #[.slice b.ia b.n b.c, .int .i64 b.t.kind, .int .i64 b.t.a, .int .i64 b.t.t0, .int .i64 b.t.t1] 73
theorem BlksOK.cells {w : World} {a : Option Addr} {n : Nat} {bs : List BlkH} (h : BlksOK w a n bs) {k : Nat} (hk : k < n) : ∃ x b o, bs[k]? = some x ∧ TermOK x.t ∧ a = some ⟨b, o, none⟩ ∧
    w.cell? ⟨b, o + k * 5, none⟩ = some (.slice x.ia x.n x.c) ∧ w.cell? ⟨b, o + k * 5 + 1, none⟩ = some (.int .i64 x.t.kind) ∧ w.cell? ⟨b, o + k * 5 + 2, none⟩ = some (.int .i64 x.t.a) ∧ w.cell? ⟨b, o + k * 5 + 3, none⟩ = some (.int .i64 x.t.t0) ∧ w.cell? ⟨b, o + k * 5 + 4, none⟩ = some (.int .i64 x.t.t1) := by
  have hk' : k < bs.length := by rw [h.1.1]; exact hk
  obtain ⟨b, o, e, hc⟩ := h.1.2.2 k bs[k] (List.getElem?_eq_getElem hk')
  exact ⟨bs[k], b, o, List.getElem?_eq_getElem hk', h.2 _ (List.getElem_mem hk'), e, hc 0 (by omega), hc 1 (by omega), hc 2 (by omega), hc 3 (by omega), hc 4 (by omega)⟩

/-! ### rows of the call's own, many at a time -/
def Sep (v v' : Value) : Prop := ∀ g, v.ownBlock = some g → v'.ownBlock ≠ some g
theorem Sep.symm {v v' : Value} (h : Sep v v') : Sep v' v := fun g h1 h2 => h g h2 h1
/-- n rows that are turned, k rows that stay: no block is shared with one that is turned -/
structure Fam (w : World) (B n k : Nat) (hF hT : Nat → Value) (xF xT : Nat → List Int) : Prop where
  F : ∀ y, y < n → OwnI w B (hF y) (xF y)
  T : ∀ j, j < k → OwnI w B (hT j) (xT j)
  FF : ∀ y y', y < n → y' < n → y ≠ y' → Sep (hF y) (hF y')
  FT : ∀ y j, y < n → j < k → Sep (hF y) (hT j)
section
variable {w w' : World} {B n k : Nat} {hF hT : Nat → Value} {xF xT : Nat → List Int}
theorem Fam.kept {row : Option Nat} (h : Fam w B n k hF hT xF xT) (hg : w.grownBy w' row) (hr : ∀ r, row = some r → r < B ∨ w.heap.size ≤ r) : Fam w' B n k hF hT xF xT := by
  have key : ∀ v xs, OwnI w B v xs → OwnI w' B v xs := fun v xs ho => by
    refine ho.kept hg ?_
    cases e : v.ownBlock with
    | none => exact .inl rfl
    | some g =>
      have := ho.1.lt g e
      refine .inr fun e2 => ?_
      have := hr g e2.symm
      omega
  exact ⟨fun y hy => key _ _ (h.F y hy), fun j hj => key _ _ (h.T j hj), h.FF, h.FT⟩
theorem Fam.ext (h : Fam w B n k hF hT xF xT) (hb : Below w.heap.size w w') : Fam w' B n k hF hT xF xT :=
  h.kept (row := none) ⟨hb.os, hb.tape, hb.output, hb.size, fun k hk _ => hb.block k hk⟩ (fun r e => by cases e)
/-- one more that stays -/
theorem Fam.add (h : Fam w B n k hF hT xF xT) (hb : Below w.heap.size w w') (hB : B ≤ w.heap.size) (v : Value) (xs : List Int) (ho : OwnI w' w.heap.size v xs) : Fam w' B n (k + 1) hF (updN hT k v) xF (updN xT k xs) := by
  have h' := h.ext hb
  have hlt : ∀ y, y < n → Sep (hF y) v := fun y hy g e1 e2 => by
    have h1 := (h.F y hy).1.lt g e1
    have h2 := ho.1.lt g e2
    omega
  refine ⟨h'.F, fun j hj => ?_, h.FF, fun y j hy hj => ?_⟩
  · by_cases e : j = k
    · simp only [updN, if_pos e]; exact ho.mono hB
    · simp only [updN, if_neg e]; exact h'.T j (by omega)
  · by_cases e : j = k
    · simp only [updN, if_pos e]; exact hlt y hy
    · simp only [updN, if_neg e]; exact h.FT y j hy (by omega)
/-- one is turned -/
theorem Fam.turn (h : Fam w B n k hF hT xF xT) (y : Nat) (hy : y < n) (hg : w.grownBy w' (hF y).ownBlock) (v : Value) (xs : List Int) (ho : OwnI w' B v xs) (hv : v.ownBlock = (hF y).ownBlock ∨ ∃ g, v.ownBlock = some g ∧ w.heap.size ≤ g) : Fam w' B n k (updN hF y v) hT (updN xF y xs) xT := by
  have keep : ∀ v' xs', OwnI w B v' xs' → Sep (hF y) v' → OwnI w' B v' xs' := fun v' xs' ho' hs => by
    refine ho'.kept hg ?_
    cases e : v'.ownBlock with
    | none => exact .inl rfl
    | some g => exact .inr fun e2 => hs g e2.symm e
  have sep : ∀ v' xs', OwnI w B v' xs' → Sep (hF y) v' → Sep v v' := fun v' xs' ho' hs g e1 e2 => by
    rcases hv with e | ⟨g', e, hge⟩
    · exact hs g (by rw [← e]; exact e1) e2
    · rw [e] at e1
      injection e1 with e1
      have := (ho'.1.lt g e2).2
      omega
  refine ⟨fun z hz => ?_, fun j hj => keep _ _ (h.T j hj) (h.FT y j hy hj), fun z z' hz hz' hne => ?_, fun z j hz hj => ?_⟩
  · by_cases e : z = y
    · simp only [updN, if_pos e]; exact ho
    · simp only [updN, if_neg e]; exact keep _ _ (h.F z hz) (h.FF y z hy hz (fun e2 => e e2.symm))
  · by_cases e : z = y
    · have e' : ¬ z' = y := fun e2 => hne (e.trans e2.symm)
      simp only [updN, if_pos e, if_neg e']
      exact sep _ _ (h.F z' hz') (h.FF y z' hy hz' (fun e2 => e' e2.symm))
    · by_cases e' : z' = y
      · simp only [updN, if_pos e', if_neg e]
        exact (sep _ _ (h.F z hz) (h.FF y z hy hz (fun e2 => e e2.symm))).symm
      · simp only [updN, if_neg e', if_neg e]; exact h.FF z z' hz hz' hne
  · by_cases e : z = y
    · simp only [updN, if_pos e]; exact sep _ _ (h.T j hj) (h.FT y j hy hj)
    · simp only [updN, if_neg e]; exact h.FT z j hz hj
end
/-- a row of headers -/
def hdrA (n : Nat) (h : Nat → Value) : Array Value := ((List.range n).map h).toArray
abbrev nilV : Value := .slice none 0 0
abbrev hdrO (n : Nat) (h : Nat → Value) : Obj := .cells (hdrA n h) 22 (0, 0)
theorem hdrA_at (n : Nat) (h : Nat → Value) (j : Nat) (hj : j < n) : (hdrA n h)[j]? = some (h j) := by simp [hdrA, hj]
theorem hdrA_size (n : Nat) (h : Nat → Value) : (hdrA n h).size = n := by simp [hdrA]
theorem hdrA_put (n : Nat) (h : Nat → Value) (j : Nat) (v : Value) : (hdrA n h).setIfInBounds j v = hdrA n (updN h j v) := by
  apply Array.ext_getElem?
  intro k
  rw [Array.getElem?_setIfInBounds]
  by_cases hk : k < n
  · rw [hdrA_at n h k hk, hdrA_at n _ k hk, hdrA_size]
    by_cases e : j = k
    · subst e; simp [updN, hk]
    · have e' : ¬ k = j := fun h => e h.symm
      simp [updN, e, e']
  · have h1 : (hdrA n h)[k]? = none := Array.getElem?_eq_none (by rw [hdrA_size]; omega)
    have h2 : (hdrA n (updN h j v))[k]? = none := Array.getElem?_eq_none (by rw [hdrA_size]; omega)
    rw [h1, h2]
    by_cases e : j = k
    · subst e; rw [if_pos rfl, hdrA_size, if_neg hk]
    · rw [if_neg e]
theorem hdr_cell {W : World} {g n : Nat} {h : Nat → Value} (hg : W.heap[g]? = some (hdrO n h)) (j : Nat) (hj : j < n) : W.cell? ⟨g, j, none⟩ = some (h j) := by rw [cell_of_row _ _ _ _ _ _ hg, hdrA_at _ _ _ hj]
theorem hdr_free {W : World} {g n : Nat} {h : Nat → Value} (hg : W.heap[g]? = some (hdrO n h)) (j : Nat) : W.frozen? ⟨g, j, none⟩ = false := frozen_of_row _ _ _ _ _ hg
theorem hdr_put {W : World} {g n : Nat} {h : Nat → Value} (hg : W.heap[g]? = some (hdrO n h)) (j : Nat) (v : Value) : (W.setCell ⟨g, j, none⟩ v).heap[g]? = some (hdrO n (updN h j v)) := by rw [heap_setCell_same _ _ _ _ _ _ hg, hdrA_put]
theorem updN_comm {α : Type} (f : Nat → α) (i : Nat) (v : α) : updN f i v i = v := by simp [updN]

/-! ### whence blocks are reached, as far as that has been gone through -/
def pvAt (ts : List TermD) (k i y : Nat) : List Nat := ((List.range k).flatMap fun q => ((nx ts q).filter (fun x => x == y)).map fun _ => q) ++ (((nx ts k).take i).filter (fun x => x == y)).map fun _ => k
theorem pvAt_zero (ts : List TermD) (y : Nat) : pvAt ts 0 0 y = [] := by simp [pvAt]
theorem pvAt_next (ts : List TermD) (k i y : Nat) (h : (nx ts k).length ≤ i) : pvAt ts k i y = pvAt ts (k + 1) 0 y := by
  simp only [pvAt, List.take_of_length_le h, List.range_succ, List.flatMap_append, List.flatMap_cons, List.flatMap_nil, List.append_nil, List.take_zero, List.filter_nil, List.map_nil]
theorem pvAt_end (ts : List TermD) (y : Nat) : pvAt ts ts.length 0 y = pv ts y := by simp [pvAt, pv]
theorem pvAt_step (ts : List TermD) (k i : Nat) (x : Nat) (h : (nx ts k)[i]? = some x) (y : Nat) : pvAt ts k (i + 1) y = if y = x then pvAt ts k i y ++ [k] else pvAt ts k i y := by
  have e : (nx ts k).take (i + 1) = (nx ts k).take i ++ [x] := by rw [List.take_add_one, h]; rfl
  simp only [pvAt, e, List.filter_append, List.map_append]
  by_cases hy : y = x
  · subst hy; simp
  · have : (x == y) = false := by simpa using fun e => hy e.symm
    simp [hy, this]
theorem pvAt_len (ts : List TermD) (k i y : Nat) : (pvAt ts k i y).length ≤ 2 * k + 2 := by
  have hn : ∀ q, (nx ts q).length ≤ 2 := fun q => by rw [nx, List.length_map]; exact toD_len _
  have h1 : ∀ k, ((List.range k).flatMap fun q => ((nx ts q).filter (fun x => x == y)).map fun _ => q).length ≤ 2 * k := by
    intro k
    induction k with
    | zero => simp
    | succ k ih =>
      rw [List.range_succ, List.flatMap_append, List.length_append]
      have h2 := List.length_filter_le (fun x => x == y) (nx ts k)
      have h3 := hn k
      simp
      simp at ih
      omega
  have h2 := List.length_filter_le (fun x => x == y) ((nx ts k).take i)
  have h3 : ((nx ts k).take i).length ≤ 2 := by rw [List.length_take]; have := hn k; omega
  have h4 := h1 k
  simp only [pvAt, List.length_append, List.length_map]
  omega
theorem pvAt_lt (ts : List TermD) (k i y : Nat) : ∀ q ∈ pvAt ts k i y, q ≤ k := by
  intro q hq
  simp only [pvAt, List.mem_append, List.mem_flatMap, List.mem_range, List.mem_map] at hq
  rcases hq with ⟨p, hp, _, _, rfl⟩ | ⟨_, _, rfl⟩
  · omega
  · omega
end Go.Proofs.YtblhmdhfhaencaaGreat
