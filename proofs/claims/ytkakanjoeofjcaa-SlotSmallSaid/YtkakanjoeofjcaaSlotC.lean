/-
  What package slot's maker has in memory: the map of whom each variable may not share with.
-/
import Derived.Test.YtkakanjoeofjcaaWalkC
import Derived.Carry
namespace Go.Proofs.Ytkakanjoeofjcaa
open Go.RowKit

abbrev nilS : Value := .slice none 0 0

theorem ownsRow_put {W : World} {base : Nat} {e : TypeId} {size : Nat} {v : Value} {k : Nat} {xs : List Value} (h : W.ownsRow base e size v k xs) {l : Nat} (o' : Obj) (hl : l < base) : (W.putObj l o').ownsRow base e size v k xs := by
  refine ⟨h.1, ?_⟩
  rcases h.2 with h2 | ⟨g, cap, cur, hv, hb, hh, r⟩
  · exact Or.inl h2
  · exact Or.inr ⟨g, cap, cur, hv, hb, (World.putObj_heap_other (by omega)).trans hh, r⟩

def updL (nt : Int → List Int) (v x : Int) : Int → List Int := fun j => if j = v then nt v ++ [x] else nt j

/-- the map in block N: each variable's row of those that it may not share with; the rows lie apart, from base on -/
def NotM (W : World) (base N : Nat) (nt : Int → List Int) (f : Int → Option Value) : Prop :=
  IMap W N f ∧ N < base ∧ (∀ v, W.ownsRow base 3 1 ((f v).getD nilS) (nt v).length ((nt v).map (Value.int .i64))) ∧
  (∀ v v' g, v ≠ v' → ((f v).getD nilS).ownBlock = some g → ((f v').getD nilS).ownBlock ≠ some g)

section
variable {W : World} {base N : Nat} {nt : Int → List Int} {f : Int → Option Value}
theorem NotM.made (W : World) {base : Nat} (h : W.heap.size < base) : NotM (W.alloc (.map #[] 0)) base W.heap.size (fun _ => []) (fun _ => none) :=
  ⟨IMap.made W, h, fun v => World.ownsRow_nil _ _ _ _, fun v v' g _ h => by simp [Value.ownBlock] at h⟩
theorem NotM.ext {W' : World} (h : NotM W base N nt f) (hb : Below W.heap.size W W') : NotM W' base N nt f :=
  ⟨h.1.ext hb, h.2.1, fun v => (Steady.ownsRow W.heap.size _ _ _ _ _ _).ext (h.2.2.1 v) hb, h.2.2.2⟩
theorem NotM.setCell (h : NotM W base N nt f) {p : Addr} (hp : p.block < base) (u : Value) : NotM (W.setCell p u) base N nt f :=
  ⟨h.1.setCell _ _, h.2.1, fun v => ownsRow_setCell_below (h.2.2.1 v) hp u, h.2.2.2⟩
theorem NotM.put (h : NotM W base N nt f) {l : Nat} (o : Obj) (hl : l < base) (hne : l ≠ N) : NotM (W.putObj l o) base N nt f :=
  ⟨h.1.of_block (World.putObj_heap_other (Ne.symm hne)), h.2.1, fun v => ownsRow_put (h.2.2.1 v) o hl, h.2.2.2⟩
theorem NotM.grown {W' : World} {row : Option Nat} (h : NotM W base N nt f) (hg : W.grownBy W' row) (hr : ∀ r, row = some r → base ≤ r ∧ ∀ v, ((f v).getD nilS).ownBlock ≠ some r) : NotM W' base N nt f :=
  ⟨h.1.grown hg (fun e => by have := (hr _ e.symm).1; have := h.2.1; omega), h.2.1, fun v => (h.2.2.1 v).kept hg (by
    cases hv : ((f v).getD nilS).ownBlock with
    | none => exact Or.inl rfl
    | some r => exact Or.inr (fun e => (hr r e.symm).2 v hv)), h.2.2.2⟩
theorem NotM.row_lt (h : NotM W base N nt f) (v : Int) (g : Nat) (hg : ((f v).getD nilS).ownBlock = some g) : base ≤ g ∧ g < W.heap.size := (h.2.2.1 v).lt g hg

theorem NotM.step (h : NotM W base N nt f) (v x : Int) (w2 : World) (g cap : Nat)
    (hown : w2.ownsRow base 3 1 (.slice (some ⟨g, 0, none⟩) ((nt v).length + 1) cap) ((nt v).length + 1) ((nt v).map (Value.int .i64) ++ [.int .i64 x]))
    (hg : W.grownBy w2 ((f v).getD nilS).ownBlock) (hat : some g = ((f v).getD nilS).ownBlock ∨ g = W.heap.size + 1) :
    IMap w2 N f ∧ ∀ o, IMap (w2.putObj N o) N (upd f v (.slice (some ⟨g, 0, none⟩) ((nt v).length + 1) cap)) → NotM (w2.putObj N o) base N (updL nt v x) (upd f v (.slice (some ⟨g, 0, none⟩) ((nt v).length + 1) cap)) := by
  have hN : some N ≠ ((f v).getD nilS).ownBlock := fun e => by have := (h.row_lt v N e.symm).1; have := h.2.1; omega
  refine ⟨h.1.grown hg hN, fun o ho => ⟨ho, h.2.1, fun v' => ?_, fun v1 v2 g' hne h1 => ?_⟩⟩
  · by_cases e : v' = v
    · subst e
      simp only [upd, updL, if_true, Option.getD_some, List.length_append, List.length_cons, List.length_nil, List.map_append, List.map_cons, List.map_nil]
      exact ownsRow_put hown o h.2.1
    · simp only [upd, updL, if_neg e]
      refine ownsRow_put ((h.2.2.1 v').kept hg ?_) o h.2.1
      cases hv : ((f v').getD nilS).ownBlock with
      | none => exact Or.inl rfl
      | some r => exact Or.inr (fun e' => h.2.2.2 v' v r e hv e'.symm)
  · by_cases e1 : v1 = v
    · subst e1
      have e2 : ¬ v2 = v1 := fun e => hne e.symm
      simp only [upd, if_true, if_neg e2, Option.getD_some, Value.ownBlock, Option.some.injEq] at h1 ⊢
      subst h1
      intro h2
      rcases hat with hat | hat
      · exact h.2.2.2 v1 v2 g hne hat.symm h2
      · have := (h.row_lt v2 g h2).2; omega
    · by_cases e2 : v2 = v
      · subst e2
        simp only [upd, if_true, if_neg e1, Option.getD_some, Value.ownBlock] at h1 ⊢
        intro h2
        simp only [Option.some.injEq] at h2
        subst h2
        rcases hat with hat | hat
        · exact h.2.2.2 v1 v2 g hne h1 hat.symm
        · have := (h.row_lt v1 g h1).2; omega
      · simp only [upd, if_neg e1, if_neg e2] at h1 ⊢
        exact h.2.2.2 v1 v2 g' hne h1
end

/-- a row of ints of the call's own reads as ints -/
theorem ints_of_own {W : World} {base : Nat} {v : Value} {ns : List Int} (h : W.ownsRow base 3 1 v ns.length (ns.map (Value.int .i64))) (hl : ns.length ≤ 17592186044416) (hw : ∀ x ∈ ns, I64 x) :
    ∃ a c, v = .slice a ns.length c ∧ Ints W a ns.length ns := by
  rcases h.2 with ⟨rfl, h0⟩ | ⟨g, cap, cur, rfl, _, hh, _, _, _, ht⟩
  · exact ⟨none, 0, by rw [h0], rfl, hl, fun k hk => by omega⟩
  · refine ⟨some ⟨g, 0, none⟩, cap, rfl, rfl, hl, fun k hk => ⟨g, 0, rfl, ?_, ?_⟩⟩
    · have hc := h.cells (g := g) rfl k (.int .i64 (ns.getD k 0)) (by simp [List.getD, hk])
      have hadd : (⟨g, 0, none⟩ : Addr).add k = ⟨g, 0 + k, none⟩ := by unfold Addr.add; split <;> simp_all
      rw [hadd] at hc
      exact hc
    · exact hw _ (by simp [List.getD, hk])

/-- whom a variable may not share with, in the order of the pairs -/
def notsOf : List (Int × Int) → Int → List Int
  | [], _ => []
  | p :: ps, v => (if p.1 = v then [p.2] else []) ++ (if p.2 = v then [p.1] else []) ++ notsOf ps v
theorem notsOf_snoc (ps : List (Int × Int)) (p : Int × Int) (v : Int) : notsOf (ps ++ [p]) v = notsOf ps v ++ (if p.1 = v then [p.2] else []) ++ (if p.2 = v then [p.1] else []) := by
  induction ps with
  | nil => simp [notsOf]
  | cons q ps ih => simp [notsOf, ih, List.append_assoc]
theorem notsOf_len (ps : List (Int × Int)) (v : Int) : (notsOf ps v).length ≤ 2 * ps.length := by
  induction ps with
  | nil => simp [notsOf]
  | cons q ps ih =>
    simp only [notsOf, List.length_append, List.length_cons]
    split <;> split <;> simp <;> omega
theorem notsOf_upd (ps : List (Int × Int)) (a b : Int) (h : a ≠ b) : updL (updL (notsOf ps) a b) b a = notsOf (ps ++ [(a, b)]) := by
  funext v
  simp only [updL, notsOf_snoc]
  by_cases h1 : v = b
  · subst h1; simp [h, Ne.symm h]
  · by_cases h2 : v = a
    · subst h2; simp [h1, Ne.symm h1]
    · simp [h1, h2, Ne.symm h1, Ne.symm h2]
theorem mem_notsOf (ps : List (Int × Int)) (v x : Int) : x ∈ notsOf ps v ↔ (v, x) ∈ ps ∨ (x, v) ∈ ps := by
  induction ps with
  | nil => simp [notsOf]
  | cons q ps ih =>
    obtain ⟨q1, q2⟩ := q
    simp only [notsOf, List.mem_append, ih, List.mem_cons, Prod.mk.injEq]
    constructor
    · rintro ((h | h) | h)
      · split at h <;> simp_all
      · split at h <;> simp_all
      · rcases h with h | h <;> simp [h]
    · rintro ((⟨rfl, rfl⟩ | h) | (⟨rfl, rfl⟩ | h)) <;> simp_all
end Go.Proofs.Ytkakanjoeofjcaa
