/-
  Slices of records of some cells that read as lists. No program in sight.
-/
import Derived.Test.YtblhmdhfhaencaaGreatBase
import Derived.Laws.OwnMore
import Derived.Test.YtblhmdhfhaencaaGreatRangeT
namespace Go.Proofs.YtblhmdhfhaencaaGreat
set_option linter.unusedSimpArgs false
set_option linter.unusedVariables false
open Go.RowKit

theorem flatMap_at {α : Type} (cs : α → List Value) (size : Nat) (hs : ∀ x, (cs x).length = size) (l : List α) (k j : Nat) (hj : j < size) (x : α) (hx : l[k]? = some x) : (l.flatMap cs)[k * size + j]? = (cs x)[j]? := by
  induction l generalizing k with
  | nil => simp at hx
  | cons y l ih =>
    rw [List.flatMap_cons]
    cases k with
    | zero =>
      simp only [List.getElem?_cons_zero, Option.some.injEq] at hx
      subst hx
      rw [Nat.zero_mul, Nat.zero_add, List.getElem?_append_left (by rw [hs]; exact hj)]
    | succ k =>
      simp only [List.getElem?_cons_succ] at hx
      rw [List.getElem?_append_right (by rw [hs, Nat.add_mul]; omega), hs, show (k + 1) * size + j - size = k * size + j by rw [Nat.add_mul]; omega]
      exact ih k hx
theorem flatMap_len {α : Type} (cs : α → List Value) (size : Nat) (hs : ∀ x, (cs x).length = size) (l : List α) : (l.flatMap cs).length = l.length * size := by
  induction l with
  | nil => simp
  | cons y l ih => rw [List.flatMap_cons, List.length_append, ih, hs, List.length_cons, Nat.add_mul]; omega

theorem takeS {α : Type} (l : List α) (k : Nat) (d : α) (h : k < l.length) : l.take (k + 1) = l.take k ++ [l.getD k d] := by
  rw [List.take_add_one, List.getElem?_eq_getElem h]
  simp [List.getD_eq_getElem?_getD, h]
/-- a slice of records -/
def Recs {α : Type} (size : Nat) (cs : α → List Value) (w : World) (a : Option Addr) (n : Nat) (ls : List α) : Prop :=
  ls.length = n ∧ n ≤ 17592186044416 ∧ ∀ k x, ls[k]? = some x → ∃ b o, a = some ⟨b, o, none⟩ ∧ ∀ j, j < size → w.cell? ⟨b, o + k * size + j, none⟩ = (cs x)[j]?
section
variable {α : Type} {size : Nat} {cs : α → List Value} {w w' : World} {a : Option Addr} {n : Nat} {ls : List α}
theorem Recs.ext (h : Recs size cs w a n ls) (hs : ∀ x, (cs x).length = size) (hb : Below w.heap.size w w') : Recs size cs w' a n ls :=
  ⟨h.1, h.2.1, fun k x hx => by
    obtain ⟨b, o, e, hc⟩ := h.2.2 k x hx
    refine ⟨b, o, e, fun j hj => ?_⟩
    have h1 := hc j hj
    rw [List.getElem?_eq_getElem (by rw [hs]; exact hj)] at h1 ⊢
    exact cell_ext hb h1⟩
theorem Recs.drewN (h : Recs size cs w a n ls) (q : Nat) : Recs size cs (w.drewN q) a n ls := h
theorem Recs.nil (size : Nat) (cs : α → List Value) (w : World) : Recs size cs w none 0 [] := ⟨rfl, by omega, fun k x hx => by simp at hx⟩
theorem Recs.at_ (h : Recs size cs w a n ls) {k : Nat} (hk : k < n) (d : α) : ∃ b o, a = some ⟨b, o, none⟩ ∧ ∀ j, j < size → w.cell? ⟨b, o + k * size + j, none⟩ = (cs (ls.getD k d))[j]? := by
  have hk' : k < ls.length := by rw [h.1]; exact hk
  obtain ⟨b, o, e, hc⟩ := h.2.2 k (ls.getD k d) (by simp [List.getD_eq_getElem?_getD, hk'])
  exact ⟨b, o, e, hc⟩
theorem recs_of_own {base : Nat} {e : TypeId} {v : Value} (hs : ∀ x, (cs x).length = size) (h : w.ownsRow base e size v ls.length (ls.flatMap cs)) (hl : ls.length ≤ 17592186044416) : ∃ a c, v = .slice a ls.length c ∧ Recs size cs w a ls.length ls ∧ ∀ g o s, a = some ⟨g, o, s⟩ → base ≤ g := by
  rcases h.2 with ⟨rfl, h0⟩ | ⟨g, cap, cur, rfl, hb, _⟩
  · have : ls = [] := List.eq_nil_of_length_eq_zero h0
    subst this
    exact ⟨none, 0, rfl, ⟨rfl, hl, fun k x hx => by simp at hx⟩, fun g o s e => by cases e⟩
  · refine ⟨some ⟨g, 0, none⟩, cap, rfl, ⟨rfl, hl, fun k x hx => ⟨g, 0, rfl, fun j hj => ?_⟩⟩, fun g' o s e => ?_⟩
    · have hk := (List.getElem?_eq_some_iff.1 hx).1
      have hlt : k * size + j < ls.length * size := by
        have : (k + 1) * size ≤ ls.length * size := Nat.mul_le_mul_right _ hk
        rw [Nat.add_mul] at this
        omega
      rw [Nat.zero_add, World.ownsRow.cellAt h (k * size + j) hlt, flatMap_at cs size hs ls k j hj x hx]
    · simp only [Option.some.injEq, Addr.mk.injEq] at e
      omega
/-- a block that is a literal of records -/
theorem recs_new (X : World) (H : Nat) (hH : X.heap.size = H) (t : TypeId) (hs : ∀ x, (cs x).length = size) (hl : ls.length ≤ 17592186044416) : Recs size cs (X.alloc (.cells (ls.flatMap cs).toArray t)) (some ⟨H, 0, none⟩) ls.length ls := by
  subst hH
  have hh := heap_alloc_new X (.cells (ls.flatMap cs).toArray t)
  refine ⟨rfl, hl, fun k x hx => ⟨X.heap.size, 0, rfl, fun j hj => ?_⟩⟩
  have h1 := flatMap_at cs size hs ls k j hj x hx
  rw [cell_of_row _ _ _ _ _ _ hh, Nat.zero_add, ← h1]
  simp
end

open Go.RowKit

structure InsD where
  op : Int
  dst : Int
  a : Int
  b : Int
  imm : Int
  callee : Int
  args : List Int
  many : Int
abbrev insV (i : InsD) (aa : Option Addr) (na ca : Nat) : Value := .agg #[.int .i64 i.op, .int .i64 i.dst, .int .i64 i.a, .int .i64 i.b, .int .i64 i.imm, .int .i64 i.callee, .slice aa na ca, .int .i64 i.many]
structure InsR where
  d : InsD
  aa : Option Addr
  na : Nat
  ca : Nat
def insC (r : InsR) : List Value := [.int .i64 r.d.op, .int .i64 r.d.dst, .int .i64 r.d.a, .int .i64 r.d.b, .int .i64 r.d.imm, .int .i64 r.d.callee, .slice r.aa r.na r.ca, .int .i64 r.d.many]
theorem insC_len (r : InsR) : (insC r).length = 8 := rfl
def InsOK (w : World) (r : InsR) : Prop := Ints w r.aa r.na r.d.args ∧ r.na ≤ r.ca ∧ I64 r.d.op ∧ I64 r.d.dst ∧ I64 r.d.a ∧ I64 r.d.b ∧ I64 r.d.imm ∧ I64 r.d.callee ∧ I64 r.d.many
theorem InsOK.ext {w w' : World} {r : InsR} (h : InsOK w r) (hb : Below w.heap.size w w') : InsOK w' r := ⟨h.1.ext hb, h.2⟩
/-- a slice of instructions -/
def InsS (w : World) (a : Option Addr) (n : Nat) (rs : List InsR) : Prop := Recs 8 insC w a n rs ∧ ∀ r ∈ rs, InsOK w r
theorem InsS.ext {w w' : World} {a : Option Addr} {n : Nat} {rs : List InsR} (h : InsS w a n rs) (hb : Below w.heap.size w w') : InsS w' a n rs :=
  ⟨h.1.ext insC_len hb, fun r hr => (h.2 r hr).ext hb⟩
theorem InsS.cells {w : World} {a : Option Addr} {n : Nat} {rs : List InsR} (h : InsS w a n rs) {k : Nat} (hk : k < n) : ∃ r b o, rs[k]? = some r ∧ InsOK w r ∧ a = some ⟨b, o, none⟩ ∧
    w.cell? ⟨b, o + k * 8, none⟩ = some (.int .i64 r.d.op) ∧ w.cell? ⟨b, o + k * 8 + 1, none⟩ = some (.int .i64 r.d.dst) ∧ w.cell? ⟨b, o + k * 8 + 2, none⟩ = some (.int .i64 r.d.a) ∧ w.cell? ⟨b, o + k * 8 + 3, none⟩ = some (.int .i64 r.d.b) ∧
    w.cell? ⟨b, o + k * 8 + 4, none⟩ = some (.int .i64 r.d.imm) ∧ w.cell? ⟨b, o + k * 8 + 5, none⟩ = some (.int .i64 r.d.callee) ∧ w.cell? ⟨b, o + k * 8 + 6, none⟩ = some (.slice r.aa r.na r.ca) ∧ w.cell? ⟨b, o + k * 8 + 7, none⟩ = some (.int .i64 r.d.many) := by
  have hk' : k < rs.length := by rw [h.1.1]; exact hk
  obtain ⟨r, hr⟩ : ∃ r, rs[k]? = some r := ⟨rs[k], List.getElem?_eq_getElem hk'⟩
  obtain ⟨b, o, e, hc⟩ := h.1.2.2 k r hr
  exact ⟨r, b, o, hr, h.2 r (List.mem_of_getElem? hr), e, hc 0 (by omega), hc 1 (by omega), hc 2 (by omega), hc 3 (by omega), hc 4 (by omega), hc 5 (by omega), hc 6 (by omega), hc 7 (by omega)⟩
abbrev insVR (r : InsR) : Value := insV r.d r.aa r.na r.ca


open Go.RowKit

/-- a slice of the call's own that reads as a list of records -/
def OwnR {α : Type} (e : TypeId) (size : Nat) (cs : α → List Value) (w : World) (base : Nat) (v : Value) (ls : List α) : Prop := w.ownsRow base e size v ls.length (ls.flatMap cs) ∧ ls.length ≤ 17592186044416
section
variable {α : Type} {e : TypeId} {size : Nat} {cs : α → List Value} {w w' : World} {base base' : Nat} {v : Value} {ls : List α}
theorem OwnR.nil (e : TypeId) (size : Nat) (cs : α → List Value) (w : World) (base : Nat) : OwnR e size cs w base (.slice none 0 0) [] := ⟨World.ownsRow_nil _ _ _ _, by simp⟩
theorem OwnR.mono (h : OwnR e size cs w base v ls) (hb : base' ≤ base) : OwnR e size cs w base' v ls := by
  refine ⟨⟨h.1.1, ?_⟩, h.2⟩
  rcases h.1.2 with h0 | ⟨g, cap, cur, hv, h1, r⟩
  · exact .inl h0
  · exact .inr ⟨g, cap, cur, hv, Nat.le_trans hb h1, r⟩
theorem OwnR.kept {row : Option Nat} (h : OwnR e size cs w base v ls) (hg : w.grownBy w' row) (hne : v.ownBlock = none ∨ v.ownBlock ≠ row) : OwnR e size cs w' base v ls := ⟨h.1.kept hg hne, h.2⟩
theorem OwnR.ext (h : OwnR e size cs w base v ls) (hb : Below w.heap.size w w') : OwnR e size cs w' base v ls := by
  refine ⟨h.1.kept (row := none) ⟨hb.os, hb.tape, hb.output, hb.size, fun k hk _ => hb.block k hk⟩ ?_, h.2⟩
  cases h1 : v.ownBlock with
  | none => exact .inl rfl
  | some k => exact .inr (by simp)
theorem OwnR.form (h : OwnR e size cs w base v ls) : ∃ a c, v = .slice a ls.length c := by
  rcases h.1.2 with ⟨rfl, h0⟩ | ⟨g, cap, cur, hv, _⟩
  · have h0 : ls.length = 0 := h0
    rw [h0]
    exact ⟨none, 0, rfl⟩
  · exact ⟨_, _, hv⟩
theorem OwnR.recs {a : Option Addr} {n c : Nat} (hs : ∀ x, (cs x).length = size) (h : OwnR e size cs w base (.slice a n c) ls) : Recs size cs w a n ls := by
  obtain ⟨a', c', e1, e2, _⟩ := recs_of_own hs h.1 h.2
  injection e1 with h1 h2 h3
  subst h1 h2 h3
  exact e2
theorem OwnR.low {k : Nat} (h : OwnR e size cs w base v ls) (hk : v.ownBlock = some k) : base ≤ k ∧ k < w.heap.size := ⟨(h.1.lt k hk).1, (h.1.lt k hk).2⟩
theorem Steady.ownR (D base : Nat) (v : Value) (ls : List α) : Steady D (fun W => OwnR e size cs W base v ls) := (Steady.ownsRow _ _ _ _ _ _ _).and (Steady.pure _ _)
end
/-- a variable's block, and that of the row in it -/
def TV (B : Nat) (ty : TypeId) (W : World) (k : Nat) : Prop := k = B ∨ ∃ v, W.heap[B]? = some (.cells #[v] ty (0, 0)) ∧ v.ownBlock = some k
theorem TV.ext {B : Nat} {ty : TypeId} {W W' : World} (h : W'.heap[B]? = W.heap[B]?) {k : Nat} (ht : TV B ty W' k) : TV B ty W k := by
  rcases ht with ht | ⟨v, hv, hk⟩
  · exact .inl ht
  · exact .inr ⟨v, h ▸ hv, hk⟩
theorem tch_var {W W' : World} {B : Nat} {ty : TypeId} {v v' : Value} (hB : W.heap[B]? = some (.cells #[v] ty (0, 0))) (hB' : W'.heap[B]? = some (.cells #[v'] ty (0, 0))) (hs : W.heap.size ≤ W'.heap.size)
    (hk : ∀ k, k < W.heap.size → k ≠ B → v.ownBlock ≠ some k → W'.heap[k]? = W.heap[k]?) (ho : ∀ k, v'.ownBlock = some k → v.ownBlock = some k ∨ W.heap.size ≤ k) : Tch (TV B ty) W W' := by
  refine ⟨hs, fun k h1 h2 => hk k h1 (fun e => h2 (.inl e)) (fun e => h2 (.inr ⟨v, hB, e⟩)), fun k ht => ?_⟩
  rcases ht with ht | ⟨u, hu, huk⟩
  · exact .inl (.inl ht)
  · rw [hB'] at hu
    simp only [Option.some.injEq, Obj.cells.injEq, Array.mk.injEq, List.cons.injEq, and_true] at hu
    obtain ⟨rfl, _⟩ := hu
    rcases ho k huk with h | h
    · exact .inl (.inr ⟨v, hB, h⟩)
    · exact .inr h
theorem tch_below {W W' : World} {B : Nat} {ty : TypeId} (hB : B < W.heap.size) (hb : Below W.heap.size W W') : Tch (TV B ty) W W' :=
  ⟨hb.size, fun k hk _ => hb.block k hk, fun _ ht => .inl (ht.ext (hb.block B hB))⟩
section
variable {P : Program}
/-- THE CALLER's LAW where a list's elements are gone through, outermost loop; what the assignment has made (G) is chosen in the round -/
theorem range_listTB {α : Type} {g : Operand} {ps : Array Tmp} {assign body : Code} {Q : Exit → Act → World → Prop} {a : Act} {w : World} {gf : Nat} {lb : Array Value}
    (hg : a.eval g = .func (.func gf) #[] lb) (eg : ∀ args w, (callFunc gf args).run P w = .ok (.enter gf args) w)
    {enc : α → Array Value} {l : List α} (I : World → Prop) (hit : IterTI P gf lb enc l I) (hps : ∀ x, (enc x).size = ps.size)
    (J : List α → List α → World → Prop) (Jx : Code → World → Prop)
    (hJ : ∀ d r, Steady w.heap.size (J d r)) (hJx : ∀ c, Steady w.heap.size (Jx c)) (hInv : ∀ d r W, J d r W → I W)
    (T : World → Nat → Prop) (hT0 : ∀ d r W k, J d r W → T W k → k < W.heap.size) (hTg : ∀ W W' row, W.grownBy W' row → (∀ q, row = some q → w.heap.size ≤ q ∧ ∃ o : Obj, W.heap[q]? = some o ∧ isBook o = true) → (∃ d r, J d r W) → ∀ k, T W' k → T W k)
    (h0 : J [] l w)
    (hround : ∀ (lp : Nat) (d : List α) (x : α) (r : List α) (W : World), l = d ++ x :: r → J d (x :: r) W →
      assign.wpIn (Fence.wide.inRound lp) 0 P (Exit.then (fun a1 W1 => Keep W W1 ∧ J d (x :: r) W1 ∧ Tch T W W1 ∧ ∃ G : World → Prop, Steady w.heap.size G ∧ G W1 ∧ ∀ (lp : Nat) (W2 : World), J d (x :: r) W2 → G W2 →
        body.wpIn (Fence.wide.inRound lp) 0 P (roundEnd (fun W' => Keep W2 W' ∧ J (d ++ [x]) r W' ∧ Tch T W2 W') (fun c W' => Keep W2 W' ∧ Jx c W')) a1 W2) (fun _ _ _ => False)) { tmps := (ps.zip (enc x)).foldl (fun t (p, v) => t.setIfInBounds p v) a.tmps, defers := [] } W)
    (hdone : ∀ (D : Nat) (W : World), w.heap.size ≤ D → J l [] W → W.heap[D]? = some (.deferred (some [])) → Q .normal { a with defers := { target := .collected D, args := #[] } :: a.defers } W)
    (hstop : ∀ (D : Nat) (c : Code) (W : World), w.heap.size ≤ D → Jx c W → W.heap[D]? = some (.deferred (some [])) → c.wpIn Fence.wide 0 P Q { a with defers := { target := .collected D, args := #[] } :: a.defers } W) :
    (Code.rangeFunc g ps assign body).wpIn Fence.wide 0 P Q a w := by
  refine range_outerT (enc := enc) hg eg hit hps (fun s W => ∃ d, l = d ++ s ∧ J d s W) Jx
    (fun s x a1 W => ∃ G : World → Prop, Steady w.heap.size G ∧ G W ∧ ∀ (d : List α) (lp : Nat) (W2 : World), l = d ++ s → J d s W2 → G W2 → body.wpIn (Fence.wide.inRound lp) 0 P (roundEnd (fun W' => Keep W2 W' ∧ J (d ++ [x]) (nxL s x) W' ∧ Tch T W2 W') (fun c W' => Keep W2 W' ∧ Jx c W')) a1 W2)
    (fun s => Steady.ex fun d => (Steady.pure _ _).and (hJ d s)) hJx (fun _ _ _ => fun W W' row h hg hr => let ⟨G, h1, h2, h3⟩ := h; ⟨G, h1, h1 W W' row h2 hg hr, h3⟩) (fun s W ⟨d, _, h⟩ => hInv d s W h) T (fun s W k ⟨d, _, h⟩ ht => hT0 d s W k h ht) (fun W W' row hg hr ⟨s, d, _, h⟩ => hTg W W' row hg hr ⟨d, s, h⟩) ⟨[], rfl, h0⟩ ?_ ?_ ?_ hstop
  · rintro lp s x W hok ⟨d, hd, hj⟩
    have hs := okL_cons hok
    generalize nxL s x = r at hs ⊢
    subst hs
    refine wpIn_mono (hround lp d x r W hd hj) ?_
    rintro e a1 W1 he
    cases e with
    | normal =>
      obtain ⟨h1, h2, hT1, G, h4, h5, h3⟩ := he
      refine ⟨h1, ⟨d, hd, h2⟩, ⟨G, h4, h5, fun d' lp' W2 hd' hj' hG' => ?_⟩, hT1⟩
      have : d' = d := by
        have := hd'.symm.trans hd
        exact List.append_cancel_right this
      subst this
      exact h3 lp' W2 hj' hG'
    | _ => exact he.elim
  · rintro lp s x a1 W hok ⟨d, hd, hj⟩ ⟨G, _, hG, hA⟩
    refine wpIn_mono (hA d lp W hd hj hG) ?_
    rintro e a3 W3 he
    cases e with
    | normal =>
      refine ⟨he.1, ⟨d ++ [x], ?_, he.2.1⟩, he.2.2⟩
      rw [hd, List.append_assoc]
      congr 1
      exact okL_cons hok
    | ret => exact he
    | exit id => exact he
    | goto t => exact he
    | panic ch => exact he.elim
    | outgrown => exact he.elim
  · rintro D s W hD hf ⟨d, hd, hj⟩ hk
    have hf : s = [] := hf
    subst hf
    rw [List.append_nil] at hd
    subst hd
    exact hdone D W hD hj hk
end
end Go.Proofs.YtblhmdhfhaencaaGreat
