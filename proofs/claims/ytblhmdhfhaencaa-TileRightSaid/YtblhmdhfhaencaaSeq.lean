/-
  Slices of records of some cells that read as lists. No program in sight.
-/
import Derived.Test.YtblhmdhfhaencaaEP
import Derived.Laws.OwnMore
import Derived.Test.YtblhmdhfhaencaaMix
import Derived.Test.YtblhmdhfhaencaaRows
import Derived.ChangeKeysEq
import Derived.WalkSpells
import Derived.Test.YtblhmdhfhaencaaSortP
namespace Go.Proofs.Ytblhmdhfhaencaa
set_option linter.unusedSimpArgs false
set_option linter.unusedVariables false
set_option linter.unusedSectionVars false
section
open Go.RowKit

theorem flatMap_at {α : Type} (cs : α → List Value) (size : Nat) (hs : ∀ x, (cs x).length = size) (l : List α) (k j : Nat) (hj : j < size) (x : α) (hx : l[k]? = some x) : (l.flatMap cs)[k * size + j]? = (cs x)[j]? := by
  induction l generalizing k with
  | nil => simp at hx
  | cons y l ih =>
    rw [List.flatMap_cons]
    cases k with
    | zero =>
      simp only [List.getElem?_cons_zero, Option.some.injEq] at hx
      subst hx
      rw [Nat.zero_mul, Nat.zero_add, List.getElem?_append_left (by rw [hs]; exact hj)]
    | succ k =>
      simp only [List.getElem?_cons_succ] at hx
      rw [List.getElem?_append_right (by rw [hs, Nat.add_mul]; omega), hs, show (k + 1) * size + j - size = k * size + j by rw [Nat.add_mul]; omega]
      exact ih k hx
theorem flatMap_len {α : Type} (cs : α → List Value) (size : Nat) (hs : ∀ x, (cs x).length = size) (l : List α) : (l.flatMap cs).length = l.length * size := by
  induction l with
  | nil => simp
  | cons y l ih => rw [List.flatMap_cons, List.length_append, ih, hs, List.length_cons, Nat.add_mul]; omega

theorem takeS {α : Type} (l : List α) (k : Nat) (d : α) (h : k < l.length) : l.take (k + 1) = l.take k ++ [l.getD k d] := by
  rw [List.take_add_one, List.getElem?_eq_getElem h]
  simp [List.getD_eq_getElem?_getD, h]
/-- a slice of records -/
def Recs {α : Type} (size : Nat) (cs : α → List Value) (w : World) (a : Option Addr) (n : Nat) (ls : List α) : Prop :=
  ls.length = n ∧ n ≤ 17592186044416 ∧ ∀ k x, ls[k]? = some x → ∃ b o, a = some ⟨b, o, none⟩ ∧ ∀ j, j < size → w.cell? ⟨b, o + k * size + j, none⟩ = (cs x)[j]?
section
variable {α : Type} {size : Nat} {cs : α → List Value} {w w' : World} {a : Option Addr} {n : Nat} {ls : List α}
theorem Recs.ext (h : Recs size cs w a n ls) (hs : ∀ x, (cs x).length = size) (hb : Below w.heap.size w w') : Recs size cs w' a n ls :=
  ⟨h.1, h.2.1, fun k x hx => by
    obtain ⟨b, o, e, hc⟩ := h.2.2 k x hx
    refine ⟨b, o, e, fun j hj => ?_⟩
    have h1 := hc j hj
    rw [List.getElem?_eq_getElem (by rw [hs]; exact hj)] at h1 ⊢
    exact cell_ext hb h1⟩
theorem Recs.drewN (h : Recs size cs w a n ls) (q : Nat) : Recs size cs (w.drewN q) a n ls := h
theorem Recs.nil (size : Nat) (cs : α → List Value) (w : World) : Recs size cs w none 0 [] := ⟨rfl, by omega, fun k x hx => by simp at hx⟩
theorem Recs.at_ (h : Recs size cs w a n ls) {k : Nat} (hk : k < n) (d : α) : ∃ b o, a = some ⟨b, o, none⟩ ∧ ∀ j, j < size → w.cell? ⟨b, o + k * size + j, none⟩ = (cs (ls.getD k d))[j]? := by
  have hk' : k < ls.length := by rw [h.1]; exact hk
  obtain ⟨b, o, e, hc⟩ := h.2.2 k (ls.getD k d) (by simp [List.getD_eq_getElem?_getD, hk'])
  exact ⟨b, o, e, hc⟩
theorem recs_of_own {base : Nat} {e : TypeId} {v : Value} (hs : ∀ x, (cs x).length = size) (h : w.ownsRow base e size v ls.length (ls.flatMap cs)) (hl : ls.length ≤ 17592186044416) : ∃ a c, v = .slice a ls.length c ∧ Recs size cs w a ls.length ls ∧ ∀ g o s, a = some ⟨g, o, s⟩ → base ≤ g := by
  rcases h.2 with ⟨rfl, h0⟩ | ⟨g, cap, cur, rfl, hb, _⟩
  · have : ls = [] := List.eq_nil_of_length_eq_zero h0
    subst this
    exact ⟨none, 0, rfl, ⟨rfl, hl, fun k x hx => by simp at hx⟩, fun g o s e => by cases e⟩
  · refine ⟨some ⟨g, 0, none⟩, cap, rfl, ⟨rfl, hl, fun k x hx => ⟨g, 0, rfl, fun j hj => ?_⟩⟩, fun g' o s e => ?_⟩
    · have hk := (List.getElem?_eq_some_iff.1 hx).1
      have hlt : k * size + j < ls.length * size := by
        have : (k + 1) * size ≤ ls.length * size := Nat.mul_le_mul_right _ hk
        rw [Nat.add_mul] at this
        omega
      rw [Nat.zero_add, World.ownsRow.cellAt h (k * size + j) hlt, flatMap_at cs size hs ls k j hj x hx]
    · simp only [Option.some.injEq, Addr.mk.injEq] at e
      omega
/-- a block that is a literal of records -/
theorem recs_new (X : World) (H : Nat) (hH : X.heap.size = H) (t : TypeId) (hs : ∀ x, (cs x).length = size) (hl : ls.length ≤ 17592186044416) : Recs size cs (X.alloc (.cells (ls.flatMap cs).toArray t)) (some ⟨H, 0, none⟩) ls.length ls := by
  subst hH
  have hh := heap_alloc_new X (.cells (ls.flatMap cs).toArray t)
  refine ⟨rfl, hl, fun k x hx => ⟨X.heap.size, 0, rfl, fun j hj => ?_⟩⟩
  have h1 := flatMap_at cs size hs ls k j hj x hx
  rw [cell_of_row _ _ _ _ _ _ hh, Nat.zero_add, ← h1]
  simp
end
end

section
open Go.RowKit
theorem addr_add (b o m : Nat) : (⟨b, o, none⟩ : Addr).add m = ⟨b, o + m, none⟩ := by
  unfold Addr.add
  split <;> simp_all
section
variable {P : Program} {Q : Exit → Act → World → Prop}
theorem run_append_rows (w : World) (base : Nat) (t ty e : TypeId) (z : Value) (size bytes : Nat) (ht : P.underlying t = some (.slice e)) (hinfo : (P.info? e).map (fun i => (i.zero, i.size, i.bytes)) = some (some z, size, bytes)) (hzs : z.cells.size = size) (hsz : 0 < size)
    (v : Value) (n : Nat) (xs : List Value) (hown : w.ownsRow base e size v n xs) (A : Option Addr) (m c : Nat) (news : List Value) (hl : news.length = m * size)
    (hr : ∀ j u, news[j]? = some u → ∃ ad, A = some ad ∧ w.cell? (ad.add j) = some u) (h1 : ∀ u ∈ news, u.oneCell' = true)
    (h63 : n + m ≤ maxLen) (hbytes : (n + m) * bytes ≤ 140737488355328) (hbase : base ≤ w.heap.size) :
    ∃ v' w', (Builtin.append_ #[t, t] ty #[v, .slice A m c]).run P w = .ok v' w' ∧ w'.ownsRow base e size v' (n + m) (xs ++ news) ∧ w.grownBy w' v.ownBlock ∧ (v'.ownBlock = v.ownBlock ∨ v'.ownBlock = some w.heap.size) := by
  obtain ⟨i, hi, hz, hsize, hby⟩ := info_parts hinfo
  rcases A with _ | ad
  · have hm : news = [] := by
      cases news with
      | nil => rfl
      | cons u l => obtain ⟨ad, h, _⟩ := hr 0 u rfl; cases h
    subst hm
    obtain rfl : m = 0 := by
      simp only [List.length_nil] at hl
      rcases Nat.mul_eq_zero.1 hl.symm with h | h <;> omega
    refine ⟨v, w, ?_, by simpa using hown, ⟨rfl, rfl, rfl, Nat.le_refl _, fun _ _ _ => rfl⟩, Or.inl rfl⟩
    rcases hown.2 with ⟨rfl, rfl⟩ | ⟨g, cap, cur, rfl, _, _, hnc, _⟩
    · simp [Builtin.append_, run_underlying ht, sizeOf, typeInfo, hi, Builtin.lenOf, Builtin.firstCells]
    · simp [Builtin.append_, run_underlying ht, sizeOf, typeInfo, hi, Builtin.lenOf, Builtin.firstCells, hnc, storeCells]
  · obtain ⟨v', w', hrun, h2, h3, _, h5⟩ := run_append_own_at (P := P) w base t ty e i z size bytes ht hi hz hsize hby hzs hsz v n xs hown ad m c news hl
      (fun j u hu => by obtain ⟨ad', h, hc⟩ := hr j u hu; cases h; exact hc) h1 h63 hbytes hbase
    exact ⟨v', w', hrun, h2, h3, h5⟩

theorem wpList_appendR {ops : Array Oper} {rest : List Oper} {o : Oper} {a : Act} (w : World) (hgd : o.guard = none) (s x : Operand) (t e : TypeId) (ho : o.op = .call { callee := .builtin .append, args := #[s, x], argTypes := #[t, t] })
    (base : Nat) (z : Value) (size bytes : Nat) (ht : P.underlying t = some (.slice e)) (hinfo : (P.info? e).map (fun i => (i.zero, i.size, i.bytes)) = some (some z, size, bytes)) (hzs : z.cells.size = size) (hsz : 0 < size)
    (v : Value) (n : Nat) (xs : List Value) (hs : a.eval s = v) (hown : w.ownsRow base e size v n xs) (A : Option Addr) (m c : Nat) (hx : a.eval x = .slice A m c) (news : List Value) (hl : news.length = m * size)
    (hr : ∀ j u, news[j]? = some u → ∃ ad, A = some ad ∧ w.cell? (ad.add j) = some u) (h1 : ∀ u ∈ news, u.oneCell' = true)
    (h63 : n + m ≤ maxLen) (hbytes : (n + m) * bytes ≤ 140737488355328) (hbase : base ≤ w.heap.size)
    (h : ∀ v' w', w'.ownsRow base e size v' (n + m) (xs ++ news) → w.grownBy w' v.ownBlock → (v'.ownBlock = v.ownBlock ∨ v'.ownBlock = some w.heap.size) → wpList P ops Q rest (a.put o.dst v') w') :
    wpList P ops Q (o :: rest) a w := by
  refine wpList_plain hgd fun K hK => ?_
  obtain ⟨v', w', hrun, h2, h3, h4⟩ := run_append_rows (P := P) w base t o.type e z size bytes ht hinfo hzs hsz v n xs hown A m c news hl hr h1 h63 hbytes hbase
  unfold Oper.wp execOp
  simp only [ho, resolve, invoke, builtin, Sem.run_bind, Sem.run_pure, Result.andThen_ok, List.map_toArray, List.map_cons, List.map_nil, hs, hx, hrun]
  exact hK _ _ (h v' w' h2 h3 h4)
/-- the same, at the operation -/
theorem op_appendR {o : Oper} {a : Act} {K : Act → World → Prop} (w : World) (s x : Operand) (t e : TypeId) (ho : o.op = .call { callee := .builtin .append, args := #[s, x], argTypes := #[t, t] })
    (base : Nat) (z : Value) (size bytes : Nat) (ht : P.underlying t = some (.slice e)) (hinfo : (P.info? e).map (fun i => (i.zero, i.size, i.bytes)) = some (some z, size, bytes)) (hzs : z.cells.size = size) (hsz : 0 < size)
    (v : Value) (n : Nat) (xs : List Value) (hs : a.eval s = v) (hown : w.ownsRow base e size v n xs) (A : Option Addr) (m c : Nat) (hx : a.eval x = .slice A m c) (news : List Value) (hl : news.length = m * size)
    (hr : ∀ j u, news[j]? = some u → ∃ ad, A = some ad ∧ w.cell? (ad.add j) = some u) (h1 : ∀ u ∈ news, u.oneCell' = true)
    (h63 : n + m ≤ maxLen) (hbytes : (n + m) * bytes ≤ 140737488355328) (hbase : base ≤ w.heap.size)
    (h : ∀ v' w', w'.ownsRow base e size v' (n + m) (xs ++ news) → w.grownBy w' v.ownBlock → (v'.ownBlock = v.ownBlock ∨ v'.ownBlock = some w.heap.size) → (∀ w0, Below base w0 w → Below base w0 w') → K (a.put o.dst v') w') :
    o.wp P a w K Q := by
  obtain ⟨v', w', hrun, h2, h3, h4⟩ := run_append_rows (P := P) w base t o.type e z size bytes ht hinfo hzs hsz v n xs hown A m c news hl hr h1 h63 hbytes hbase
  unfold Oper.wp execOp
  simp only [ho, resolve, invoke, builtin, Sem.run_bind, Sem.run_pure, Result.andThen_ok, List.map_toArray, List.map_cons, List.map_nil, hs, hx, hrun]
  exact h v' w' h2 h3 h4 (fun w0 hb => hb.grown h3 hbase (fun k hk => (hown.lt k hk).1))
/-- the same inside a region that draws -/
theorem step_appendR {ops : Array Oper} {o : Oper} {a : Act} {K : Act → World → Prop} {E : Prop} (w : World) (hgd : o.guard = none) (s x : Operand) (t e : TypeId) (ho : o.op = .call { callee := .builtin .append, args := #[s, x], argTypes := #[t, t] })
    (base : Nat) (z : Value) (size bytes : Nat) (ht : P.underlying t = some (.slice e)) (hinfo : (P.info? e).map (fun i => (i.zero, i.size, i.bytes)) = some (some z, size, bytes)) (hzs : z.cells.size = size) (hsz : 0 < size)
    (v : Value) (n : Nat) (xs : List Value) (hs : a.eval s = v) (hown : w.ownsRow base e size v n xs) (A : Option Addr) (m c : Nat) (hx : a.eval x = .slice A m c) (news : List Value) (hl : news.length = m * size)
    (hr : ∀ j u, news[j]? = some u → ∃ ad, A = some ad ∧ w.cell? (ad.add j) = some u) (h1 : ∀ u ∈ news, u.oneCell' = true)
    (h63 : n + m ≤ maxLen) (hbytes : (n + m) * bytes ≤ 140737488355328) (hbase : base ≤ w.heap.size)
    (h : ∀ v' w', w'.ownsRow base e size v' (n + m) (xs ++ news) → w.grownBy w' v.ownBlock → (v'.ownBlock = v.ownBlock ∨ v'.ownBlock = some w.heap.size) → (∀ w0, Below base w0 w → Below base w0 w') → K (a.put o.dst v') w') :
    if Region.wanted o (yielded ops a.tmps) = true then Oper.wp P o a w K Q else E := by
  have hw : Region.wanted o (yielded ops a.tmps) = true := by simp [Region.wanted, hgd]
  rw [if_pos hw]
  exact op_appendR w s x t e ho base z size bytes ht hinfo hzs hsz v n xs hs hown A m c hx news hl hr h1 h63 hbytes hbase h
end
/-- ints as records of one cell -/
theorem Ints.news {w : World} {a : Option Addr} {n : Nat} {xs : List Int} (h : Ints w a n xs) : ∀ j u, (xs.map (Value.int .i64))[j]? = some u → ∃ ad, a = some ad ∧ w.cell? (ad.add j) = some u := by
  intro j u hu
  rw [List.getElem?_map, Option.map_eq_some_iff] at hu
  obtain ⟨x, hx, rfl⟩ := hu
  have hlt := (List.getElem?_eq_some_iff.1 hx).1
  obtain ⟨b, o, e, hc, _⟩ := h.2.2 j (by rw [← h.1]; exact hlt)
  refine ⟨_, e, ?_⟩
  rw [addr_add, hc]
  simp [List.getD_eq_getElem?_getD, hx]
/-- the cells of a slice of records, in the form that append asks for -/
theorem Recs.news {α : Type} {size : Nat} {cs : α → List Value} {w : World} {a : Option Addr} {n : Nat} {ls : List α} (h : Recs size cs w a n ls) (hs : ∀ x, (cs x).length = size) (hpos : 0 < size) : ∀ j u, (ls.flatMap cs)[j]? = some u → ∃ ad, a = some ad ∧ w.cell? (ad.add j) = some u := by
  intro j u hu
  have hlt := (List.getElem?_eq_some_iff.1 hu).1
  rw [flatMap_len cs size hs] at hlt
  have hk : j / size < ls.length := Nat.div_lt_of_lt_mul (by rw [Nat.mul_comm]; exact hlt)
  have hj : j % size < size := Nat.mod_lt _ hpos
  have em : j = j / size * size + j % size := by rw [Nat.mul_comm]; exact (Nat.div_add_mod j size).symm
  obtain ⟨b, o, e, hc⟩ := h.2.2 (j / size) ls[j / size] (List.getElem?_eq_getElem hk)
  refine ⟨_, e, ?_⟩
  rw [addr_add, show o + j = o + j / size * size + j % size by omega, hc _ hj, ← flatMap_at cs size hs ls _ _ hj _ (List.getElem?_eq_getElem hk), ← em]
  exact hu
end

section
open Go.RowKit

theorem infoI : (Try.prog.info? 3).map (fun i => (i.zero, i.size, i.bytes)) = some (some (.int .i64 0), 1, 8) := by kernel_rfl
def intVals (xs : List Int) : List Value := xs.map (Value.int .i64)
theorem intVals_len (xs : List Int) : (intVals xs).length = xs.length := by simp [intVals]
theorem intVals_one (xs : List Int) : ∀ u ∈ intVals xs, u.oneCell' = true := by
  intro u hu
  simp only [intVals, List.mem_map] at hu
  obtain ⟨x, _, rfl⟩ := hu
  rfl
/-- a slice of the call's own that reads as a list -/
def OwnI (w : World) (base : Nat) (v : Value) (xs : List Int) : Prop := w.ownsRow base 3 1 v xs.length (intVals xs) ∧ (∀ x ∈ xs, I64 x) ∧ xs.length ≤ 17592186044416
theorem OwnI.nil (w : World) (base : Nat) : OwnI w base (.slice none 0 0) [] := ⟨World.ownsRow_nil _ _ _ _, by simp, by simp⟩
theorem OwnI.mono {w : World} {base base' : Nat} {v : Value} {xs : List Int} (h : OwnI w base v xs) (hb : base' ≤ base) : OwnI w base' v xs := by
  refine ⟨⟨h.1.1, ?_⟩, h.2⟩
  rcases h.1.2 with h0 | ⟨g, cap, cur, hv, h1, r⟩
  · exact .inl h0
  · exact .inr ⟨g, cap, cur, hv, Nat.le_trans hb h1, r⟩
theorem OwnI.kept {w w' : World} {base : Nat} {v : Value} {xs : List Int} {row : Option Nat} (h : OwnI w base v xs) (hg : w.grownBy w' row) (hne : v.ownBlock = none ∨ v.ownBlock ≠ row) : OwnI w' base v xs := ⟨h.1.kept hg hne, h.2⟩
theorem OwnI.ext {w w' : World} {base : Nat} {v : Value} {xs : List Int} (h : OwnI w base v xs) (hb : Below w.heap.size w w') : OwnI w' base v xs := by
  refine ⟨h.1.kept (row := none) ⟨hb.os, hb.tape, hb.output, hb.size, fun k hk _ => hb.block k hk⟩ ?_, h.2⟩
  cases h1 : v.ownBlock with
  | none => exact .inl rfl
  | some k => exact .inr (by simp)
theorem OwnI.form {w : World} {base : Nat} {v : Value} {xs : List Int} (h : OwnI w base v xs) : ∃ a c, v = .slice a xs.length c := by
  rcases h.1.2 with ⟨rfl, h0⟩ | ⟨g, cap, cur, hv, _⟩
  · have h0 : xs.length = 0 := h0
    rw [h0]
    exact ⟨none, 0, rfl⟩
  · exact ⟨_, _, hv⟩
theorem OwnI.ints {w : World} {base : Nat} {a : Option Addr} {n c : Nat} {xs : List Int} (h : OwnI w base (.slice a n c) xs) : Ints w a n xs := by
  rcases h.1.2 with ⟨hv, h0⟩ | ⟨g, cap, cur, hv, _⟩
  · injection hv with e1 e2 e3
    subst e1 e2
    have h0 : xs.length = 0 := h0
    exact ⟨h0, by omega, fun k hk => by omega⟩
  · injection hv with e1 e2 e3
    subst e1 e2 e3
    exact intsOwn h.1 h.2.1 h.2.2
theorem OwnI.cap {w : World} {base : Nat} {a : Option Addr} {n c : Nat} {xs : List Int} (h : OwnI w base (.slice a n c) xs) : n ≤ c ∧ c ≤ 9223372036854775807 ∧ n = xs.length := by
  rcases h.1.2 with ⟨hv, h0⟩ | ⟨g, cap, cur, hv, _, _, h1, h2, _⟩
  · injection hv with e1 e2 e3
    subst e1 e2 e3
    exact ⟨by omega, by omega, by rw [show xs.length = 0 from h0]⟩
  · injection hv with e1 e2 e3
    subst e1 e2 e3
    unfold maxLen at h2
    exact ⟨h1, by omega, rfl⟩
/-- a list as a result -/
def IntsPost (w : World) (xs : List Int) (e : Ending) (w' : World) : Prop := ∃ v, e = .returned v ∧ OwnI w' w.heap.size v xs ∧ Below w.heap.size w w'
/-- a literal -/
theorem ownI_lit {W : World} {g : Nat} {xs : List Int} (hg : W.heap.size = g) (base : Nat) (hb : base ≤ g) (hx : ∀ x ∈ xs, I64 x) (hn : xs.length ≤ 1000) : OwnI (W.alloc (.cells (intVals xs).toArray 3)) base (.slice (some ⟨g, 0, none⟩) xs.length xs.length) xs := by
  subst hg
  refine ⟨?_, hx, by omega⟩
  have := World.ownsRow_lit (base := base) (e := 3) (size := 1) W (intVals xs).toArray xs.length hb (by unfold maxLen; omega) (by simp [intVals])
  simpa using this

set_option maxRecDepth 100000 in
set_option maxHeartbeats 1000000 in
theorem cloneInts_any (a : Option Addr) (n c : Nat) (xs : List Int) (w : World) (h : Ints w a n xs) :
    Calls Try.prog 47 #[.slice a n c] w (IntsPost w xs) := by
  have HL := Lib.hid h.1
  have hn := h.2.1
  have HM := Lib.hid h.mem
  have H := Lib.hid h
  clear h
  cases a with
  | none =>
    have hq := fun w n c n' c' => Lib.run_eql_slice_nil (P := Try.prog) w 22 3 none n c n' c' Try.underlying22
    go_enter Try.func47, Try.ntmps47
    go_wp2
    go_ret
    have h0 : xs = [] := by
      cases xs with
      | nil => rfl
      | cons r l => obtain ⟨b, o, e, _⟩ := H.out.2.2 0 (by rw [← HL.out]; simp); cases e
    subst h0
    exact ⟨_, rfl, OwnI.nil _ _, Below.refl _ _⟩
  | some ad =>
    have hq := fun w n c n' c' => Lib.run_eql_slice_nil (P := Try.prog) w 22 3 (some ad) n c n' c' Try.underlying22
    go_enter Try.func47, Try.ntmps47
    go_wp2_with (at_builtin; go_loud (refine wpList_appendR (w.alloc (.cells #[] 3)) rfl (.tmp 5) (.tmp 6) 22 3 rfl w.heap.size _ 1 8 Try.underlying22 infoI rfl (by omega) (.slice (some ⟨w.heap.size, 0, none⟩) 0 0) 0 [] rfl (World.ownsRow_lit w #[] 0 (by omega) (by unfold maxLen; omega) rfl) (some ad) n c rfl (intVals xs) (by rw [intVals_len, HL.out, Nat.mul_one]) ((H.out.ext ((Below.refl _ w).alloc (Nat.le_refl _) _)).news) (intVals_one xs) (by unfold maxLen; omega) (by omega) (by simp) ?_); intro v' w1 ho1 hg1 hv1; have HO1 := Lib.hid ho1; have HG1 := Lib.hid hg1; clear ho1 hg1 hv1)
    go_ret
    have ho := HO1.out
    rw [Nat.zero_add, List.nil_append, ← HL.out] at ho
    exact ⟨_, rfl, ⟨ho, HM.out, by rw [HL.out]; exact hn⟩, ((Below.refl _ w).alloc (Nat.le_refl _) _).grown HG1.out (by simp) (fun k hk => by simp [Value.ownBlock] at hk; omega)⟩
end

section
open Go.RowKit

theorem among17_yes (l : List Int) (n : Int) (k : Nat) (h : k < l.length) (he : l.getD k 0 = n) : l.contains n = true := by
  rw [List.contains_iff_mem, ← he, List.getD_eq_getElem?_getD, List.getElem?_eq_getElem h]
  exact List.getElem_mem _
theorem among17_no (l : List Int) (n : Int) (h : ∀ k, k < l.length → l.getD k 0 ≠ n) : l.contains n = false := by
  rw [Bool.eq_false_iff]
  intro hc
  rw [List.contains_iff_mem] at hc
  obtain ⟨j, hj, e⟩ := List.getElem_of_mem hc
  have := h j hj
  rw [List.getD_eq_getElem?_getD, List.getElem?_eq_getElem hj, Option.getD_some] at this
  exact this e
theorem among17_any (a : Option Addr) (n c : Nat) (xs : List Int) (x : Int) (w : World) (h : Ints w a n xs) :
    Calls Try.prog 23 #[.slice a n c, .int .i64 x] w fun e w' => e = .returned (.bool (xs.contains x)) ∧ w = w' := by
  obtain ⟨hl, hn, hc⟩ := h
  have HL := Lib.hid hl
  have HC := Lib.hid hc
  clear hl hc
  go_enter Try.func23, Try.ntmps23
  go_wp2
  go_loopw [5] (fun i wr => ∃ (k : Nat), k ≤ n ∧ i = .int .i64 k ∧ wr = w ∧ Hid (∀ j, j < k → xs.getD j 0 ≠ x)) (fun i _ => n - (intOf i).toNat)
  case atStart => exact ⟨0, by omega, rfl, rfl, fun j hj => absurd hj (by omega)⟩
  case round =>
    obtain ⟨k, hk, rfl, rfl, HR⟩ := hrel
    by_cases hlt : k < n
    · obtain ⟨b, o, rfl, hcell, _⟩ := HC.out k hlt
      by_cases he : xs.getD k 0 = x
      · have HE : Hid (xs.contains x = true) := among17_yes xs x k (by rw [HL.out]; exact hlt) he
        rw [he] at hcell
        clear he
        go_wp2
        go_ret
        exact ⟨by rw [HE.out]; rfl, rfl⟩
      · have HE : Hid (∀ j, j < k + 1 → xs.getD j 0 ≠ x) := fun j hj => by
          by_cases hjk : j = k
          · subst hjk; exact he
          · exact HR.out j (by omega)
        generalize xs.getD k 0 = y at *
        go_wp2
        go_roundw
        case rel => exact ⟨k + 1, by omega, by go_num, trivial, HE⟩
        case measure => simp [intOf]; omega
    · have HE : Hid (xs.contains x = false) := among17_no xs x fun j h1 => HR.out j (by rw [HL.out] at h1; omega)
      go_wp2
      go_ret
      exact ⟨by rw [HE.out]; rfl, rfl⟩
end

section
open Go.RowKit

def okL {α : Type} (s : List α) (x : α) : Prop := s.head? = some x
def nxL {α : Type} (s : List α) (_ : α) : List α := s.tail
def finL {α : Type} (s : List α) : Prop := s = []
theorem okL_cons {α : Type} {s : List α} {x : α} (h : okL s x) : s = x :: nxL s x := by
  cases s with
  | nil => cases h
  | cons y l => injection h with h; subst h; rfl
/-- an iterator that yields a list's elements, as long as I holds -/
def IterI {α : Type} (P : Program) (gf : Nat) (lb : Array Value) (enc : α → Array Value) (l : List α) (I : World → Prop) : Prop :=
  Iter P gf lb enc okL nxL l finL (fun _ W => I W)
theorem IterI.mono {α : Type} {P : Program} {gf : Nat} {lb : Array Value} {enc : α → Array Value} {l : List α} {I I' : World → Prop} (h : IterI P gf lb enc l I) (hi : ∀ W, I' W → I W) : IterI P gf lb enc l I' :=
  fun lp K Kx W hK hKx hInv hY h0 => h lp K Kx W hK hKx (fun s W hs => hi W (hInv s W hs)) hY h0
/-- an iterator that yields a list's elements, whatever else the rounds make of the world beyond what was there -/
def IterL {α : Type} (P : Program) (gf : Nat) (lb : Array Value) (enc : α → Array Value) (l : List α) (w : World) : Prop :=
  Iter P gf lb enc okL nxL l finL (fun _ W => Below w.heap.size w W)
/-- a region inside a round, walked as one outside -/
theorem listIn_of {P : Program} {ops : Array Oper} {Q : Exit → Act → World → Prop} {l : Nat} (hQ : ¬ LetsOut Q) :
    ∀ (rest : List Oper) (a : Act) (w : World), rest.all notDefer = true → wpList P ops Q rest a w → wpListIn (Fence.wide.inRound l) 0 P ops Q rest a w := by
  intro rest
  induction rest with
  | nil => intro a w _ h; exact h
  | cons o rest ih =>
    intro a w hn h
    rw [List.all_cons, Bool.and_eq_true] at hn
    simp only [wpList, wpListIn] at h ⊢
    by_cases hw : Region.wanted o (yielded ops a.tmps) = true
    · simp only [hw, if_true] at h ⊢
      rcases h with h | ⟨_, h⟩
      · refine ⟨fun _ _ => trivial, ?_⟩
        have hs : Oper.semAt (Fence.wide.inRound l).round a.eval o = execOp a.eval o := Oper.semAt_some l _ _ (fun c hc => by have := hn.1; simp [notDefer, hc] at this)
        rw [hs]
        unfold Oper.wp at h
        generalize (execOp a.eval o).run P w = r at h
        cases r with
        | ok nx w' =>
          cases nx <;> simp only [Oper.upon, Oper.uponIn] at h ⊢ <;> first
            | exact ih _ _ hn.2 h
            | exact ⟨fun hh => by simp [Fence.wide, Fence.inRound] at hh, (CallsIn.inRound l (callsIn_wide.2 (h.mono (fun e w'' he => by cases e <;> first | exact ih _ _ hn.2 he | exact he))))⟩
            | exact ⟨fun hh => by simp [Fence.wide, Fence.inRound] at hh, rowsIn_of l (h.mono (fun v w'' hv => ih _ _ hn.2 hv))⟩
            | exact h.elim
        | halt x w' => cases x <;> simp only [Oper.upon, Oper.uponIn] at h ⊢ <;> exact h
      · exact absurd h hQ
    · simp only [hw] at h ⊢
      exact ⟨fun _ _ => trivial, ih _ _ hn.2 h⟩
theorem wide_quiet_lit {P : Program} {id : Nat} {Q : Exit → Act → World → Prop} {a : Act} {w : World} {ol : List Oper} (hm : P.follows .mixedOrders = true) (hB : Region.lexB .any ol.toArray = true)
    (h : wpQuiet P ol.toArray (fun w' => ∃ n, w' = w.drewN n) (fun a' => ∀ w', (∃ n, w' = w.drewN n) → Q .normal a' w') ol a) : (Code.region id ol.toArray true).wpIn Fence.wide 0 P Q a w :=
  wpIn_wide.2 (wp_region_quiet_lit hm hB h)
/-- THE CALLER's LAW where a list's elements are gone through, outermost loop: d done, r to come -/
theorem range_list {P : Program} {α : Type} {g : Operand} {ps : Array Tmp} {assign body : Code} {Q : Exit → Act → World → Prop} {a : Act} {w : World} {gf : Nat} {lb : Array Value}
    (hg : a.eval g = .func (.func gf) #[] lb) (eg : ∀ args w, (callFunc gf args).run P w = .ok (.enter gf args) w)
    {enc : α → Array Value} {l : List α} (I : World → Prop) (hit : IterI P gf lb enc l I) (hps : ∀ x, (enc x).size = ps.size)
    (J : List α → List α → World → Prop) (Jx : Code → World → Prop)
    (hJ : ∀ d r, Steady w.heap.size (J d r)) (hJx : ∀ c, Steady w.heap.size (Jx c)) (hInv : ∀ d r W, J d r W → I W)
    (h0 : J [] l w)
    (hround : ∀ (lp : Nat) (d : List α) (x : α) (r : List α) (W : World), l = d ++ x :: r → J d (x :: r) W →
      assign.wpIn (Fence.wide.inRound lp) 0 P (Exit.then (fun a1 W1 => Keep W W1 ∧ J d (x :: r) W1 ∧ ∀ (lp : Nat) (W2 : World), J d (x :: r) W2 →
        body.wpIn (Fence.wide.inRound lp) 0 P (roundEnd (fun W' => Keep W2 W' ∧ J (d ++ [x]) r W') (fun c W' => Keep W2 W' ∧ Jx c W')) a1 W2) (fun _ _ _ => False)) { tmps := (ps.zip (enc x)).foldl (fun t (p, v) => t.setIfInBounds p v) a.tmps, defers := [] } W)
    (hdone : ∀ (D : Nat) (W : World), w.heap.size ≤ D → J l [] W → W.heap[D]? = some (.deferred (some [])) → Q .normal { a with defers := { target := .collected D, args := #[] } :: a.defers } W)
    (hstop : ∀ (D : Nat) (c : Code) (W : World), w.heap.size ≤ D → Jx c W → W.heap[D]? = some (.deferred (some [])) → c.wpIn Fence.wide 0 P Q { a with defers := { target := .collected D, args := #[] } :: a.defers } W) :
    (Code.rangeFunc g ps assign body).wpIn Fence.wide 0 P Q a w := by
  refine range_outer (enc := enc) hg eg hit hps (fun s W => ∃ d, l = d ++ s ∧ J d s W) Jx
    (fun s x a1 _ => ∀ (d : List α) (lp : Nat) (W2 : World), l = d ++ s → J d s W2 → body.wpIn (Fence.wide.inRound lp) 0 P (roundEnd (fun W' => Keep W2 W' ∧ J (d ++ [x]) (nxL s x) W') (fun c W' => Keep W2 W' ∧ Jx c W')) a1 W2)
    (fun s => Steady.ex fun d => (Steady.pure _ _).and (hJ d s)) hJx (fun _ _ _ => Steady.pure _ _) (fun s W ⟨d, _, h⟩ => hInv d s W h) ⟨[], rfl, h0⟩ ?_ ?_ ?_ hstop
  · rintro lp s x W hok ⟨d, hd, hj⟩
    have hs := okL_cons hok
    generalize nxL s x = r at hs ⊢
    subst hs
    refine wpIn_mono (hround lp d x r W hd hj) ?_
    rintro e a1 W1 he
    cases e with
    | normal =>
      obtain ⟨h1, h2, h3⟩ := he
      refine ⟨h1, ⟨d, hd, h2⟩, fun d' lp' W2 hd' hj' => ?_⟩
      have : d' = d := by
        have := hd'.symm.trans hd
        exact List.append_cancel_right this
      subst this
      exact h3 lp' W2 hj'
    | _ => exact he.elim
  · rintro lp s x a1 W hok ⟨d, hd, hj⟩ hA
    refine wpIn_mono (hA d lp W hd hj) ?_
    rintro e a3 W3 he
    cases e with
    | normal =>
      refine ⟨he.1, d ++ [x], ?_, he.2⟩
      rw [hd, List.append_assoc]
      congr 1
      exact okL_cons hok
    | ret => exact he
    | exit id => exact he
    | goto t => exact he
    | panic ch => exact he.elim
    | outgrown => exact he.elim
  · rintro D s W hD hf ⟨d, hd, hj⟩ hk
    have hf : s = [] := hf
    subst hf
    rw [List.append_nil] at hd
    subst hd
    exact hdone D W hD hj hk
end
end Go.Proofs.Ytblhmdhfhaencaa
