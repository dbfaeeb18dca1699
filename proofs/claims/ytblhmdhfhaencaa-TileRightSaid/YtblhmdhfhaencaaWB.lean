/-
  Maps whose keys are ints, as functions. No program in sight.
-/
import Derived.Test.YtblhmdhfhaencaaMix
import Derived.Test.YtblhmdhfhaencaaQO
import Derived.Deep.LoopGhost
import Derived.Test.YtblhmdhfhaencaaSortP
import Derived.Test.YtblhmdhfhaencaaSeq
import Derived.Test.YtblhmdhfhaencaaPick
namespace Go.Proofs.Ytblhmdhfhaencaa
set_option linter.unusedSimpArgs false
set_option linter.unusedVariables false
set_option linter.unusedSectionVars false
section
open Go.RowKit

def mfind : List MapEntry → Int → Option Value
  | [], _ => none
  | e :: l, k => match e.key with
    | .int .i64 j => if k = j then some e.val else mfind l k
    | _ => mfind l k

def intKeys (l : List MapEntry) : Prop := ∀ e ∈ l, ∃ k : Int, e.key = .int .i64 k

/-- block b is a map with keys that are ints: at key k it has f k -/
def IMap (w : World) (b : Nat) (f : Int → Option Value) : Prop :=
  ∃ es clock, w.heap[b]? = some (.map es clock) ∧ intKeys es.toList ∧ ∀ k, mfind es.toList k = f k

def upd (f : Int → Option Value) (k : Int) (v : Value) : Int → Option Value := fun j => if j = k then some v else f j

theorem findNow_int (q : IntKind) (k : Int) : ∀ (l : List MapEntry) (i : Nat), intKeys l →
    (Instr.findNow (.int q) (.int .i64 k) l i = some none ∧ mfind l k = none) ∨
    ∃ j e, l[j]? = some e ∧ Instr.findNow (.int q) (.int .i64 k) l i = some (some (i + j, e.val)) ∧ e.key = .int .i64 k ∧ mfind l k = some e.val ∧
      ∀ v, intKeys (l.modify j fun e => { e with key := .int .i64 k, val := v }) ∧ ∀ k', mfind (l.modify j fun e => { e with key := .int .i64 k, val := v }) k' = upd (mfind l) k v k' := by
  intro l
  induction l with
  | nil => intro i _; exact Or.inl ⟨rfl, rfl⟩
  | cons e l ih =>
    intro i hk
    obtain ⟨j, hj⟩ := hk e (by simp)
    have hk' : intKeys l := fun x hx => hk x (by simp [hx])
    by_cases h : k = j
    · subst h
      refine Or.inr ⟨0, e, rfl, ?_, hj, ?_, fun v => ⟨?_, fun k' => ?_⟩⟩
      · simp [Instr.findNow, Instr.sameNow, hj]
      · simp [mfind, hj]
      · intro x hx
        simp at hx
        rcases hx with rfl | hx
        · exact ⟨k, rfl⟩
        · exact hk' x hx
      · simp only [List.modify_zero_cons, mfind, upd, hj]
        split <;> rfl
    · have hb : (k == j) = false := by simpa using h
      rcases ih (i + 1) hk' with ⟨h1, h2⟩ | ⟨m, e', h0, h1, h2, h3, h4⟩
      · exact Or.inl ⟨by simp [Instr.findNow, Instr.sameNow, hj, hb, h1], by simp [mfind, hj, h, h2]⟩
      · refine Or.inr ⟨m + 1, e', by simpa using h0, ?_, h2, ?_, fun v => ⟨?_, fun k' => ?_⟩⟩
        · simp [Instr.findNow, Instr.sameNow, hj, hb, h1]; omega
        · simp [mfind, hj, h, h3]
        · intro x hx
          simp at hx
          rcases hx with rfl | hx
          · exact ⟨j, hj⟩
          · exact (h4 v).1 x hx
        · have := (h4 v).2 k'
          simp only [List.modify_succ_cons, mfind, upd, hj] at this ⊢
          rw [this]
          by_cases e1 : k' = j
          · subst e1; simp [Ne.symm h]
          · simp [e1]

theorem mfind_push (l : List MapEntry) (k : Int) (v : Value) (b : Nat) (k' : Int) (hn : mfind l k = none) (hk : intKeys l) :
    mfind (l ++ [{ key := .int .i64 k, val := v, born := b }]) k' = upd (mfind l) k v k' := by
  induction l with
  | nil => simp [mfind, upd]
  | cons e l ih =>
    obtain ⟨j, hj⟩ := hk e (by simp)
    simp only [mfind, hj] at hn
    split at hn
    · cases hn
    · rename_i hkj
      have := ih hn (fun x hx => hk x (by simp [hx]))
      simp only [List.cons_append, mfind, hj, upd] at this ⊢
      rw [this]
      by_cases e1 : k' = j
      · subst e1; simp [Ne.symm hkj]
      · simp [e1]

section
variable {P : Program} {t kt et : TypeId} {w : World} {b : Nat} {f : Int → Option Value}
theorem IMap.lt (h : IMap w b f) : b < w.heap.size := by obtain ⟨es, c, hb, _⟩ := h; exact (Array.getElem?_eq_some_iff.1 hb).1
theorem IMap.made (w : World) : IMap (w.alloc (.map #[] 0)) w.heap.size (fun _ => none) :=
  ⟨#[], 0, World.alloc_heap_new w _, by intro e he; simp at he, fun k => rfl⟩
theorem IMap.of_block {w' : World} (h : IMap w b f) (hb : w'.heap[b]? = w.heap[b]?) : IMap w' b f := by
  obtain ⟨es, c, h1, h2⟩ := h; exact ⟨es, c, hb.trans h1, h2⟩
theorem IMap.ext {w' : World} (h : IMap w b f) (hb : Below w.heap.size w w') : IMap w' b f := h.of_block (hb.block b h.lt)
theorem IMap.grown {w' : World} {row : Option Nat} (h : IMap w b f) (hg : w.grownBy w' row) (hne : some b ≠ row) : IMap w' b f := h.of_block (hg.block b h.lt hne)
theorem IMap.alloc (h : IMap w b f) (o : Obj) : IMap (w.alloc o) b f := h.of_block (Below.heap_alloc w o b h.lt)
theorem IMap.setCell (h : IMap w b f) (p : Addr) (v : Value) : IMap (w.setCell p v) b f := by
  obtain ⟨es, c, h1, h2⟩ := h
  refine ⟨es, c, ?_, h2⟩
  by_cases e : b = p.block
  · subst e
    obtain ⟨hlt, hk'⟩ := Array.getElem?_eq_some_iff.1 h1
    show (w.heap.modify p.block _)[p.block]? = _
    rw [Array.getElem?_eq_getElem (by rw [Array.size_modify]; exact hlt), Array.getElem_modify_self, hk']
  · exact (Below.heap_setCell w p v b e).trans h1
theorem IMap.drewN (h : IMap w b f) (n : Nat) : IMap (w.drewN n) b f := h
theorem Steady.imap (B b : Nat) (f : Int → Option Value) : Steady B (fun W => IMap W b f) := fun W W' row h hg hr => by
  obtain ⟨es, c, h1, h2⟩ := h
  exact ⟨es, c, block_keep h1 rfl hg hr, h2⟩

theorem run_checkKey_int (hk : P.underlying kt = some (.int .i64)) (em : Bool) (k : Int) (w : World) : (Instr.checkKey em 10000 kt (.int .i64 k)).run P w = .ok () w := by
  have : ∀ n, (Instr.checkKey em (n + 1) kt (.int .i64 k)).run P w = .ok () w := fun n => by simp [Instr.checkKey, run_underlying hk]
  exact this 9999
theorem sameBits_int (k : Int) : Instr.sameBits 10000 (.int .i64 k) (.int .i64 k) = true := by
  have : ∀ n, Instr.sameBits n (.int .i64 k) (.int .i64 k) = true := fun n => by cases n <;> simp [Instr.sameBits]
  exact this 10000

theorem run_findKey_int (hk : P.underlying kt = some (.int .i64)) (k : Int) (l : List MapEntry) (r : Option (Nat × Value)) (w : World) (h : Instr.findNow (.int .i64) (.int .i64 k) l 0 = some r) :
    (Instr.findKey kt (.int .i64 k) l).run P w = .ok r w := by
  simp [Instr.findKey, run_underlying hk, h]

theorem IMap.look (h : IMap w b f) (ht : P.underlying t = some (.map kt et)) (hk : P.underlying kt = some (.int .i64)) {z : Value} (hz : (zeroValue et).run P w = .ok z w) (k : Int) :
    (Instr.lookup t (.map (some b)) (.int .i64 k) false).run P w = .ok ((f k).getD z) w := by
  obtain ⟨es, c, hb, hi, hf⟩ := h
  have hgo : (getObj b).run P w = .ok (.map es c) w := by simp [getObj, Sem.run, hb]
  rcases findNow_int .i64 k es.toList 0 hi with ⟨h1, h2⟩ | ⟨j, e, _, h1, _, h2, _⟩
  · rw [hf] at h2
    simp [Instr.lookup, run_underlying ht, Sem.run_bind, hgo, run_checkKey_int hk, run_findKey_int hk k _ _ w h1, hz, h2, Result.andThen]
  · rw [hf] at h2
    simp [Instr.lookup, run_underlying ht, Sem.run_bind, hgo, run_checkKey_int hk, run_findKey_int hk k _ _ w h1, h2, Result.andThen]

theorem IMap.look_ok (h : IMap w b f) (ht : P.underlying t = some (.map kt et)) (hk : P.underlying kt = some (.int .i64)) {z : Value} (hz : (zeroValue et).run P w = .ok z w) (k : Int) :
    (Instr.lookup t (.map (some b)) (.int .i64 k) true).run P w = .ok (.tuple #[(f k).getD z, .bool (f k).isSome]) w := by
  obtain ⟨es, c, hb, hi, hf⟩ := h
  have hgo : (getObj b).run P w = .ok (.map es c) w := by simp [getObj, Sem.run, hb]
  rcases findNow_int .i64 k es.toList 0 hi with ⟨h1, h2⟩ | ⟨j, e, _, h1, _, h2, _⟩
  · rw [hf] at h2
    simp [Instr.lookup, run_underlying ht, Sem.run_bind, hgo, run_checkKey_int hk, run_findKey_int hk k _ _ w h1, hz, h2, Result.andThen]
  · rw [hf] at h2
    simp [Instr.lookup, run_underlying ht, Sem.run_bind, hgo, run_checkKey_int hk, run_findKey_int hk k _ _ w h1, h2, Result.andThen]

theorem IMap.put (h : IMap w b f) (ht : P.underlying t = some (.map kt et)) (hk : P.underlying kt = some (.int .i64)) (k : Int) (v : Value) :
    ∃ o, (Instr.mapUpdate t (.map (some b)) (.int .i64 k) v).run P w = .ok () (w.putObj b o) ∧ IMap (w.putObj b o) b (upd f k v) := by
  have hlt := h.lt
  obtain ⟨es, c, hb, hi, hf⟩ := h
  have hgo : (getObj b).run P w = .ok (.map es c) w := by simp [getObj, Sem.run, hb]
  have hso : ∀ o, (setObj b o).run P w = .ok () (w.putObj b o) := fun o => by simp [setObj, Sem.run, hb, World.putObj]
  rcases findNow_int .i64 k es.toList 0 hi with ⟨h1, h2⟩ | ⟨j, e, hj, h1, hek, h2, h3⟩
  · refine ⟨.map (es.push { key := .int .i64 k, val := v, born := c }) (c + 1), ?_, ?_⟩
    · simp [Instr.mapUpdate, run_underlying ht, Sem.run_bind, hgo, run_checkKey_int hk, run_findKey_int hk k _ _ w h1, hso, Result.andThen]
    · refine ⟨_, _, World.putObj_heap_same hlt, ?_, fun k' => ?_⟩
      · intro x hx
        simp at hx
        rcases hx with hx | rfl
        · exact hi x (by simpa using hx)
        · exact ⟨k, rfl⟩
      · rw [Array.toList_push, mfind_push _ _ _ _ _ h2 hi]
        simp only [upd, hf]
  · have hes : es[0 + j]? = some e := by simpa using hj
    refine ⟨.map (es.modify (0 + j) fun e => { e with key := .int .i64 k, val := v }) c, ?_, ?_⟩
    · simp [Instr.mapUpdate, run_underlying ht, Sem.run_bind, hgo, run_checkKey_int hk, run_findKey_int hk k _ _ w h1, hso, Result.andThen, Instr.keyThatStays]
      simp at hes
      simp [hes, hek, sameBits_int, hso]
    · refine ⟨_, _, World.putObj_heap_same hlt, ?_, fun k' => ?_⟩
      · have := (h3 v).1
        simpa [Array.toList_modify] using this
      · have := (h3 v).2 k'
        rw [Array.toList_modify, Nat.zero_add, this]
        simp only [upd, hf]
end
end

section
open Go.RowKit

/-! ### plain -/
def totL (l : List TileD) : Nat := (l.map fun t => t.blocks.length).sum
theorem sum_take (l : List TileD) : ∀ m, ((l.take m).map fun t => t.blocks.length).sum ≤ totL l := by
  induction l with
  | nil => intro m; simp [totL]
  | cons t l ih =>
    intro m
    cases m with
    | zero => simp [totL]
    | succ m => have := ih m; simp only [totL, List.take_succ_cons, List.map_cons, List.sum_cons] at this ⊢; omega
theorem blkL_le (l : List TileD) (k : Nat) : (blkL l k).length ≤ totL l := by
  induction l generalizing k with
  | nil => simp [totL, blkL]
  | cons t l ih =>
    cases k with
    | zero => simp [totL, blkL]
    | succ k => have := ih k; simp only [totL, List.map_cons, List.sum_cons, blkL, List.getD_cons_succ] at this ⊢; omega
theorem rawL_len (l : List TileD) (k m : Nat) (hm : m ≤ l.length) : (rawL l k m).length ≤ 2 * totL l := by
  have h1 : ∀ m, m ≤ l.length → (((List.range m).filter fun n => n != k && descB l k n).flatMap (blkL l)).length ≤ ((l.take m).map fun t => t.blocks.length).sum := by
    intro m
    induction m with
    | zero => intro _; simp
    | succ m ih =>
      intro hm
      have := ih (by omega)
      rw [List.range_succ, List.filter_append, List.flatMap_append, List.length_append, List.take_add_one, List.getElem?_eq_getElem (by omega), List.map_append, List.sum_append]
      have e : (blkL l m).length = (l[m]'(by omega)).blocks.length := by simp [blkL, List.getD_eq_getElem?_getD, show m < l.length by omega]
      by_cases hc : (m != k && descB l k m) = true
      · simp only [List.filter_cons, hc, if_true, List.filter_nil, List.flatMap_cons, List.flatMap_nil, List.append_nil, Option.toList_some, List.map_cons, List.map_nil, List.sum_cons, List.sum_nil]
        omega
      · have hc' : (m != k && descB l k m) = false := by simpa using hc
        simp only [List.filter_cons, hc', List.filter_nil, Option.toList_some, List.map_cons, List.map_nil, List.sum_cons, List.sum_nil]
        simp only [Bool.false_eq_true, if_false, List.flatMap_nil, List.length_nil]
        omega
  have h2 := h1 m hm
  have h3 := sum_take l m
  have h4 := blkL_le l k
  rw [rawL, List.length_append]
  omega
theorem rawL_zero (l : List TileD) (k : Nat) : rawL l k 0 = blkL l k := by simp [rawL]
/-- is a tile's parent one of those? -/
def upB (l : List TileD) (k m : Nat) : Bool := decide (0 ≤ parL l m) && descB l k (parL l m).toNat
theorem upB_self {l : List TileD} (hp : parentsB l = true) (k : Nat) (hk : k < l.length) : upB l k k = false := by
  rw [Bool.eq_false_iff]
  intro h
  simp only [upB, Bool.and_eq_true, decide_eq_true_eq] at h
  have h1 := (parentsB_iff l).1 hp k hk
  have := descB_ge hp k _ (by omega) h.2
  omega
theorem rawL_step {l : List TileD} (hp : parentsB l = true) (k m : Nat) (hk : k < l.length) (hm : m < l.length) : rawL l k (m + 1) = if upB l k m then rawL l k m ++ blkL l m else rawL l k m := by
  have e : (m != k && descB l k m) = upB l k m := by
    by_cases h : m = k
    · subst h; rw [upB_self hp m hm]; simp
    · have h1 : (m != k) = true := by simpa using h
      have h2 : (m == k) = false := by simpa using h
      rw [h1, Bool.true_and, descB_eq hp k m hm, h2, Bool.false_or]
      rfl
  simp only [rawL, List.range_succ, List.filter_append, List.filter_cons, List.filter_nil, e, List.flatMap_append]
  cases upB l k m <;> simp
/-- the map of those that have been found -/
def belowF (l : List TileD) (k m : Nat) : Int → Option Value := fun x => if x = k ∨ (0 ≤ x ∧ x < m ∧ descB l k x.toNat = true) then some (.int .i64 1) else none
theorem belowF_zero (l : List TileD) (k : Nat) : upd (fun _ => none) (k : Int) (.int .i64 1) = belowF l k 0 := by
  funext x
  by_cases e : x = k
  · simp [upd, belowF, e]
  · have : ¬ (0 ≤ x ∧ x < ((0 : Nat) : Int) ∧ descB l k x.toNat = true) := fun h => by omega
    simp only [upd, belowF, if_neg e]
    rw [if_neg (fun h => h.elim e this)]
theorem belowF_step {l : List TileD} (hp : parentsB l = true) (k m : Nat) (hk : k < l.length) (hm : m < l.length) : belowF l k (m + 1) = if upB l k m then upd (belowF l k m) (m : Int) (.int .i64 1) else belowF l k m := by
  funext x
  have hd : m ≠ k → descB l k m = upB l k m := fun h => by
    have h2 : (m == k) = false := by simpa using h
    rw [descB_eq hp k m hm, h2, Bool.false_or]
    rfl
  by_cases e : x = m
  · subst e
    by_cases hmk : m = k
    · subst hmk
      rw [upB_self hp m hm]
      simp [belowF]
    · have hne : ¬ (m : Int) = k := by omega
      cases hu : upB l k m with
      | true =>
        have : belowF l k (m + 1) (m : Int) = some (.int .i64 1) := by
          unfold belowF
          rw [if_pos (.inr ⟨by omega, by omega, by simpa [hd hmk] using hu⟩)]
        rw [this]; simp [upd]
      | false =>
        have h1 : belowF l k (m + 1) (m : Int) = none := by
          unfold belowF
          rw [if_neg]
          rintro (h | ⟨_, _, h⟩)
          · exact hne h
          · rw [Int.toNat_natCast, hd hmk, hu] at h; cases h
        have h2 : belowF l k m (m : Int) = none := by
          unfold belowF
          rw [if_neg]
          rintro (h | ⟨_, h, _⟩)
          · exact hne h
          · omega
        rw [h1]; simp [h2]
  · have h1 : belowF l k (m + 1) x = belowF l k m x := by
      unfold belowF
      congr 1
      rw [eq_iff_iff]
      constructor
      · rintro (h | ⟨a, b, c⟩)
        · exact .inl h
        · exact .inr ⟨a, by omega, c⟩
      · rintro (h | ⟨a, b, c⟩)
        · exact .inl h
        · exact .inr ⟨a, by omega, c⟩
    rw [h1]
    cases upB l k m <;> simp [upd, e]
theorem belowF_par {l : List TileD} (hp : parentsB l = true) (k m : Nat) (hm : m < l.length) : (decide (0 ≤ parL l m) && (belowF l k m (parL l m)).isSome) = upB l k m := by
  have h1 := (parentsB_iff l).1 hp m hm
  unfold upB
  by_cases h0 : 0 ≤ parL l m
  · rw [decide_eq_true h0, Bool.true_and, Bool.true_and]
    unfold belowF
    by_cases hd : descB l k (parL l m).toNat = true
    · rw [if_pos (.inr ⟨h0, by omega, hd⟩), hd]; rfl
    · rw [if_neg]
      · have : descB l k (parL l m).toNat = false := by simpa using hd
        rw [this]; rfl
      · rintro (h | ⟨_, _, h⟩)
        · rw [h, Int.toNat_natCast, descB_self] at hd; exact hd rfl
        · exact hd h
  · rw [decide_eq_false h0]; rfl
/-- each number once, of a list that rises -/
theorem compact_inv (d : Array Int) (hs : ∀ i, i + 1 < d.size → d[i]! ≤ d[i + 1]!) : ∀ m, m ≤ d.size → (Lib.compactUpTo d m).Pairwise (· < ·) ∧ (∀ y, y ∈ Lib.compactUpTo d m ↔ ∃ j, j < m ∧ d[j]! = y) ∧ (0 < m → ∀ y ∈ Lib.compactUpTo d m, y ≤ d[m - 1]!) := by
  intro m
  induction m with
  | zero => intro _; refine ⟨by simp [Lib.compactUpTo], fun y => ⟨fun h => by simp [Lib.compactUpTo] at h, fun ⟨j, h, _⟩ => by omega⟩, fun h => by omega⟩
  | succ m ih =>
    intro hm
    obtain ⟨h1, h2, h3⟩ := ih (by omega)
    rw [Lib.compactUpTo_succ]
    have hle : 0 < m → ∀ y ∈ Lib.compactUpTo d m, y ≤ d[m]! := fun h0 y hy => by
      have := h3 h0 y hy
      have h4 := hs (m - 1) (by omega)
      rw [show m - 1 + 1 = m by omega] at h4
      omega
    by_cases hk : Lib.keeps d m = true
    · rw [if_pos hk]
      have hlt : ∀ y ∈ Lib.compactUpTo d m, y < d[m]! := fun y hy => by
        have h0 : 0 < m := by
          rcases Nat.eq_zero_or_pos m with e | e
          · subst e; simp [Lib.compactUpTo] at hy
          · exact e
        simp only [Lib.keeps, decide_eq_true_eq] at hk
        have hk := hk.resolve_left (by omega)
        have := h3 h0 y hy
        have h4 := hs (m - 1) (by omega)
        rw [show m - 1 + 1 = m by omega] at h4
        omega
      refine ⟨?_, fun y => ?_, fun _ y hy => ?_⟩
      · rw [List.pairwise_append]
        exact ⟨h1, by simp, fun y hy z hz => by simp at hz; subst hz; exact hlt y hy⟩
      · rw [List.mem_append, h2]
        constructor
        · rintro (⟨j, hj, e⟩ | h)
          · exact ⟨j, by omega, e⟩
          · simp at h; exact ⟨m, by omega, h.symm⟩
        · rintro ⟨j, hj, e⟩
          by_cases hjm : j = m
          · subst hjm; exact .inr (by simp [e])
          · exact .inl ⟨j, by omega, e⟩
      · rcases List.mem_append.1 hy with hy | hy
        · have := hlt y hy; simp; omega
        · simp at hy; subst hy; simp
    · rw [if_neg hk, List.append_nil]
      have hk' : m ≠ 0 ∧ d[m]! = d[m - 1]! := by
        simp only [Lib.keeps, decide_eq_true_eq, not_or] at hk
        exact ⟨hk.1, Classical.not_not.1 hk.2⟩
      refine ⟨h1, fun y => ?_, fun _ y hy => by have := hle (by omega) y hy; simpa using this⟩
      rw [h2]
      constructor
      · rintro ⟨j, hj, e⟩; exact ⟨j, by omega, e⟩
      · rintro ⟨j, hj, e⟩
        by_cases hjm : j = m
        · subst hjm; exact ⟨j - 1, by omega, by rw [← hk'.2, e]⟩
        · exact ⟨j, by omega, e⟩
theorem compact_sort (xs : List Int) : Lib.compact (xs.mergeSort fun x y => decide (x ≤ y)) = sortD xs := by
  have hp := List.mergeSort_perm xs fun x y => decide (x ≤ y)
  have hso := List.pairwise_mergeSort (le := fun x y : Int => decide (x ≤ y)) (fun a b c h1 h2 => by simp at *; omega) (fun a b => by simp; omega) xs
  generalize xs.mergeSort (fun x y => decide (x ≤ y)) = ys at *
  have hs : ∀ i, i + 1 < ys.toArray.size → ys.toArray[i]! ≤ ys.toArray[i + 1]! := fun i hi => by
    have hi' : i + 1 < ys.length := by simpa using hi
    have := List.pairwise_iff_getElem.1 hso i (i + 1) (by omega) hi' (by omega)
    simp at this
    simp [show i < ys.length by omega, hi']
    exact this
  have h := compact_inv ys.toArray hs ys.length (by simp)
  refine sorted_eq _ _ h.1 (sorted_sortD xs) fun y => ?_
  rw [mem_sortD, ← hp.mem_iff]
  show y ∈ Lib.compactUpTo ys.toArray ys.length ↔ _
  rw [h.2.1]
  constructor
  · rintro ⟨j, hj, rfl⟩; simp [hj]
  · intro hy
    obtain ⟨j, hj, e⟩ := List.mem_iff_getElem.1 hy
    exact ⟨j, hj, by simp [hj, e]⟩
end

section
open Go.RowKit

theorem totL_set : ∀ (l : List TileD) (k : Nat) (t : TileD), totL (l.set k t) ≤ totL l + t.blocks.length
  | [], k, t => by simp [totL]
  | x :: l, 0, t => by simp [totL]; omega
  | x :: l, k + 1, t => by
    have := totL_set l k t
    simp only [totL, List.set_cons_succ, List.map_cons, List.sum_cons] at this ⊢
    omega
theorem td_set2 (ls : List TileR) (k : Nat) (x : TileR) : tdOf (ls.set k x) = (tdOf ls).set k x.d := by simp [tdOf, List.map_set]
/-- what each tile of a slice is -/
def EachT (w : World) (ls : List TileR) : Prop := ∀ t ∈ ls, Ints w t.ba t.bn t.d.blocks ∧ t.bn ≤ t.bc ∧ I64 t.d.kind ∧ I64 t.d.parent
theorem EachT.ext {w w' : World} {ls : List TileR} (h : EachT w ls) (hb : Below w.heap.size w w') : EachT w' ls := fun t ht => ⟨(h t ht).1.ext hb, (h t ht).2⟩
theorem EachT.set {w : World} {ls : List TileR} (h : EachT w ls) (k : Nat) {t : TileR} (ht : Ints w t.ba t.bn t.d.blocks ∧ t.bn ≤ t.bc ∧ I64 t.d.kind ∧ I64 t.d.parent) : EachT w (ls.set k t) := fun s hs => by
  rcases List.mem_or_eq_of_mem_set hs with hs | hs
  · exact h s hs
  · rw [hs]; exact ht
abbrev rowT (w : World) (base : Nat) (v : Value) (ls : List TileR) : Prop := w.ownsRow base 53 3 v ls.length (ls.flatMap tileC)
theorem trow_ok {w : World} {base : Nat} {a : Option Addr} {n c : Nat} {ls : List TileR} (h : w.ownsRow base 53 3 (.slice a n c) n (ls.flatMap tileC)) (hn : ls.length = n) (he : EachT w ls) (hl : n ≤ 1000) : TilesOK w a n ls := by
  subst hn
  obtain ⟨a', c', e, h1, _⟩ := recs_of_own tileC_len h (by omega)
  injection e with e1 e2 e3
  subst e1
  exact ⟨h1, he⟩
/-- the copy has a row of its own, in which each tile's blocks stand -/
theorem trow_form {w : World} {base : Nat} {v : Value} {n : Nat} {ls : List TileR} (h : w.ownsRow base 53 3 v n (ls.flatMap tileC)) (hl : ls.length = n) (hn : 0 < n) (hn2 : n ≤ 1000) : ∃ g cap cur, v = .slice (some ⟨g, 0, none⟩) n cap ∧ base ≤ g ∧ n ≤ cap ∧ w.heap[g]? = some (.cells cur 53 (0, 0)) ∧ ∀ k t, ls[k]? = some t → w.cell? ⟨g, k * 3 + 2, none⟩ = some (bsV t) ∧ w.frozen? ⟨g, k * 3 + 2, none⟩ = false := by
  subst hl
  obtain ⟨a', c', e, h1, _⟩ := recs_of_own tileC_len h (by omega)
  rcases h.2 with ⟨_, h0⟩ | ⟨g, cap, cur, rfl, hb, hg, hcap, _⟩
  · omega
  · refine ⟨g, cap, cur, rfl, hb, hcap, hg, fun k t hk => ⟨?_, frozen_of_row _ _ _ _ _ hg⟩⟩
    injection e with e1 e2 e3
    subst e1
    obtain ⟨b, o, e, hc⟩ := h1.2.2 k t hk
    injection e with e
    injection e with e1 e2
    subst e1 e2
    have := hc 2 (by omega)
    rw [Nat.zero_add] at this
    exact this
/-- one tile's blocks turned in the copy -/
theorem trow_turn {w : World} {base g n c k : Nat} {ls : List TileR} {t t' : TileR} (h : w.ownsRow base 53 3 (.slice (some ⟨g, 0, none⟩) n c) n (ls.flatMap tileC)) (hk : ls[k]? = some t) (he : t'.d.kind = t.d.kind ∧ t'.d.parent = t.d.parent) :
    (w.setCell ⟨g, k * 3 + 2, none⟩ (bsV t')).ownsRow base 53 3 (.slice (some ⟨g, 0, none⟩) n c) n ((ls.set k t').flatMap tileC) := by
  rw [← flat_set3 ls k t t' hk he]
  exact (h.stored (k * 3 + 2) (bsV t')).1
theorem blocks_totL : ∀ (l : List TileD) (k : Nat) (t : TileD), l[k]? = some t → t.blocks.length ≤ totL l
  | x :: l, 0, t, h => by
    simp only [List.getElem?_cons_zero, Option.some.injEq] at h
    subst h
    simp [totL]
  | x :: l, k + 1, t, h => by
    have := blocks_totL l k t (by simpa using h)
    simp only [totL, List.map_cons, List.sum_cons] at this ⊢
    omega
theorem pick_at (turn : Int) {n : Nat} (hn : 1 ≤ n) : ∃ k : Nat, pickI turn (n : Int) = (k : Int) ∧ k < n := by
  refine ⟨(turn % (n : Int)).toNat, ?_, ?_⟩
  · have := Int.emod_nonneg turn (b := (n : Int)) (by omega)
    rw [pickI, if_neg (by omega)]
    omega
  · have := Int.emod_nonneg turn (b := (n : Int)) (by omega)
    have := Int.emod_lt_of_pos turn (b := (n : Int)) (by omega)
    omega
theorem infoT3 : (Try.prog.info? 53).map (fun i => (i.zero, i.size, i.bytes)) = some (some (.agg #[.int .i64 0, .int .i64 0, .slice none 0 0]), 3, 40) := by kernel_rfl
theorem flatT_one (ls : List TileR) : ∀ u ∈ ls.flatMap tileC, u.oneCell' = true := by
  intro u hu
  obtain ⟨t, _, h⟩ := List.mem_flatMap.1 hu
  simp only [tileC, List.mem_cons, List.not_mem_nil, or_false] at h
  rcases h with rfl | rfl | rfl <;> rfl
/-- append([]api.Tile{}, l...) -/
theorem wpList_tcopy {Q : Exit → Act → World → Prop} {ops : Array Oper} {rest : List Oper} {o : Oper} {a : Act} (W : World) (hgd : o.guard = none) (s x : Operand) (ho : o.op = .call { callee := .builtin .append, args := #[s, x], argTypes := #[26, 26] }) (H : Nat) (hH : W.heap.size = H)
    (hs : a.eval s = .slice (some ⟨H, 0, none⟩) 0 0) (A : Option Addr) (n c : Nat) (hx : a.eval x = .slice A n c) (ls : List TileR) (h : TilesOK W A n ls) (hn : 1 ≤ n) (hn2 : n ≤ 1000)
    (k : ∀ g cap w', Below W.heap.size W w' → w'.ownsRow W.heap.size 53 3 (.slice (some ⟨g, 0, none⟩) n cap) n (ls.flatMap tileC) → wpList Try.prog ops Q rest (a.put o.dst (.slice (some ⟨g, 0, none⟩) n cap)) w') :
    wpList Try.prog ops Q (o :: rest) a (W.alloc (.cells #[] 53)) := by
  subst hH
  refine wpList_appendR (W.alloc (.cells #[] 53)) hgd s x 26 53 ho W.heap.size _ 3 40 Try.underlying26 infoT3 rfl (by omega) (.slice (some ⟨W.heap.size, 0, none⟩) 0 0) 0 [] hs (World.ownsRow_lit W #[] 0 (by omega) (by unfold maxLen; omega) rfl) A n c hx (ls.flatMap tileC)
    (by rw [flatMap_len _ 3 tileC_len, h.1.1]) ((h.ext ((Below.refl _ W).alloc (Nat.le_refl _) _)).1.news tileC_len (by omega)) (flatT_one ls) (by unfold maxLen; omega) (by omega) (by simp) ?_
  intro v' w' ho hg hv
  rw [Nat.zero_add, List.nil_append] at ho
  obtain ⟨g, cap, cur, rfl, _⟩ := trow_form ho h.1.1 hn hn2
  exact k g cap w' (((Below.refl _ W).alloc (Nat.le_refl _) _).grown hg (by simp) (fun k hk => by simp [Value.ownBlock] at hk; omega)) ho
/-- all but the first -/
theorem ints_less {w : World} {b o n : Nat} {xs : List Int} (h : Ints w (some ⟨b, o, none⟩) n xs) (hn : 1 ≤ n) : Ints w (some ⟨b, o + 1, none⟩) (n - 1) (xs.drop 1) := by
  obtain ⟨h1, h2, h3⟩ := h
  refine ⟨by rw [List.length_drop, h1], by omega, fun k hk => ?_⟩
  obtain ⟨b', o', e, hc, hi⟩ := h3 (k + 1) (by omega)
  injection e with e
  injection e with e1 e2
  subst e1 e2
  have e : (xs.drop 1).getD k 0 = xs.getD (k + 1) 0 := by simp [List.getD_eq_getElem?_getD, Nat.add_comm]
  rw [e]
  exact ⟨b, o + 1, rfl, by rw [show o + 1 + k = o + (k + 1) by omega]; exact hc, hi⟩
theorem ints_less1 {w : World} {a : Option Addr} {xs : List Int} (h : xs.length = 1) : Ints w a 0 (xs.drop 1) := ⟨by rw [List.length_drop, h], by omega, fun k hk => by omega⟩
/-- the turned copy, at the end -/
theorem leaf_twice {W27 w : World} {g2 n cap2 kk : Nat} {ls : List TileR} {t t2 : TileR} (hk : ls[kk]? = some t) (he : t2.d.kind = t.d.kind ∧ t2.d.parent = t.d.parent) (FT : w.ownsRow W27.heap.size 53 3 (.slice (some ⟨g2, 0, none⟩) n cap2) n (ls.flatMap tileC)) (hl : ls.length = n) (hn : n ≤ 1000)
    (hE : EachT W27 ls) (E : Below W27.heap.size W27 w) (FD : OwnI w W27.heap.size (bsV t2) t2.d.blocks) (hne : (bsV t2).ownBlock ≠ some g2) : TilesOK (w.setCell ⟨g2, kk * 3 + 2, none⟩ (bsV t2)) (some ⟨g2, 0, none⟩) n (ls.set kk t2) := by
  have hg : W27.heap.size ≤ g2 := (FT.lt g2 rfl).1
  have g := grown_setCell w g2 (kk * 3 + 2) (bsV t2)
  have h1 := hE t (List.mem_of_getElem? hk)
  have h2 : OwnI (w.setCell ⟨g2, kk * 3 + 2, none⟩ (bsV t2)) W27.heap.size (bsV t2) t2.d.blocks := FD.kept g (.inr hne)
  have h3 := own_le FD
  refine trow_ok (trow_turn FT hk he) (by rw [List.length_set, hl]) (EachT.set (hE.ext (E.setCell hg _)) kk ⟨?_, h3, by rw [he.1, he.2]; exact h1.2.2⟩) hn
  obtain ⟨a', c', e⟩ := h2.form
  rw [bsV] at e
  injection e with e1 e2 e3
  have h5 : OwnI (w.setCell ⟨g2, kk * 3 + 2, none⟩ (bsV t2)) W27.heap.size (.slice t2.ba t2.d.blocks.length t2.bc) t2.d.blocks := by rw [← e2]; exact h2
  rw [e2]
  exact h5.ints
theorem add_zero0 (g j : Nat) : (⟨g, 0, none⟩ : Addr).add j = ⟨g, 0 + j, none⟩ := by
  simp only [Addr.add]
  split <;> simp_all
theorem ownI_of_row {w : World} {base g m c : Nat} {bl : List Int} {x : Int} (h : w.ownsRow base 3 1 (.slice (some ⟨g, 0, none⟩) m c) m (bl.map (Value.int .i64) ++ [.int .i64 x])) (hb : ∀ z ∈ bl, I64 z) (hx : I64 x) (hl : bl.length + 1 = m) (hm : m ≤ 1000) : OwnI w base (.slice (some ⟨g, 0, none⟩) m c) (bl ++ [x]) := by
  subst hl
  have e : intVals (bl ++ [x]) = bl.map (Value.int .i64) ++ [.int .i64 x] := by simp [intVals]
  refine ⟨by rw [e, List.length_append]; exact h, fun z hz => ?_, by simp; omega⟩
  rcases List.mem_append.1 hz with hz | hz
  · exact hb z hz
  · simp at hz; rw [hz]; exact hx
end
end Go.Proofs.Ytblhmdhfhaencaa
