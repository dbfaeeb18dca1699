/-
  Maps whose keys are ints, as functions. No program in sight.
-/
import Derived.Test.YtkakanjoeofjcaaRange
namespace Go.Proofs.Ytkakanjoeofjcaa
open Go.RowKit

def mfind : List MapEntry → Int → Option Value
  | [], _ => none
  | e :: l, k => match e.key with
    | .int .i64 j => if k = j then some e.val else mfind l k
    | _ => mfind l k

def intKeys (l : List MapEntry) : Prop := ∀ e ∈ l, ∃ k : Int, e.key = .int .i64 k

/-- block b is a map with keys that are ints: at key k it has f k -/
def IMap (w : World) (b : Nat) (f : Int → Option Value) : Prop :=
  ∃ es clock, w.heap[b]? = some (.map es clock) ∧ intKeys es.toList ∧ ∀ k, mfind es.toList k = f k

def upd (f : Int → Option Value) (k : Int) (v : Value) : Int → Option Value := fun j => if j = k then some v else f j

theorem findNow_int (q : IntKind) (k : Int) : ∀ (l : List MapEntry) (i : Nat), intKeys l →
    (Instr.findNow (.int q) (.int .i64 k) l i = some none ∧ mfind l k = none) ∨
    ∃ j e, l[j]? = some e ∧ Instr.findNow (.int q) (.int .i64 k) l i = some (some (i + j, e.val)) ∧ e.key = .int .i64 k ∧ mfind l k = some e.val ∧
      ∀ v, intKeys (l.modify j fun e => { e with key := .int .i64 k, val := v }) ∧ ∀ k', mfind (l.modify j fun e => { e with key := .int .i64 k, val := v }) k' = upd (mfind l) k v k' := by
  intro l
  induction l with
  | nil => intro i _; exact Or.inl ⟨rfl, rfl⟩
  | cons e l ih =>
    intro i hk
    obtain ⟨j, hj⟩ := hk e (by simp)
    have hk' : intKeys l := fun x hx => hk x (by simp [hx])
    by_cases h : k = j
    · subst h
      refine Or.inr ⟨0, e, rfl, ?_, hj, ?_, fun v => ⟨?_, fun k' => ?_⟩⟩
      · simp [Instr.findNow, Instr.sameNow, hj]
      · simp [mfind, hj]
      · intro x hx
        simp at hx
        rcases hx with rfl | hx
        · exact ⟨k, rfl⟩
        · exact hk' x hx
      · simp only [List.modify_zero_cons, mfind, upd, hj]
        split <;> rfl
    · have hb : (k == j) = false := by simpa using h
      rcases ih (i + 1) hk' with ⟨h1, h2⟩ | ⟨m, e', h0, h1, h2, h3, h4⟩
      · exact Or.inl ⟨by simp [Instr.findNow, Instr.sameNow, hj, hb, h1], by simp [mfind, hj, h, h2]⟩
      · refine Or.inr ⟨m + 1, e', by simpa using h0, ?_, h2, ?_, fun v => ⟨?_, fun k' => ?_⟩⟩
        · simp [Instr.findNow, Instr.sameNow, hj, hb, h1]; omega
        · simp [mfind, hj, h, h3]
        · intro x hx
          simp at hx
          rcases hx with rfl | hx
          · exact ⟨j, hj⟩
          · exact (h4 v).1 x hx
        · have := (h4 v).2 k'
          simp only [List.modify_succ_cons, mfind, upd, hj] at this ⊢
          rw [this]
          by_cases e1 : k' = j
          · subst e1; simp [Ne.symm h]
          · simp [e1]

theorem mfind_push (l : List MapEntry) (k : Int) (v : Value) (b : Nat) (k' : Int) (hn : mfind l k = none) (hk : intKeys l) :
    mfind (l ++ [{ key := .int .i64 k, val := v, born := b }]) k' = upd (mfind l) k v k' := by
  induction l with
  | nil => simp [mfind, upd]
  | cons e l ih =>
    obtain ⟨j, hj⟩ := hk e (by simp)
    simp only [mfind, hj] at hn
    split at hn
    · cases hn
    · rename_i hkj
      have := ih hn (fun x hx => hk x (by simp [hx]))
      simp only [List.cons_append, mfind, hj, upd] at this ⊢
      rw [this]
      by_cases e1 : k' = j
      · subst e1; simp [Ne.symm hkj]
      · simp [e1]

section
variable {P : Program} {t kt et : TypeId} {w : World} {b : Nat} {f : Int → Option Value}
theorem IMap.lt (h : IMap w b f) : b < w.heap.size := by obtain ⟨es, c, hb, _⟩ := h; exact (Array.getElem?_eq_some_iff.1 hb).1
theorem IMap.made (w : World) : IMap (w.alloc (.map #[] 0)) w.heap.size (fun _ => none) :=
  ⟨#[], 0, World.alloc_heap_new w _, by intro e he; simp at he, fun k => rfl⟩
theorem IMap.of_block {w' : World} (h : IMap w b f) (hb : w'.heap[b]? = w.heap[b]?) : IMap w' b f := by
  obtain ⟨es, c, h1, h2⟩ := h; exact ⟨es, c, hb.trans h1, h2⟩
theorem IMap.ext {w' : World} (h : IMap w b f) (hb : Below w.heap.size w w') : IMap w' b f := h.of_block (hb.block b h.lt)
theorem IMap.grown {w' : World} {row : Option Nat} (h : IMap w b f) (hg : w.grownBy w' row) (hne : some b ≠ row) : IMap w' b f := h.of_block (hg.block b h.lt hne)
theorem IMap.alloc (h : IMap w b f) (o : Obj) : IMap (w.alloc o) b f := h.of_block (Below.heap_alloc w o b h.lt)
theorem IMap.setCell (h : IMap w b f) (p : Addr) (v : Value) : IMap (w.setCell p v) b f := by
  obtain ⟨es, c, h1, h2⟩ := h
  refine ⟨es, c, ?_, h2⟩
  by_cases e : b = p.block
  · subst e
    obtain ⟨hlt, hk'⟩ := Array.getElem?_eq_some_iff.1 h1
    show (w.heap.modify p.block _)[p.block]? = _
    rw [Array.getElem?_eq_getElem (by rw [Array.size_modify]; exact hlt), Array.getElem_modify_self, hk']
  · exact (Below.heap_setCell w p v b e).trans h1
theorem IMap.drewN (h : IMap w b f) (n : Nat) : IMap (w.drewN n) b f := h
theorem Steady.imap (B b : Nat) (f : Int → Option Value) : Steady B (fun W => IMap W b f) := fun W W' row h hg hr => by
  obtain ⟨es, c, h1, h2⟩ := h
  exact ⟨es, c, block_keep h1 rfl hg hr, h2⟩

theorem run_checkKey_int (hk : P.underlying kt = some (.int .i64)) (em : Bool) (k : Int) (w : World) : (Instr.checkKey em 10000 kt (.int .i64 k)).run P w = .ok () w := by
  have : ∀ n, (Instr.checkKey em (n + 1) kt (.int .i64 k)).run P w = .ok () w := fun n => by simp [Instr.checkKey, run_underlying hk]
  exact this 9999
theorem sameBits_int (k : Int) : Instr.sameBits 10000 (.int .i64 k) (.int .i64 k) = true := by
  have : ∀ n, Instr.sameBits n (.int .i64 k) (.int .i64 k) = true := fun n => by cases n <;> simp [Instr.sameBits]
  exact this 10000

theorem run_findKey_int (hk : P.underlying kt = some (.int .i64)) (k : Int) (l : List MapEntry) (r : Option (Nat × Value)) (w : World) (h : Instr.findNow (.int .i64) (.int .i64 k) l 0 = some r) :
    (Instr.findKey kt (.int .i64 k) l).run P w = .ok r w := by
  simp [Instr.findKey, run_underlying hk, h]

theorem IMap.look (h : IMap w b f) (ht : P.underlying t = some (.map kt et)) (hk : P.underlying kt = some (.int .i64)) {z : Value} (hz : (zeroValue et).run P w = .ok z w) (k : Int) :
    (Instr.lookup t (.map (some b)) (.int .i64 k) false).run P w = .ok ((f k).getD z) w := by
  obtain ⟨es, c, hb, hi, hf⟩ := h
  have hgo : (getObj b).run P w = .ok (.map es c) w := by simp [getObj, Sem.run, hb]
  rcases findNow_int .i64 k es.toList 0 hi with ⟨h1, h2⟩ | ⟨j, e, _, h1, _, h2, _⟩
  · rw [hf] at h2
    simp [Instr.lookup, run_underlying ht, Sem.run_bind, hgo, run_checkKey_int hk, run_findKey_int hk k _ _ w h1, hz, h2, Result.andThen]
  · rw [hf] at h2
    simp [Instr.lookup, run_underlying ht, Sem.run_bind, hgo, run_checkKey_int hk, run_findKey_int hk k _ _ w h1, h2, Result.andThen]

theorem IMap.look_ok (h : IMap w b f) (ht : P.underlying t = some (.map kt et)) (hk : P.underlying kt = some (.int .i64)) {z : Value} (hz : (zeroValue et).run P w = .ok z w) (k : Int) :
    (Instr.lookup t (.map (some b)) (.int .i64 k) true).run P w = .ok (.tuple #[(f k).getD z, .bool (f k).isSome]) w := by
  obtain ⟨es, c, hb, hi, hf⟩ := h
  have hgo : (getObj b).run P w = .ok (.map es c) w := by simp [getObj, Sem.run, hb]
  rcases findNow_int .i64 k es.toList 0 hi with ⟨h1, h2⟩ | ⟨j, e, _, h1, _, h2, _⟩
  · rw [hf] at h2
    simp [Instr.lookup, run_underlying ht, Sem.run_bind, hgo, run_checkKey_int hk, run_findKey_int hk k _ _ w h1, hz, h2, Result.andThen]
  · rw [hf] at h2
    simp [Instr.lookup, run_underlying ht, Sem.run_bind, hgo, run_checkKey_int hk, run_findKey_int hk k _ _ w h1, h2, Result.andThen]

theorem IMap.put (h : IMap w b f) (ht : P.underlying t = some (.map kt et)) (hk : P.underlying kt = some (.int .i64)) (k : Int) (v : Value) :
    ∃ o, (Instr.mapUpdate t (.map (some b)) (.int .i64 k) v).run P w = .ok () (w.putObj b o) ∧ IMap (w.putObj b o) b (upd f k v) := by
  have hlt := h.lt
  obtain ⟨es, c, hb, hi, hf⟩ := h
  have hgo : (getObj b).run P w = .ok (.map es c) w := by simp [getObj, Sem.run, hb]
  have hso : ∀ o, (setObj b o).run P w = .ok () (w.putObj b o) := fun o => by simp [setObj, Sem.run, hb, World.putObj]
  rcases findNow_int .i64 k es.toList 0 hi with ⟨h1, h2⟩ | ⟨j, e, hj, h1, hek, h2, h3⟩
  · refine ⟨.map (es.push { key := .int .i64 k, val := v, born := c }) (c + 1), ?_, ?_⟩
    · simp [Instr.mapUpdate, run_underlying ht, Sem.run_bind, hgo, run_checkKey_int hk, run_findKey_int hk k _ _ w h1, hso, Result.andThen]
    · refine ⟨_, _, World.putObj_heap_same hlt, ?_, fun k' => ?_⟩
      · intro x hx
        simp at hx
        rcases hx with hx | rfl
        · exact hi x (by simpa using hx)
        · exact ⟨k, rfl⟩
      · rw [Array.toList_push, mfind_push _ _ _ _ _ h2 hi]
        simp only [upd, hf]
  · have hes : es[0 + j]? = some e := by simpa using hj
    refine ⟨.map (es.modify (0 + j) fun e => { e with key := .int .i64 k, val := v }) c, ?_, ?_⟩
    · simp [Instr.mapUpdate, run_underlying ht, Sem.run_bind, hgo, run_checkKey_int hk, run_findKey_int hk k _ _ w h1, hso, Result.andThen, Instr.keyThatStays]
      simp at hes
      simp [hes, hek, sameBits_int, hso]
    · refine ⟨_, _, World.putObj_heap_same hlt, ?_, fun k' => ?_⟩
      · have := (h3 v).1
        simpa [Array.toList_modify] using this
      · have := (h3 v).2 k'
        rw [Array.toList_modify, Nat.zero_add, this]
        simp only [upd, hf]
end
end Go.Proofs.Ytkakanjoeofjcaa
