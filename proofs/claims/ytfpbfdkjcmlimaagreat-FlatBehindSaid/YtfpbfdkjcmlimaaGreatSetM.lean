/-
  Maps as sets: keys of whatever type can be compared, elements all alike. No program in sight.
-/
import Derived.Maps.RangeRun
import Derived.Maps.OwnSet
import Derived.Maps.RangeWalk
import Derived.Test.YtfpbfdkjcmlimaaGreatRound
import Derived.Test.YtfpbfdkjcmlimaaGreatRangeT
namespace Go.Proofs.YtfpbfdkjcmlimaaGreat
set_option linter.unusedSimpArgs false
set_option linter.unusedVariables false
set_option linter.unusedSectionVars false
set_option maxRecDepth 100000
set_option maxHeartbeats 40000000
section
open Go.RowKit
theorem nodup_length_le {α : Type} : ∀ {l l' : List α}, l.Nodup → (∀ x ∈ l, x ∈ l') → l.length ≤ l'.length
  | [], l', _, _ => Nat.zero_le _
  | a :: t, l', hn, hs => by
    obtain ⟨hat, ht⟩ := List.nodup_cons.1 hn
    obtain ⟨s, r, rfl⟩ := List.append_of_mem (hs a (by simp))
    have h1 : ∀ x ∈ t, x ∈ s ++ r := fun x hx => by
      have h2 := hs x (by simp [hx])
      have hne : x ≠ a := fun e => hat (e ▸ hx)
      simp only [List.mem_append, List.mem_cons] at h2 ⊢
      rcases h2 with h2 | h2 | h2
      · exact .inl h2
      · exact absurd h2 hne
      · exact .inr h2
    have := nodup_length_le ht h1
    simp only [List.length_append, List.length_cons] at this ⊢
    omega
theorem map_inj_of_nodup {α β : Type} {g : α → β} : ∀ {l : List α}, (l.map g).Nodup → ∀ {x y : α}, x ∈ l → y ∈ l → g x = g y → x = y
  | [], _, _, _, hx, _, _ => by cases hx
  | a :: t, hn, x, y, hx, hy, h => by
    obtain ⟨h1, h2⟩ := List.nodup_cons.1 hn
    rcases List.mem_cons.1 hx with rfl | hx'
    · rcases List.mem_cons.1 hy with rfl | hy'
      · rfl
      · exact absurd (List.mem_map.2 ⟨y, hy', h.symm⟩) h1
    · rcases List.mem_cons.1 hy with rfl | hy'
      · exact absurd (List.mem_map.2 ⟨x, hx', h⟩) h1
      · exact map_inj_of_nodup h2 hx' hy' h
structure KeyT {α : Type} (P : Program) (kt : TypeId) (enc : α → Value) (dec : Value → α) : Prop where
  under : ∃ d, P.underlying kt = some d ∧ ∀ (x : α) (e : MapEntry) (l : List MapEntry) (i : Nat), Instr.findNow d (enc x) (e :: l) i = none
  check : ∀ (em : Bool) (x : α) (w : World), (Instr.checkKey em 10000 kt (enc x)).run P w = .ok () w
  eql : ∀ (x y : α) (w : World), ∃ b, (Op.equal kt (enc x) (enc y)).run P w = .ok b w ∧ (b = true ↔ x = y)
  bits : ∀ (x : α), Instr.sameBits 10000 (enc x) (enc x) = true
  dec : ∀ (x : α), dec (enc x) = x
def SetM {α : Type} (enc : α → Value) (dec : Value → α) (one : Value) (w : World) (b : Nat) (L : List α) : Prop :=
  ∃ es clock, w.heap[b]? = some (.map es clock) ∧ (∀ e ∈ es.toList, e.key = enc (dec e.key) ∧ e.val = one ∧ e.born < clock) ∧ L = es.toList.map (fun e => dec e.key) ∧ L.Nodup ∧ (es.toList.map (·.born)).Nodup
section
variable {α : Type} {P : Program} {t kt et : TypeId} {enc : α → Value} {dec : Value → α} {one : Value} {w w' : World} {b : Nat} {L : List α}
theorem KeyT.asking (K : KeyT P kt enc dec) (x : α) (w : World) : ∀ (l : List MapEntry) (i : Nat), (∀ e ∈ l, e.key = enc (dec e.key)) →
    (x ∉ l.map (fun e => dec e.key) ∧ (Instr.findAsking kt (enc x) l i).run P w = .ok none w) ∨
    ∃ j e, l[j]? = some e ∧ dec e.key = x ∧ (Instr.findAsking kt (enc x) l i).run P w = .ok (some (i + j, e.val)) w
  | [], i, _ => .inl ⟨by simp, by simp [Instr.findAsking]⟩
  | e :: l, i, h => by
    have he := h e (by simp)
    obtain ⟨q, hq, hqe⟩ := K.eql x (dec e.key) w
    rw [← he] at hq
    cases q with
    | true =>
      refine .inr ⟨0, e, rfl, (hqe.1 rfl).symm, ?_⟩
      simp [Instr.findAsking, hq, Result.andThen]
    | false =>
      have hne : x ≠ dec e.key := fun c => by have := hqe.2 c; cases this
      rcases KeyT.asking K x w l (i + 1) (fun e' he' => h e' (by simp [he'])) with ⟨h1, h2⟩ | ⟨j, e', h1, h2, h3⟩
      · refine .inl ⟨by simp only [List.map_cons, List.mem_cons, not_or]; exact ⟨hne, h1⟩, ?_⟩
        simp [Instr.findAsking, hq, h2, Result.andThen]
      · refine .inr ⟨j + 1, e', by simpa using h1, h2, ?_⟩
        simp [Instr.findAsking, hq, h3, Result.andThen]
        omega
theorem KeyT.find (K : KeyT P kt enc dec) (x : α) (w : World) (l : List MapEntry) (h : ∀ e ∈ l, e.key = enc (dec e.key)) :
    (x ∉ l.map (fun e => dec e.key) ∧ (Instr.findKey kt (enc x) l).run P w = .ok none w) ∨
    ∃ j e, l[j]? = some e ∧ dec e.key = x ∧ (Instr.findKey kt (enc x) l).run P w = .ok (some (j, e.val)) w := by
  obtain ⟨d, hd, hn⟩ := K.under
  cases l with
  | nil => exact .inl ⟨by simp, by simp [Instr.findKey, run_underlying hd, Instr.findNow]⟩
  | cons e l =>
    have hf : (Instr.findKey kt (enc x) (e :: l)).run P w = (Instr.findAsking kt (enc x) (e :: l) 0).run P w := by
      simp [Instr.findKey, run_underlying hd, hn x e l 0]
    rw [hf]
    rcases K.asking x w (e :: l) 0 h with h1 | ⟨j, e', h1, h2, h3⟩
    · exact .inl h1
    · exact .inr ⟨j, e', h1, h2, by simpa using h3⟩
theorem SetM.lt (h : SetM enc dec one w b L) : b < w.heap.size := by obtain ⟨es, c, hb, _⟩ := h; exact (Array.getElem?_eq_some_iff.1 hb).1
theorem SetM.nodup (h : SetM enc dec one w b L) : L.Nodup := by obtain ⟨es, c, _, _, _, h, _⟩ := h; exact h
theorem SetM.made (enc : α → Value) (dec : Value → α) (one : Value) (w : World) : SetM enc dec one (w.alloc (.map #[] 0)) w.heap.size [] :=
  ⟨#[], 0, World.alloc_heap_new w _, by intro e he; simp at he, by simp, by simp, by simp⟩
theorem SetM.of_block (h : SetM enc dec one w b L) (hb : w'.heap[b]? = w.heap[b]?) : SetM enc dec one w' b L := by
  obtain ⟨es, c, h1, h2⟩ := h; exact ⟨es, c, hb.trans h1, h2⟩
theorem SetM.ext (h : SetM enc dec one w b L) (hb : Below w.heap.size w w') : SetM enc dec one w' b L := h.of_block (hb.block b h.lt)
theorem SetM.alloc (h : SetM enc dec one w b L) (o : Obj) : SetM enc dec one (w.alloc o) b L := h.of_block (Below.heap_alloc w o b h.lt)
theorem SetM.copy (h : SetM enc dec one w b L) : ∃ es clock, w.heap[b]? = some (.map es clock) ∧ SetM enc dec one (w.alloc (.map es clock)) w.heap.size L := by
  obtain ⟨es, c, h1, h2⟩ := h; exact ⟨es, c, h1, es, c, World.alloc_heap_new w _, h2⟩
theorem SetM.setCell (h : SetM enc dec one w b L) (p : Addr) (v : Value) : SetM enc dec one (w.setCell p v) b L := by
  obtain ⟨es, c, h1, h2⟩ := h
  refine ⟨es, c, ?_, h2⟩
  by_cases e : b = p.block
  · subst e
    obtain ⟨hlt, hk'⟩ := Array.getElem?_eq_some_iff.1 h1
    show (w.heap.modify p.block _)[p.block]? = _
    rw [Array.getElem?_eq_getElem (by rw [Array.size_modify]; exact hlt), Array.getElem_modify_self, hk']
  · exact (Below.heap_setCell w p v b e).trans h1
theorem SetM.drewN (h : SetM enc dec one w b L) (n : Nat) : SetM enc dec one (w.drewN n) b L := h
theorem SetM.nocell (h : SetM enc dec one w b L) {p : Addr} {v : Value} (hc : w.cell? p = some v) : p.block ≠ b := fun e => by
  obtain ⟨es, c, h1, _⟩ := h
  unfold World.cell? at hc
  rw [e, h1] at hc
  cases hc
theorem run_keyStays (x : α) (K : KeyT P kt enc dec) (w : World) : (Instr.keyThatStays (enc x) (enc x)).run P w = .ok (enc x) w := by
  simp [Instr.keyThatStays, K.bits]
theorem SetM.look [DecidableEq α] (h : SetM enc dec one w b L) (K : KeyT P kt enc dec) (ht : P.underlying t = some (.map kt et)) {z : Value} (hz : (zeroValue et).run P w = .ok z w) (x : α) :
    (Instr.lookup t (.map (some b)) (enc x) false).run P w = .ok (if x ∈ L then one else z) w := by
  obtain ⟨es, c, hb, hi, rfl, _⟩ := h
  have hgo : (getObj b).run P w = .ok (.map es c) w := by simp [getObj, Sem.run, hb]
  rcases K.find x w es.toList (fun e he => (hi e he).1) with ⟨h1, h2⟩ | ⟨j, e, h1, h2, h3⟩
  · simp [Instr.lookup, run_underlying ht, Sem.run_bind, hgo, K.check, h2, hz, Result.andThen]
    intro y hy hxy
    exact absurd (List.mem_map.2 ⟨y, Array.mem_toList_iff.2 hy, hxy⟩) h1
  · have hm := List.mem_of_getElem? h1
    have hx : x ∈ es.toList.map (fun e => dec e.key) := List.mem_map.2 ⟨e, hm, h2⟩
    rw [if_pos hx, ← (hi e hm).2.1]
    simp [Instr.lookup, run_underlying ht, Sem.run_bind, hgo, K.check, h3, Result.andThen]
theorem SetM.put (h : SetM enc dec one w b L) (K : KeyT P kt enc dec) (ht : P.underlying t = some (.map kt et)) (x : α) :
    ∃ o L', (Instr.mapUpdate t (.map (some b)) (enc x) one).run P w = .ok () (w.putObj b o) ∧ SetM enc dec one (w.putObj b o) b L' ∧ ∀ y, y ∈ L' ↔ y ∈ L ∨ y = x := by
  have hlt := h.lt
  obtain ⟨es, c, hb, hi, rfl, hn, hbn⟩ := h
  have hgo : (getObj b).run P w = .ok (.map es c) w := by simp [getObj, Sem.run, hb]
  have hso : ∀ o, (setObj b o).run P w = .ok () (w.putObj b o) := fun o => by simp [setObj, Sem.run, hb, World.putObj]
  rcases K.find x w es.toList (fun e he => (hi e he).1) with ⟨h1, h2⟩ | ⟨j, e, h1, h2, h3⟩
  · refine ⟨.map (es.push { key := enc x, val := one, born := c }) (c + 1), es.toList.map (fun e => dec e.key) ++ [x], ?_, ⟨_, _, World.putObj_heap_same hlt, ?_, ?_, ?_, ?_⟩, fun y => by simp⟩
    · simp [Instr.mapUpdate, run_underlying ht, Sem.run_bind, hgo, K.check, h2, hso, Result.andThen]
    · intro e he
      simp only [Array.toList_push, List.mem_append, List.mem_singleton] at he
      rcases he with he | rfl
      · obtain ⟨a1, a2, a3⟩ := hi e he
        exact ⟨a1, a2, by omega⟩
      · exact ⟨by rw [K.dec], rfl, by simp⟩
    · simp [K.dec]
    · refine List.nodup_append.2 ⟨hn, by simp, fun a ha a' ha' e => ?_⟩
      simp at ha'
      subst ha' e
      exact h1 ha
    · rw [Array.toList_push, List.map_append]
      refine List.nodup_append.2 ⟨hbn, by simp, fun a ha a' ha' e => ?_⟩
      simp at ha'
      subst ha'
      obtain ⟨e', he', rfl⟩ := List.mem_map.1 ha
      have := (hi e' he').2.2
      omega
  · have hm := List.mem_of_getElem? h1
    have hes : es[j]? = some e := by simpa using h1
    have hsame : es.modify j (fun e' => { e' with key := enc x, val := one }) = es := by
      apply Array.ext_getElem?
      intro i
      rw [Array.getElem?_modify]
      split
      · rename_i hij
        subst hij
        rw [hes]
        obtain ⟨a1, a2, _⟩ := hi e hm
        simp only [Option.map_some]
        rw [← h2, ← a1, ← a2]
      · rfl
    refine ⟨.map es c, es.toList.map (fun e => dec e.key), ?_, ⟨_, _, World.putObj_heap_same hlt, hi, rfl, hn, hbn⟩, fun y => ⟨.inl, fun hy => ?_⟩⟩
    · have hk : e.key = enc x := by rw [(hi e hm).1, h2]
      simp [Instr.mapUpdate, run_underlying ht, Sem.run_bind, hgo, K.check, h3, Result.andThen, hes, hk, run_keyStays x K, hso, hsame]
    · rcases hy with hy | rfl
      · exact hy
      · exact List.mem_map.2 ⟨e, hm, h2⟩
theorem SetM.del (h : SetM enc dec one w b L) (K : KeyT P kt enc dec) (ht : P.underlying t = some (.map kt et)) (x : α) (ty : TypeId) :
    ∃ o L', (Builtin.delete_ #[t, kt] ty #[.map (some b), enc x]).run P w = .ok (.tuple #[]) (w.putObj b o) ∧ SetM enc dec one (w.putObj b o) b L' ∧ ∀ y, y ∈ L' ↔ y ∈ L ∧ y ≠ x := by
  have hlt := h.lt
  obtain ⟨es, c, hb, hi, rfl, hn, hbn⟩ := h
  have hgo : (getObj b).run P w = .ok (.map es c) w := by simp [getObj, Sem.run, hb]
  have hso : ∀ o, (setObj b o).run P w = .ok () (w.putObj b o) := fun o => by simp [setObj, Sem.run, hb, World.putObj]
  rcases K.find x w es.toList (fun e he => (hi e he).1) with ⟨h1, h2⟩ | ⟨j, e, h1, h2, h3⟩
  · refine ⟨.map es c, _, ?_, ⟨_, _, World.putObj_heap_same hlt, hi, rfl, hn, hbn⟩, fun y => ⟨fun hy => ⟨hy, fun e => h1 (e ▸ hy)⟩, fun hy => hy.1⟩⟩
    simp [Builtin.delete_, run_underlying ht, hgo, K.check, h2, hso, Result.andThen]
  · have hjl : j < es.toList.length := (List.getElem?_eq_some_iff.1 h1).1
    have hjs : j < es.size := by simpa using hjl
    have hlist : (es.eraseIdxIfInBounds j).toList = es.toList.eraseIdx j := by
      unfold Array.eraseIdxIfInBounds
      rw [dif_pos hjs]
      simp
    have hsub : (es.toList.eraseIdx j).Sublist es.toList := List.eraseIdx_sublist _ _
    refine ⟨.map (es.eraseIdxIfInBounds j) c, (es.toList.eraseIdx j).map (fun e => dec e.key), ?_, ⟨_, _, World.putObj_heap_same hlt, ?_, by rw [hlist], (hsub.map _).nodup hn, by rw [hlist]; exact (hsub.map _).nodup hbn⟩, fun y => ?_⟩
    · simp [Builtin.delete_, run_underlying ht, hgo, K.check, h3, hso, Result.andThen]
    · intro e' he'
      rw [hlist] at he'
      exact hi e' (hsub.subset he')
    · rw [List.mem_map]
      constructor
      · rintro ⟨e', he', rfl⟩
        obtain ⟨i, hne, hi'⟩ := List.mem_eraseIdx_iff_getElem?.1 he'
        refine ⟨List.mem_map.2 ⟨e', List.mem_of_getElem? hi', rfl⟩, fun hy => hne ?_⟩
        have hl := (List.getElem?_eq_some_iff.1 hi').1
        have h5 : (es.toList.map (fun e => dec e.key))[i]? = (es.toList.map (fun e => dec e.key))[j]? := by
          rw [List.getElem?_map, List.getElem?_map, hi', h1]
          simp [hy, h2]
        exact (List.getElem?_inj (by simpa using hl) hn).1 h5
      · rintro ⟨hy, hne⟩
        obtain ⟨e', he', rfl⟩ := List.mem_map.1 hy
        obtain ⟨i, hi'⟩ := List.getElem?_of_mem he'
        refine ⟨e', List.mem_eraseIdx_iff_getElem?.2 ⟨i, fun c => hne ?_, hi'⟩, rfl⟩
        subst c
        rw [h1] at hi'
        cases hi'
        exact h2
def SetI (enc : α → Value) (dec : Value → α) (one : Value) (w : World) (b r : Nat) (L R : List α) : Prop :=
  ∃ es clock since seen c0, w.heap[b]? = some (.map es clock) ∧ (∀ e ∈ es.toList, e.key = enc (dec e.key) ∧ e.val = one ∧ e.born < clock) ∧ L = es.toList.map (fun e => dec e.key) ∧ L.Nodup ∧ (es.toList.map (·.born)).Nodup ∧
    w.heap[r]? = some (.mapIter (some b) since seen c0) ∧ (∀ x ∈ es.toList, x.born < since) ∧ since ≤ c0 ∧ since ≤ clock ∧ R = (leftOf es seen).toList.map (fun e => dec e.key)
theorem SetI.set {r : Nat} {R : List α} (h : SetI enc dec one w b r L R) : SetM enc dec one w b L := by
  obtain ⟨es, clock, since, seen, c0, h1, h2, h3, h4, h5, _⟩ := h
  exact ⟨es, clock, h1, h2, h3, h4, h5⟩
theorem SetI.of_blocks {r : Nat} {R : List α} (h : SetI enc dec one w b r L R) (hb : w'.heap[b]? = w.heap[b]?) (hr : w'.heap[r]? = w.heap[r]?) : SetI enc dec one w' b r L R := by
  obtain ⟨es, clock, since, seen, c0, h1, h2, h3, h4, h5, h6, h7⟩ := h
  exact ⟨es, clock, since, seen, c0, hb.trans h1, h2, h3, h4, h5, hr.trans h6, h7⟩
theorem SetI.lt {r : Nat} {R : List α} (h : SetI enc dec one w b r L R) : b < w.heap.size ∧ r < w.heap.size ∧ r ≠ b := by
  obtain ⟨es, clock, since, seen, c0, h1, h2, h3, h4, h5, h6, h7⟩ := h
  refine ⟨(Array.getElem?_eq_some_iff.1 h1).1, (Array.getElem?_eq_some_iff.1 h6).1, fun e => ?_⟩
  rw [e, h1] at h6
  cases h6
theorem SetI.ext {r : Nat} {R : List α} (h : SetI enc dec one w b r L R) (hb : Below w.heap.size w w') : SetI enc dec one w' b r L R := h.of_blocks (hb.block b h.lt.1) (hb.block r h.lt.2.1)
theorem SetI.kept {r : Nat} {R : List α} {row : Option Nat} (h : SetI enc dec one w b r L R) (hg : w.grownBy w' row) (hb : some b ≠ row) (hr : some r ≠ row) : SetI enc dec one w' b r L R := h.of_blocks (hg.block b h.lt.1 hb) (hg.block r h.lt.2.1 hr)
theorem SetI.sub {r : Nat} {R : List α} (h : SetI enc dec one w b r L R) : R.Nodup ∧ ∀ x ∈ R, x ∈ L := by
  obtain ⟨es, clock, since, seen, c0, h1, h2, rfl, h4, h5, h6, h7, h8, h8b, rfl⟩ := h
  have hs : ((leftOf es seen).toList.map (fun e => dec e.key)).Sublist (es.toList.map (fun e => dec e.key)) := by
    unfold leftOf
    rw [Array.toList_filter]
    exact (List.filter_sublist (l := es.toList)).map _
  exact ⟨hs.nodup h4, fun x hx => hs.subset hx⟩
theorem SetM.range (h : SetM enc dec one w b L) (ht : P.underlying t = some (.map kt et)) :
    ∃ o, isBook o = false ∧ (Instr.range t (.map (some b))).run P w = .ok (.pointer (some ⟨w.heap.size, 0, none⟩)) (w.alloc o) ∧ SetI enc dec one (w.alloc o) b w.heap.size L L := by
  have hlt := h.lt
  obtain ⟨es, c, hb, hi, hL, hn, hbn⟩ := h
  refine ⟨_, ?_, run_range_map w t kt et b es c ht hb, es, c, c, #[], c, ?_, hi, hL, hn, hbn, World.alloc_heap_new w _, fun x hx => (hi x hx).2.2, Nat.le_refl _, Nat.le_refl _, ?_⟩
  · rfl
  · exact (Below.heap_alloc w _ b hlt).trans hb
  · rw [hL]
    unfold leftOf
    rw [Array.toList_filter, List.filter_eq_self.2 (fun x _ => by simp)]
theorem SetI.next {r : Nat} {R : List α} (h : SetI enc dec one w b r L R) (ty : TypeId) :
    (R = [] ∧ (Instr.next (.pointer (some ⟨r, 0, none⟩)) false ty).run P w = .ok (.tuple #[.bool false]) w) ∨
    ∃ x R' w', x ∈ R ∧ (∀ y, y ∈ R' ↔ y ∈ R ∧ y ≠ x) ∧ R'.length < R.length ∧ (Instr.next (.pointer (some ⟨r, 0, none⟩)) false ty).run P w = .ok (.tuple #[.bool true, enc x, one]) w' ∧ SetI enc dec one w' b r L R' ∧
      w.grownBy w' (some r) ∧ w'.heap.size = w.heap.size ∧ (Instr.entry (.pointer (some ⟨r, 0, none⟩))).run P w' = .ok (.tuple #[enc x, one]) w' := by
  have hlt := h.lt
  have hsub := h.sub
  obtain ⟨es, clock, since, seen, c0, h1, h2, rfl, h4, h5, h6, h7, h8, h8b, rfl⟩ := h
  rcases run_next_at (P := P) w ty r b since c0 seen es clock h6 h1 h7 h8 with ⟨h0, hrun⟩ | ⟨e, he, w1, hal, hrun⟩
  · refine .inl ⟨?_, hrun⟩
    have : (leftOf es seen).toList = [] := List.eq_nil_of_length_eq_zero (by simpa using h0)
    rw [this]; rfl
  · have hle : e ∈ es.toList ∧ e.born ∉ seen.toList := by
      unfold leftOf at he
      rw [Array.toList_filter, List.mem_filter] at he
      refine ⟨he.1, ?_⟩
      simpa using he.2
    obtain ⟨k1, k2, k3⟩ := h2 e hle.1
    have hmem : ∀ y, y ∈ (leftOf es (seen.push e.born)).toList.map (fun e => dec e.key) ↔ y ∈ (leftOf es seen).toList.map (fun e => dec e.key) ∧ y ≠ dec e.key := fun y => by
      unfold leftOf
      rw [Array.toList_filter, Array.toList_filter, List.mem_map, List.mem_map]
      constructor
      · rintro ⟨e', he', rfl⟩
        rw [List.mem_filter] at he'
        simp only [Array.contains_push, Bool.not_or, Bool.and_eq_true] at he'
        refine ⟨⟨e', List.mem_filter.2 ⟨he'.1, ?_⟩, rfl⟩, fun c => ?_⟩
        · first | exact he'.2.1 | exact he'.2.2
        · have := map_inj_of_nodup h4 he'.1 hle.1 c
          subst this
          simp at he'
      · rintro ⟨⟨e', he', rfl⟩, hne⟩
        rw [List.mem_filter] at he'
        refine ⟨e', List.mem_filter.2 ⟨he'.1, ?_⟩, rfl⟩
        have hb : e'.born ≠ e.born := fun c => hne (by rw [map_inj_of_nodup h5 he'.1 hle.1 c])
        have h9 := he'.2
        simp at h9
        simp [h9, hb]
    have hw1 : w1.heap = w.heap := by rcases hal with rfl | rfl <;> rfl
    have hg1 : w.grownBy w1 (some r) := by rcases hal with rfl | rfl <;> exact ⟨rfl, rfl, rfl, Nat.le_refl _, fun _ _ _ => rfl⟩
    have hsb : (Go.ChangeMaps.setBlock w1 r (.mapIter (some b) since (seen.push e.born) clock)) = w1.putObj r (.mapIter (some b) since (seen.push e.born) clock) := rfl
    have hrl : r < w1.heap.size := by rw [hw1]; exact hlt.2.1
    have hSI : SetI enc dec one (w1.putObj r (.mapIter (some b) since (seen.push e.born) clock)) b r (es.toList.map (fun e => dec e.key)) ((leftOf es (seen.push e.born)).toList.map (fun e => dec e.key)) := by
      refine ⟨es, clock, since, seen.push e.born, clock, ?_, h2, rfl, h4, h5, World.putObj_heap_same hrl, h7, h8b, h8b, rfl⟩
      · have := (grown_put w1 r (.mapIter (some b) since (seen.push e.born) clock)).block b (by rw [hw1]; exact hlt.1) (by simpa using fun c : b = r => hlt.2.2 c.symm)
        rw [this, hw1]; exact h1
    refine .inr ⟨dec e.key, (leftOf es (seen.push e.born)).toList.map (fun e => dec e.key), w1.putObj r (.mapIter (some b) since (seen.push e.born) clock), List.mem_map.2 ⟨e, he, rfl⟩, hmem, ?_, ?_, hSI, ?_, ?_, ?_⟩
    · have hn' : (dec e.key :: (leftOf es (seen.push e.born)).toList.map (fun e => dec e.key)).Nodup := List.nodup_cons.2 ⟨fun c => ((hmem _).1 c).2 rfl, hSI.sub.1⟩
      have := nodup_length_le hn' (l' := (leftOf es seen).toList.map (fun e => dec e.key)) (fun x hx => by
        rcases List.mem_cons.1 hx with rfl | hx
        · exact List.mem_map.2 ⟨e, he, rfl⟩
        · exact ((hmem x).1 hx).1)
      simp only [List.length_cons] at this
      omega
    · rw [hrun, ← k1, k2]; rfl
    · exact hg1.andThen (grown_put w1 r _) (fun j hj => .inr hj)
    · simp [World.putObj, hw1]
    · rw [run_entry_at (P := P) _ r b since seen es clock e (World.putObj_heap_same hrl) ?_ hle.1 h5, ← k1, k2]
      have := (grown_put w1 r (.mapIter (some b) since (seen.push e.born) clock)).block b (by rw [hw1]; exact hlt.1) (by simpa using fun c : b = r => hlt.2.2 c.symm)
      rw [this, hw1]; exact h1
variable {ops : Array Oper} {rest : List Oper} {o : Oper} {a : Act} {Q : Exit → Act → World → Prop}
theorem size_put (w : World) (b : Nat) (o : Obj) : (w.putObj b o).heap.size = w.heap.size := by simp [World.putObj]
theorem wpList_putM (hg : o.guard = none) (m x v : Operand) (hop : o.op = Op.mapUpdate t m x v) (K : KeyT P kt enc dec) (ht : P.underlying t = some (.map kt et)) (h : SetM enc dec one w b L)
    (hm : a.eval m = .map (some b)) (y : α) (hx : a.eval x = enc y) (hv : a.eval v = one)
    (hK : ∀ w' L', SetM enc dec one w' b L' → (∀ z, z ∈ L' ↔ z ∈ L ∨ z = y) → w.grownBy w' (some b) → w'.heap.size = w.heap.size → wpList P ops Q rest (a.put o.dst undef) w') : wpList P ops Q (o :: rest) a w := by
  refine wpList_plain hg fun K' hK' => ?_
  obtain ⟨o', L', hrun, r1, r2⟩ := h.put K ht y
  unfold Oper.wp
  simp [execOp, hop, hm, hx, hv, hrun, Result.andThen]
  exact hK' _ _ (hK _ L' r1 r2 (grown_put w b o') (size_put _ _ _))
theorem op_putM {K' : Act → World → Prop} (m x v : Operand) (hop : o.op = Op.mapUpdate t m x v) (K : KeyT P kt enc dec) (ht : P.underlying t = some (.map kt et)) (h : SetM enc dec one w b L)
    (hm : a.eval m = .map (some b)) (y : α) (hx : a.eval x = enc y) (hv : a.eval v = one)
    (hK : ∀ w' L', SetM enc dec one w' b L' → (∀ z, z ∈ L' ↔ z ∈ L ∨ z = y) → w.grownBy w' (some b) → w'.heap.size = w.heap.size → K' (a.put o.dst undef) w') : o.wp P a w K' Q := by
  obtain ⟨o', L', hrun, r1, r2⟩ := h.put K ht y
  unfold Oper.wp execOp
  simp only [hop, hm, hx, hv, Sem.run_bind, hrun, Result.andThen, Sem.run_pure]
  exact hK _ L' r1 r2 (grown_put w b o') (size_put _ _ _)
theorem wpList_delM (hg : o.guard = none) (m x : Operand) (hop : o.op = Op.call { callee := Callee.builtin Builtin.delete, args := #[m, x], argTypes := #[t, kt] }) (K : KeyT P kt enc dec) (ht : P.underlying t = some (.map kt et)) (h : SetM enc dec one w b L)
    (hm : a.eval m = .map (some b)) (y : α) (hx : a.eval x = enc y)
    (hK : ∀ w' L', SetM enc dec one w' b L' → (∀ z, z ∈ L' ↔ z ∈ L ∧ z ≠ y) → w.grownBy w' (some b) → w'.heap.size = w.heap.size → wpList P ops Q rest (a.put o.dst (.tuple #[])) w') : wpList P ops Q (o :: rest) a w := by
  refine wpList_plain hg fun K' hK' => ?_
  obtain ⟨o', L', hrun, r1, r2⟩ := h.del K ht y o.type
  unfold Oper.wp
  simp [execOp, hop, resolve, invoke, builtin, hm, hx, hrun, Result.andThen]
  exact hK' _ _ (hK _ L' r1 r2 (grown_put w b o') (size_put _ _ _))
theorem wpList_rangeM (hg : o.guard = none) (m : Operand) (hop : o.op = Op.range t m) (ht : P.underlying t = some (.map kt et)) (h : SetM enc dec one w b L) (hm : a.eval m = .map (some b))
    (hK : ∀ w', SetI enc dec one w' b w.heap.size L L → Below w.heap.size w w' → w'.heap.size = w.heap.size + 1 → wpList P ops Q rest (a.put o.dst (.pointer (some ⟨w.heap.size, 0, none⟩))) w') : wpList P ops Q (o :: rest) a w := by
  refine wpList_plain hg fun K' hK' => ?_
  obtain ⟨o', _, hrun, r1⟩ := h.range ht
  unfold Oper.wp
  simp [execOp, hop, hm, hrun, Result.andThen]
  exact hK' _ _ (hK _ r1 ((Below.refl _ w).alloc (Nat.le_refl _) _) (by simp))
theorem wpList_nextM {r : Nat} {R : List α} (hg : o.guard = none) (it : Operand) (hop : o.op = Op.next it false) (hit : a.eval it = .pointer (some ⟨r, 0, none⟩)) (h : SetI enc dec one w b r L R)
    (hDone : R = [] → wpList P ops Q rest (a.put o.dst (.tuple #[.bool false])) w)
    (hMore : ∀ x R' w', x ∈ R → (∀ y, y ∈ R' ↔ y ∈ R ∧ y ≠ x) → R'.length < R.length → SetI enc dec one w' b r L R' → w.grownBy w' (some r) → w'.heap.size = w.heap.size →
      (Instr.entry (.pointer (some ⟨r, 0, none⟩))).run P w' = .ok (.tuple #[enc x, one]) w' → wpList P ops Q rest (a.put o.dst (.tuple #[.bool true, enc x, one])) w') : wpList P ops Q (o :: rest) a w := by
  refine wpList_plain hg fun K' hK' => ?_
  unfold Oper.wp
  rcases h.next (P := P) o.type with ⟨h0, hrun⟩ | ⟨x, R', w', hx, hR', hlt, hrun, hSI, hgr, hsz, hen⟩
  · simp [execOp, hop, hit, hrun, Result.andThen]
    exact hK' _ _ (hDone h0)
  · simp [execOp, hop, hit, hrun, Result.andThen]
    exact hK' _ _ (hMore x R' w' hx hR' hlt hSI hgr hsz hen)
end
end
end Go.Proofs.YtfpbfdkjcmlimaaGreat
