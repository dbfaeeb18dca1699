/-
  What slot.Of tells, right or not, as one contract; great; append of some elements at once.
-/
import Derived.Test.YtkakanjoeofjcaaAwake
import Derived.Test.YtkakanjoeofjcaaSlotLaw
namespace Go.Proofs.Ytkakanjoeofjcaa
open Go.RowKit

section
variable {P : Program} {Q : Exit → Act → World → Prop}
/-- append of m elements, which lie in the newest block: onto a row of the call's own -/
theorem op_appendN {o : Oper} {K : Act → World → Prop} {a : Act} (w0 : World) (s x : Operand) (t e : TypeId) (ho : o.op = .call { callee := .builtin .append, args := #[s, x], argTypes := #[t, t] })
    (base : Nat) (z : Value) (size bytes m : Nat) (ht : P.underlying t = some (.slice e)) (hinfo : (P.info? e).map (fun i => (i.zero, i.size, i.bytes)) = some (some z, size, bytes)) (hzs : z.cells.size = size) (hsz : 0 < size) (hm0 : 0 < m)
    (v : Value) (n : Nat) (xs news : List Value) (hs : a.eval s = v) (hown : w0.ownsRow base e size v n xs) (H : Nat) (hH : w0.heap.size = H) (hx : a.eval x = .slice (some ⟨H, 0, none⟩) m m) (hl : news.length = m * size) (h1 : ∀ u ∈ news, u.oneCell' = true)
    (h63 : n + m ≤ maxLen) (hbytes : (n + m) * bytes ≤ 140737488355328) (hbase : base ≤ w0.heap.size)
    (h : ∀ g cap w', w'.ownsRow base e size (.slice (some ⟨g, 0, none⟩) (n + m) cap) (n + m) (xs ++ news) → w0.grownBy w' v.ownBlock → (some g = v.ownBlock ∨ g = H + 1) → K (a.put o.dst (.slice (some ⟨g, 0, none⟩) (n + m) cap)) w') :
    o.wp P a (w0.alloc (.cells news.toArray e)) K Q := by
  subst hH
  obtain ⟨i, hi, hz, hsize, hby⟩ := info_parts hinfo
  have hnews : ∀ j u, news[j]? = some u → (w0.alloc (.cells news.toArray e)).cell? ((⟨w0.heap.size, 0, none⟩ : Addr).add j) = some u := by
    intro j u hu
    have hadd : (⟨w0.heap.size, 0, none⟩ : Addr).add j = ⟨w0.heap.size, j, none⟩ := by unfold Addr.add; split <;> simp_all
    rw [hadd, cell_of_row _ _ _ _ _ _ (World.alloc_heap_new w0 _)]
    simpa using hu
  obtain ⟨v', w', hrun, h2, h3, h4, h5⟩ := run_append_own_at (P := P) (w0.alloc (.cells news.toArray e)) base t o.type e i z size bytes ht hi hz hsize hby hzs hsz v n xs (hown.alloc _) ⟨w0.heap.size, 0, none⟩ m m news hl hnews h1 h63 hbytes (by simp; omega)
  obtain ⟨g, cap, rfl⟩ : ∃ g cap, v' = .slice (some ⟨g, 0, none⟩) (n + m) cap := by
    rcases h2.2 with ⟨_, h0⟩ | ⟨g, cap, cur, hv, _⟩
    · omega
    · exact ⟨g, cap, hv⟩
  have hg : w0.grownBy w' v.ownBlock := by
    refine ⟨h3.os, h3.tape, h3.output, Nat.le_trans (by simp) h3.size, fun k hk hne => ?_⟩
    rw [h3.block k (by simp; omega) hne]
    exact Below.heap_alloc _ _ _ hk
  unfold Oper.wp execOp
  simp only [ho, resolve, invoke, builtin, Sem.run_bind, Sem.run_pure, Result.andThen_ok, List.map_toArray, List.map_cons, List.map_nil, hs, hx, hrun]
  refine h g cap w' h2 hg ?_
  rcases h5 with h5 | h5
  · exact Or.inl (by simpa [Value.ownBlock] using h5)
  · exact Or.inr (by simpa [Value.ownBlock] using h5)
theorem wpList_appendN {ops : Array Oper} {rest : List Oper} {o : Oper} {a : Act} (hgd : o.guard = none) (w0 : World) (s x : Operand) (t e : TypeId) (ho : o.op = .call { callee := .builtin .append, args := #[s, x], argTypes := #[t, t] })
    (base : Nat) (z : Value) (size bytes m : Nat) (ht : P.underlying t = some (.slice e)) (hinfo : (P.info? e).map (fun i => (i.zero, i.size, i.bytes)) = some (some z, size, bytes)) (hzs : z.cells.size = size) (hsz : 0 < size) (hm0 : 0 < m)
    (v : Value) (n : Nat) (xs news : List Value) (hs : a.eval s = v) (hown : w0.ownsRow base e size v n xs) (H : Nat) (hH : w0.heap.size = H) (hx : a.eval x = .slice (some ⟨H, 0, none⟩) m m) (hl : news.length = m * size) (h1 : ∀ u ∈ news, u.oneCell' = true)
    (h63 : n + m ≤ maxLen) (hbytes : (n + m) * bytes ≤ 140737488355328) (hbase : base ≤ w0.heap.size)
    (h : ∀ g cap w', w'.ownsRow base e size (.slice (some ⟨g, 0, none⟩) (n + m) cap) (n + m) (xs ++ news) → w0.grownBy w' v.ownBlock → (some g = v.ownBlock ∨ g = H + 1) → wpList P ops Q rest (a.put o.dst (.slice (some ⟨g, 0, none⟩) (n + m) cap)) w') :
    wpList P ops Q (o :: rest) a (w0.alloc (.cells news.toArray e)) :=
  wpList_plain hgd fun _ hK => op_appendN w0 s x t e ho base z size bytes m ht hinfo hzs hsz hm0 v n xs news hs hown H hH hx hl h1 h63 hbytes hbase fun g cap w' h2 h3 h4 => hK _ _ (h g cap w' h2 h3 h4)
end

def greatB (n m l : Nat) : Bool := decide (300 < n + m + l)
theorem great_any (a a' a'' : Option Addr) (n c m c' l c'' : Nat) (w : World) (hn : n ≤ 17592186044416) (hm : m ≤ 17592186044416) (hl : l ≤ 17592186044416) :
    Calls Try.prog 8 #[.slice a n c, .slice a' m c', .slice a'' l c''] w fun e w' => e = .returned (.bool (greatB n m l)) ∧ w' = w := by
  go_enter Try.func8, Try.ntmps8
  go_wp2
  go_ret
  refine ⟨?_, rfl⟩
  have e : greatB n m l = decide ((300 : Int) < (n : Int) + (m : Int) + (l : Int)) := by
    rw [greatB, decide_eq_decide]
    omega
  rw [e]
  rfl

/-- what slot.Of tells -/
structure Fr where
  vars : List Int
  homes : List Int
  temp : Int
  size : Int
  err : Int
def frOf (xs : List Int) (ps : List (Int × Int)) (rs : List Int) (t : Bool) : Fr :=
  if okAll xs ps rs then
    let sz := szOf (asg ps xs)
    ⟨((asg ps xs).map (·.2)).map fun (s : Nat) => (s : Int), (List.range rs.length).map fun (i : Nat) => ((sz + i : Nat) : Int), if t then ((sz + rs.length : Nat) : Int) else -1, ((sz + rs.length + (if t then 1 else 0) : Nat) : Int), 0⟩
  else ⟨[], [], 0, 0, 2⟩
/-- a slice of the call's own that reads as a list -/
def Told (w : World) (base : Nat) (v : Value) (xs : List Int) : Prop := w.ownsRow base 3 1 v xs.length (xs.map (Value.int .i64))
theorem Told.ext {w w' : World} {base : Nat} {v : Value} {xs : List Int} (h : Told w base v xs) (hb : Below w.heap.size w w') : Told w' base v xs := (Steady.ownsRow w.heap.size _ _ _ _ _ _).ext h hb
theorem Told.slice {w : World} {base : Nat} {v : Value} {xs : List Int} (h : Told w base v xs) (hl : xs.length ≤ 1000000) (hw : ∀ x ∈ xs, I64 x) :
    ∃ a c, v = .slice a xs.length c ∧ Ints w a xs.length xs ∧ xs.length ≤ c ∧ c ≤ 9223372036854775807 := by
  obtain ⟨a, c, rfl, hi⟩ := ints_of_own h (by omega) hw
  refine ⟨a, c, rfl, hi, ?_⟩
  rcases h.2 with ⟨e, h0⟩ | ⟨g, cap, cur, e, _, _, h1, h2, _⟩
  · simp only [Value.slice.injEq] at e
    omega
  · simp only [Value.slice.injEq] at e
    unfold maxLen at h2
    omega
theorem fr_small (xs : List Int) (ps : List (Int × Int)) (rs : List Int) (t : Bool) :
    (frOf xs ps rs t).vars.length ≤ 200 ∧ (frOf xs ps rs t).homes.length ≤ 64 ∧ (∀ x ∈ (frOf xs ps rs t).vars, 0 ≤ x ∧ x < 1000) ∧ (∀ x ∈ (frOf xs ps rs t).homes, 0 ≤ x ∧ x < 1000) ∧ -1 ≤ (frOf xs ps rs t).temp ∧ (frOf xs ps rs t).temp < 1000 ∧ 0 ≤ (frOf xs ps rs t).size ∧ (frOf xs ps rs t).size < 1000 := by
  unfold frOf
  split
  · rename_i hok
    simp only [okAll, Bool.and_eq_true] at hok
    have h1 := (rising_all hok.1.1).2.2
    have h2 := (rising_all hok.1.2).2.2
    have hl := asg_length ps xs
    have hlt := asg_lt ps xs (by omega)
    have hsz := sz_le (asg ps xs) 200 (fun d hd => by have := hlt d hd; omega)
    simp only [List.length_map, List.length_range]
    refine ⟨by omega, by omega, ?_, ?_, ?_, ?_, ?_, ?_⟩
    · intro x hx
      obtain ⟨s, hs, rfl⟩ := List.mem_map.1 hx
      obtain ⟨d, hd, rfl⟩ := List.mem_map.1 hs
      have := hlt d hd
      omega
    · intro x hx
      obtain ⟨i, hi, rfl⟩ := List.mem_map.1 hx
      have := List.mem_range.1 hi
      omega
    · split <;> omega
    · split <;> omega
    · omega
    · split <;> omega
  · simp
def OfAnyPost (w : World) (f : Fr) (e : Ending) (w' : World) : Prop :=
  ∃ a1 c1 a2 c2, e = .returned (.tuple #[.agg #[.slice a1 f.vars.length c1, .slice a2 f.homes.length c2, .int .i64 f.temp, .int .i64 f.size], .int .i64 f.err]) ∧
    Told w' w.heap.size (.slice a1 f.vars.length c1) f.vars ∧ Told w' w.heap.size (.slice a2 f.homes.length c2) f.homes ∧ Ints w' a1 f.vars.length f.vars ∧ Ints w' a2 f.homes.length f.homes ∧ f.vars.length ≤ c1 ∧ f.homes.length ≤ c2 ∧ c1 ≤ 9223372036854775807 ∧ c2 ≤ 9223372036854775807 ∧
    (∀ g, (Value.slice a1 f.vars.length c1).ownBlock = some g → (Value.slice a2 f.homes.length c2).ownBlock ≠ some g) ∧ Below w.heap.size w w'
theorem of_any_mk {w w' : World} {f : Fr} {v1 v2 : Value} {e : Ending} (he : e = .returned (.tuple #[.agg #[v1, v2, .int .i64 f.temp, .int .i64 f.size], .int .i64 f.err])) (h1 : Told w' w.heap.size v1 f.vars) (h2 : Told w' w.heap.size v2 f.homes)
    (h3 : ∀ g, v1.ownBlock = some g → v2.ownBlock ≠ some g) (h4 : Below w.heap.size w w') (hl1 : f.vars.length ≤ 200) (hl2 : f.homes.length ≤ 64) (hw1 : ∀ x ∈ f.vars, 0 ≤ x ∧ x < 1000) (hw2 : ∀ x ∈ f.homes, 0 ≤ x ∧ x < 1000) : OfAnyPost w f e w' := by
  obtain ⟨a1, c1, rfl, i1, k1, k1'⟩ := h1.slice (by omega) (fun x hx => by have := hw1 x hx; exact ⟨by omega, by omega⟩)
  obtain ⟨a2, c2, rfl, i2, k2, k2'⟩ := h2.slice (by omega) (fun x hx => by have := hw2 x hx; exact ⟨by omega, by omega⟩)
  exact ⟨a1, c1, a2, c2, he, h1, h2, i1, i2, k1, k2, k1', k2', h3, h4⟩
theorem of_any (a : Option Addr) (n c : Nat) (xs : List Int) (a' : Option Addr) (m c' : Nat) (ps : List (Int × Int)) (a'' : Option Addr) (l c'' : Nat) (rs : List Int) (t : Bool) (w : World)
    (h : Ints w a n xs) (h' : Prs w a' m ps) (h'' : Ints w a'' l rs) (hm : m ≤ 1000000) :
    Calls Try.prog 11 #[.slice a n c, .slice a' m c', .slice a'' l c'', .bool t] w (OfAnyPost w (frOf xs ps rs t)) := by
  by_cases hok : okAll xs ps rs = true
  · refine (of_ok a n c xs a' m c' ps a'' l c'' rs t w h h' h'' hok hm).mono ?_
    rintro e w' ⟨v1, v2, rfl, h1, h2, h3, h4⟩
    have hl := h''.1
    subst hl
    obtain ⟨s1, s2, s3, s4, _⟩ := fr_small xs ps rs t
    refine of_any_mk (v1 := v1) (v2 := v2) ?_ ?_ ?_ h3 h4 s1 s2 s3 s4
    · simp only [frOf, hok, if_true]
    · simp only [frOf, hok, if_true, Told, List.length_map, List.map_map]
      simp only [List.length_map, List.map_map] at h1
      exact h1
    · simp only [frOf, hok, if_true, Told, List.length_map, List.map_map, List.length_range]
      exact h2
  · have hok' : okAll xs ps rs = false := by simpa using hok
    refine (of_bad a n c xs a' m c' ps a'' l c'' rs t w h h' h'' hok').mono ?_
    rintro e w' ⟨rfl, hb⟩
    obtain ⟨s1, s2, s3, s4, _⟩ := fr_small xs ps rs t
    refine of_any_mk (v1 := nilS) (v2 := nilS) ?_ ?_ ?_ ?_ hb s1 s2 s3 s4
    · simp only [frOf, hok', if_false, Bool.false_eq_true]
    · simp only [frOf, hok', if_false, Bool.false_eq_true]
      exact World.ownsRow_nil _ _ _ _
    · simp only [frOf, hok', if_false, Bool.false_eq_true]
      exact World.ownsRow_nil _ _ _ _
    · intro g hg
      simp [nilS, Value.ownBlock] at hg
end Go.Proofs.Ytkakanjoeofjcaa
