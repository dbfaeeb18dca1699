/-
 A queue of ints of the call's own: taken from its begin (l = l[1:]), appended to at its end. No program in sight.
-/
import Derived.Test.YtblhmdhfhaencaaFlatBase
import Derived.ArgAppend
import Derived.Deep.Onto
import Derived.Maps.AppendAt
import Derived.Test.YtblhmdhfhaencaaRecs
import Derived.Test.YtblhmdhfhaencaaEQ
import Derived.Test.YtblhmdhfhaencaaCP
namespace Go.Proofs.Ytblhmdhfhaencaa
set_option linter.unusedSimpArgs false
set_option linter.unusedVariables false
set_option linter.unusedSectionVars false
set_option maxRecDepth 100000
set_option maxHeartbeats 40000000
section
open Go.RowKit

/-- a queue of the call's own that reads as a list -/
def QueI (w : World) (base : Nat) (v : Value) (xs : List Int) : Prop :=
 ∃ g o cap cur, v = .slice (some ⟨g, o, none⟩) xs.length cap ∧ base ≤ g ∧ xs.length ≤ cap ∧ cap ≤ maxLen ∧ w.heap[g]? = some (.cells cur 3 (0, 0)) ∧ o + cap ≤ cur.size ∧
   (∀ k, k < xs.length → cur[o + k]? = some (.int .i64 (xs.getD k 0))) ∧ (∀ x ∈ xs, I64 x) ∧ xs.length ≤ 17592186044416
section
variable {w w' : World} {base : Nat} {v : Value} {xs : List Int}
theorem QueI.form (h : QueI w base v xs) : ∃ g o cap, v = .slice (some ⟨g, o, none⟩) xs.length cap ∧ xs.length ≤ cap ∧ cap ≤ maxLen ∧ Ints w (some ⟨g, o, none⟩) xs.length xs := by
 obtain ⟨g, o, cap, cur, rfl, h1, h2, h3, h4, h5, h6, h7, h8⟩ := h
 refine ⟨g, o, cap, rfl, h2, h3, rfl, h8, fun k hk => ⟨g, o, rfl, ?_, h7 _ ?_⟩⟩
 · rw [cell_of_row _ _ _ _ _ _ h4]; exact h6 k hk
 · rw [List.getD_eq_getElem?_getD, List.getElem?_eq_getElem hk]; exact List.getElem_mem _
theorem QueI.low {k : Nat} (h : QueI w base v xs) (hk : v.ownBlock = some k) : base ≤ k ∧ k < w.heap.size := by
 obtain ⟨g, o, cap, cur, rfl, h1, h2, h3, h4, _⟩ := h
 simp only [Value.ownBlock, Option.some.injEq] at hk
 subst hk
 exact ⟨h1, (Array.getElem?_eq_some_iff.1 h4).1⟩
theorem QueI.chg {S : Nat → Prop} (h : QueI w base v xs) (hc : Chg S w w') (hn : ∀ k, v.ownBlock = some k → ¬ S k) : QueI w' base v xs := by
 obtain ⟨g, o, cap, cur, rfl, h1, h2, h3, h4, h5⟩ := h
 exact ⟨g, o, cap, cur, rfl, h1, h2, h3, (hc.block g (Array.getElem?_eq_some_iff.1 h4).1 (hn g rfl)).trans h4, h5⟩
theorem QueI.ext (h : QueI w base v xs) (hb : Below w.heap.size w w') : QueI w' base v xs := h.chg (S := fun _ => False) ⟨hb.os, hb.tape, hb.output, hb.size, fun k hk _ => hb.block k hk⟩ fun _ _ e => e
theorem QueI.of_own {g n c : Nat} (h : OwnI w base (.slice (some ⟨g, 0, none⟩) n c) xs) : QueI w base (.slice (some ⟨g, 0, none⟩) n c) xs := by
 rcases h.1.2 with ⟨hv, _⟩ | ⟨g', cap, cur, hv, hb, hh, h1, h2, h3, h4⟩
 · cases hv
 · injection hv with e1 e2 e3
   injection e1 with e1
   injection e1 with e1 _ _
   subst e1 e2 e3
   refine ⟨g, 0, c, cur, rfl, hb, h1, h2, hh, by omega, fun k hk => ?_, h.2.1, h.2.2⟩
   have h5 : (cur.toList.take (xs.length * 1))[k]? = (intVals xs)[k]? := by rw [h4]
   rw [List.getElem?_take, if_pos (by omega)] at h5
   rw [Nat.zero_add]
   rw [Array.getElem?_toList] at h5
   rw [h5]
   simp [intVals, List.getD_eq_getElem?_getD, hk]
theorem QueI.tail {g o n c : Nat} {x : Int} (h : QueI w base (.slice (some ⟨g, o, none⟩) n c) (x :: xs)) : QueI w base (.slice (some ⟨g, o + 1, none⟩) xs.length (c - 1)) xs := by
 obtain ⟨g', o', cap, cur, e, h1, h2, h3, h4, h5, h6, h7, h8⟩ := h
 injection e with e1 e2 e3
 injection e1 with e1
 injection e1 with e1 e4 _
 subst e1 e3 e4
 simp only [List.length_cons] at h2 h8
 refine ⟨g, o + 1, c - 1, cur, rfl, h1, by omega, by omega, h4, by omega, fun k hk => ?_, fun z hz => h7 z (by simp [hz]), by omega⟩
 have := h6 (k + 1) (by simp; omega)
 rw [show o + 1 + k = o + (k + 1) by omega, this]
 simp
end
section
variable {P : Program} {Q : Exit → Act → World → Prop}
/-- one more is put behind -/
theorem run_append_que (w0 : World) (base : Nat) (t ty : TypeId) (z : Value) (bytes : Nat) (ht : P.underlying t = some (.slice 3)) (hinfo : (P.info? 3).map (fun i => (i.zero, i.size, i.bytes)) = some (some z, 1, bytes)) (hzs : z.cells.size = 1)
  (v : Value) (xs : List Int) (h : QueI w0 base v xs) (x : Int) (hx : I64 x) (hlen : xs.length ≤ 1000000) (hb8 : bytes ≤ 16) (hbase : base ≤ w0.heap.size) :
  ∃ v' w', (Builtin.append_ #[t, t] ty #[v, .slice (some ⟨w0.heap.size, 0, none⟩) 1 1]).run P (w0.alloc (.cells #[.int .i64 x] 3)) = .ok v' w' ∧ QueI w' base v' (xs ++ [x]) ∧ w0.grownBy w' v.ownBlock ∧ (v'.ownBlock = v.ownBlock ∨ ∃ k, v'.ownBlock = some k ∧ w0.heap.size ≤ k) := by
 obtain ⟨i, hi, hz, hsize, hby⟩ := info_parts hinfo
 obtain ⟨g, o, cap, cur, rfl, h1, h2, h3, h4, h5, h6, h7, h8⟩ := h
 have hgl := (Array.getElem?_eq_some_iff.1 h4).1
 have hadd : ∀ j, (⟨w0.heap.size, 0, none⟩ : Addr).add j = ⟨w0.heap.size, j, none⟩ := fun j => by unfold Addr.add; split <;> simp_all
 have hadd2 : ∀ j, (⟨g, o, none⟩ : Addr).add j = ⟨g, o + j, none⟩ := fun j => by unfold Addr.add; split <;> simp_all
 have hg' : (w0.alloc (.cells #[.int .i64 x] 3)).heap[g]? = some (.cells cur 3 (0, 0)) := (Below.heap_alloc _ _ _ hgl).trans h4
 have hnews : ∀ j u, [Value.int .i64 x][j]? = some u → (w0.alloc (.cells #[.int .i64 x] 3)).cell? ((⟨w0.heap.size, 0, none⟩ : Addr).add j) = some u := by
  intro j u hu
  rw [hadd, cell_of_row _ _ _ _ _ _ (World.alloc_heap_new w0 _)]
  simpa using hu
 by_cases hr : xs.length + 1 ≤ cap
 · refine ⟨_, _, run_append_room_cells (P := P) (w0.alloc (.cells #[.int .i64 x] 3)) t ty 3 i ht hi g o xs.length cap ⟨w0.heap.size, 0, none⟩ 1 1 [.int .i64 x] (by rw [hsize]; rfl) hnews (by simp [Value.oneCell']) hr (fun j hj => ?_) (fun j hj => frozen_of_row _ _ _ _ _ hg'), ?_, ?_, .inl rfl⟩
   · simp only [List.length_singleton] at hj
     obtain rfl : j = 0 := by omega
     rw [cell_of_row _ _ _ _ _ _ hg', hsize, Array.getElem?_eq_getElem (by omega)]
     rfl
   · have hst := heap_setCell_same (w0.alloc (.cells #[.int .i64 x] 3)) g (o + xs.length) _ _ (.int .i64 x) hg'
     rw [hsize, Nat.mul_one]
     refine ⟨g, o, cap, _, by simp, h1, by simp; omega, h3, hst, by simp; omega, fun k hk => ?_, fun z hz => ?_, by simp; omega⟩
     · simp only [List.length_append, List.length_singleton] at hk
       rw [Array.getElem?_setIfInBounds]
       by_cases e : k = xs.length
       · subst e
         rw [if_pos rfl, if_pos (by omega)]
         simp [List.getD_eq_getElem?_getD]
       · rw [if_neg (by omega), h6 k (by omega)]
         simp [List.getD_eq_getElem?_getD, List.getElem?_append_left (show k < xs.length by omega)]
     · rcases List.mem_append.1 hz with hz | hz
       · exact h7 z hz
       · simp at hz; subst hz; exact hx
   · refine ⟨rfl, rfl, rfl, by simp [World.setCells], fun k hk hne => ?_⟩
     have hkg : k ≠ g := fun e => hne (by simp [Value.ownBlock, e])
     simp only [World.setCells]
     rw [Below.heap_setCell _ _ _ _ (fun e => hkg e), Below.heap_alloc _ _ _ hk]
 · have holds : ∀ j u, (intVals xs)[j]? = some u → (w0.alloc (.cells #[.int .i64 x] 3)).cell? ((⟨g, o, none⟩ : Addr).add j) = some u := fun j u hu => by
    have hj : j < xs.length := by have := (List.getElem?_eq_some_iff.1 hu).1; simpa [intVals] using this
    rw [hadd2, cell_of_row _ _ _ _ _ _ hg', h6 j hj, ← hu]
    simp [intVals, List.getD_eq_getElem?_getD, hj]
   obtain ⟨v', w', hrun, hown, hgr⟩ := run_append_arg_grows (P := P) (w0.alloc (.cells #[.int .i64 x] 3)) t ty 3 i z 1 bytes ht hi hz hsize hby hzs (by omega) ⟨g, o, none⟩ xs.length cap (intVals xs) (by simp [intVals]) holds ⟨w0.heap.size, 0, none⟩ 1 1 [.int .i64 x] rfl hnews (by omega) (by simp only [maxLen]; omega) (by
    have : (xs.length + 1) * bytes ≤ (xs.length + 1) * 16 := Nat.mul_le_mul_left _ hb8
    omega)
   obtain ⟨g2, c2, rfl⟩ : ∃ g2 c2, v' = .slice (some ⟨g2, 0, none⟩) (xs.length + 1) c2 := by
    rcases hown.2 with ⟨_, h0⟩ | ⟨g2, c2, cur, hv, _⟩
    · omega
    · exact ⟨g2, c2, hv⟩
   refine ⟨_, w', hrun, ?_, ⟨hgr.os, hgr.tape, hgr.output, Nat.le_trans (by simp) hgr.size, fun k hk _ => ?_⟩, .inr ⟨g2, rfl, by have := (hown.lt g2 rfl).1; simp at this; omega⟩⟩
   · have : OwnI w' base (.slice (some ⟨g2, 0, none⟩) (xs ++ [x]).length c2) (xs ++ [x]) := by
      refine ⟨?_, fun z hz => ?_, by simp; omega⟩
      · have e : intVals (xs ++ [x]) = intVals xs ++ [.int .i64 x] := by simp [intVals]
        rw [e, List.length_append]
        exact hown.mono (by simp; omega)
      · rcases List.mem_append.1 hz with hz | hz
        · exact h7 z hz
        · simp at hz; subst hz; exact hx
     have h9 := QueI.of_own this
     rwa [List.length_append, List.length_singleton] at h9
   · rw [hgr.block k (by simp; omega) (fun e => by cases e), Below.heap_alloc _ _ _ hk]
theorem wpList_append_que {ops : Array Oper} {rest : List Oper} {o : Oper} {a : Act} (hgd : o.guard = none) (w0 : World) (s x : Operand) (t : TypeId) (ho : o.op = .call { callee := .builtin .append, args := #[s, x], argTypes := #[t, t] })
  (base : Nat) (z : Value) (bytes : Nat) (ht : P.underlying t = some (.slice 3)) (hinfo : (P.info? 3).map (fun i => (i.zero, i.size, i.bytes)) = some (some z, 1, bytes)) (hzs : z.cells.size = 1)
  (v : Value) (xs : List Int) (hs : a.eval s = v) (hq : QueI w0 base v xs) (y : Int) (hy : I64 y) (H : Nat) (hH : w0.heap.size = H) (hx : a.eval x = .slice (some ⟨H, 0, none⟩) 1 1) (hlen : xs.length ≤ 1000000) (hb8 : bytes ≤ 16) (hbase : base ≤ w0.heap.size)
  (h : ∀ v' w', QueI w' base v' (xs ++ [y]) → w0.grownBy w' v.ownBlock → (v'.ownBlock = v.ownBlock ∨ ∃ k, v'.ownBlock = some k ∧ w0.heap.size ≤ k) → wpList P ops Q rest (a.put o.dst v') w') :
  wpList P ops Q (o :: rest) a (w0.alloc (.cells #[.int .i64 y] 3)) := by
 refine wpList_plain hgd fun K hK => ?_
 subst hH
 obtain ⟨v', w', hrun, h2, h3, h4⟩ := run_append_que (P := P) w0 base t o.type z bytes ht hinfo hzs v xs hq y hy hlen hb8 hbase
 unfold Oper.wp execOp
 simp only [ho, resolve, invoke, builtin, Sem.run_bind, Sem.run_pure, Result.andThen_ok, List.map_toArray, List.map_cons, List.map_nil, hs, hx, hrun]
 exact hK _ _ (h v' w' h2 h3 h4)
end
end

section
open Go.RowKit

theorem OwnI.low {w : World} {base k : Nat} {v : Value} {xs : List Int} (h : OwnI w base v xs) (hk : v.ownBlock = some k) : base ≤ k ∧ k < w.heap.size := ⟨(h.1.lt k hk).1, (h.1.lt k hk).2⟩
section
variable {P : Program} {Q : Exit → Act → World → Prop}
theorem wpList_append1I {ops : Array Oper} {rest : List Oper} {o : Oper} {a : Act} (hgd : o.guard = none) (w0 : World) (s x : Operand) (t : TypeId) (ho : o.op = .call { callee := .builtin .append, args := #[s, x], argTypes := #[t, t] })
  (base : Nat) (z : Value) (bytes : Nat) (ht : P.underlying t = some (.slice 3)) (hinfo : (P.info? 3).map (fun i => (i.zero, i.size, i.bytes)) = some (some z, 1, bytes)) (hzs : z.cells.size = 1)
  (v : Value) (xs : List Int) (hs : a.eval s = v) (hown : OwnI w0 base v xs) (y : Int) (hy : I64 y) (H : Nat) (hH : w0.heap.size = H) (hx : a.eval x = .slice (some ⟨H, 0, none⟩) 1 1) (hlen : xs.length ≤ 100000000) (hb8 : bytes ≤ 16) (hbase : base ≤ w0.heap.size)
  (h : ∀ g cap w', OwnI w' base (.slice (some ⟨g, 0, none⟩) (xs.length + 1) cap) (xs ++ [y]) → w0.grownBy w' v.ownBlock → (some g = v.ownBlock ∨ g = w0.heap.size + 1) → wpList P ops Q rest (a.put o.dst (.slice (some ⟨g, 0, none⟩) (xs.length + 1) cap)) w') :
  wpList P ops Q (o :: rest) a (w0.alloc (.cells #[.int .i64 y] 3)) := by
 subst hH
 refine wpList_append1 hgd w0 s x t 3 ho base z 1 bytes ht hinfo hzs (by omega) v xs.length _ [.int .i64 y] hs hown.1 w0.heap.size rfl hx rfl (by simp [Value.oneCell']) (by simp only [maxLen]; omega) (by
  have : (xs.length + 1) * bytes ≤ (xs.length + 1) * 16 := Nat.mul_le_mul_left _ hb8
  omega) hbase fun g cap w' h2 h3 h4 => h g cap w' ⟨?_, fun q hq => ?_, by simp; omega⟩ h3 h4
 · have e : intVals (xs ++ [y]) = intVals xs ++ [.int .i64 y] := by simp [intVals]
   rw [e, List.length_append]
   exact h2
 · rcases List.mem_append.1 hq with hq | hq
   · exact hown.2.1 q hq
   · simp at hq; subst hq; exact hy
end
end

section
open Go.RowKit

def setA (f : Nat → Bool) : Array Value := ((List.range 200).map fun j => Value.bool (f j)).toArray
theorem setA_size (f : Nat → Bool) : (setA f).size = 200 := by simp [setA]
theorem setA_at (f : Nat → Bool) (j : Nat) (h : j < 200) : (setA f)[j]? = some (.bool (f j)) := by simp [setA, h]
theorem setA_ext {f g : Nat → Bool} (h : ∀ k, k < 200 → f k = g k) : setA f = setA g := by
 unfold setA
 congr 1
 exact List.map_congr_left fun k hk => by rw [h k (List.mem_range.1 hk)]
theorem setA_put (f : Nat → Bool) (j : Nat) (h : j < 200) (b : Bool) : (setA f).setIfInBounds j (.bool b) = setA (fun k => if k = j then b else f k) := by
 apply Array.ext_getElem?
 intro k
 by_cases hk : k < 200
 · rw [Array.getElem?_setIfInBounds, setA_at f k hk, setA_at _ k hk]
   by_cases e : j = k
   · subst e; simp [setA_size, h]
   · rw [if_neg e, if_neg (fun x => e x.symm)]
 · rw [Array.getElem?_eq_none (by simp [setA_size]; omega), Array.getElem?_eq_none (by simp [setA_size]; omega)]
theorem setA_all (f : Nat → Bool) : (setA f).all (·.oneCell') = true := by
 rw [Array.all_eq_true_iff_forall_mem]
 intro v hv
 simp [setA] at hv
 obtain ⟨j, _, rfl⟩ := hv
 rfl
theorem setA_inj {f g : Nat → Bool} (h : setA f = setA g) (k : Nat) (hk : k < 200) : f k = g k := by
 have h1 := setA_at f k hk
 rw [h, setA_at g k hk] at h1
 simpa using h1.symm
end

section
open Go.RowKit

theorem none1_any (x : Int) (w : World) : Calls Try.prog 114 (#[.int .i64 x] ++ #[]) w fun e w' => e = .returned (.bool (x != 0)) ∧ Below w.heap.size w w' := by
 show Calls Try.prog 114 #[.int .i64 x] w _
 go_enter Try.func114, Try.ntmps114
 go_wp2
 go_ret
 exact ⟨rfl, Below.refl _ _⟩
theorem call_none1 (args : Array Value) (w : World) : (callFunc 114 args).run Try.prog w = .ok (.enter 114 args) w := by kernel_rfl
def noneB (xs : List Int) : Bool := !xs.any (fun x => x != 0)
theorem none_any (a : Option Addr) (n c : Nat) (xs : List Int) (w : World) (h : Ints w a n xs) :
  Calls Try.prog 92 #[.slice a n c] w fun e w' => e = .returned (.bool (noneB xs)) ∧ Below w.heap.size w w' := by
 have H := Lib.hid h
 clear h
 go_enter Try.func92, Try.ntmps92
 go_wp2_with (go_at_call 90; refine (containsFunc_any _ #[] call_none1 (fun x => x != 0) a n c xs w (fun x W _ _ => none1_any x W) H.out).mono ?_; rintro e w' ⟨rfl, hb'⟩; have HB' := Lib.hid hb'; clear hb')
 go_ret
 exact ⟨rfl, HB'.out⟩
theorem variable_any (n : Int) (w : World) : Calls Try.prog 93 #[.int .i64 n] w fun e w' => e = .returned (.bool (varB n)) ∧ w = w' := by
 by_cases h1 : 1 ≤ n
 · have d1 : decide (1 ≤ n) = true := by simpa using h1
   have HE : Hid (varB n = decide (n ≤ 200)) := by rw [Hid, varB, decide_eq_decide]; omega
   go_enter Try.func93, Try.ntmps93
   go_wp2
   go_ret
   exact ⟨by rw [HE.out]; rfl, rfl⟩
 · have d1 : decide (1 ≤ n) = false := by simpa using h1
   have HE : Hid (varB n = false) := by rw [Hid, varB, decide_eq_false_iff_not]; omega
   go_enter Try.func93, Try.ntmps93
   go_wp2
   go_ret
   exact ⟨by rw [HE.out]; rfl, rfl⟩
def fitsV (b : Bool) (n : Int) : Bool := if b then varB n else decide (n = 0)
theorem fits_any (b : Bool) (n : Int) (w : World) : Calls Try.prog 94 #[.bool b, .int .i64 n] w fun e w' => e = .returned (.bool (fitsV b n)) ∧ w = w' := by
 cases b with
 | true =>
   go_enter Try.func94, Try.ntmps94
   go_wp2_with (go_at_call 93; refine (variable_any _ _).mono ?_; rintro e w' ⟨rfl, rfl⟩)
   go_ret
   exact ⟨rfl, rfl⟩
 | false =>
   have HE : Hid (fitsV false n = (n == 0)) := by
    rw [Hid, fitsV, if_neg (by simp)]
    by_cases h : n = 0 <;> simp [h]
   go_enter Try.func94, Try.ntmps94
   go_wp2
   go_ret
   exact ⟨by rw [HE.out]; rfl, rfl⟩
abbrev termV (t : TermD) : Value := .agg #[.int .i64 t.kind, .int .i64 t.a, .int .i64 t.t0, .int .i64 t.t1]
abbrev termO (t : TermD) : Obj := .cells #[.int .i64 t.kind, .int .i64 t.a, .int .i64 t.t0, .int .i64 t.t1] 112
def TermOK (t : TermD) : Prop := I64 t.kind ∧ I64 t.a ∧ I64 t.t0 ∧ I64 t.t1
theorem ints_lit {W : World} {g o : Nat} {cells : Array Value} {t : TypeId} (hg : W.heap[g]? = some (.cells cells t (0, 0))) (xs : List Int) (hx : ∀ x ∈ xs, I64 x) (hn : xs.length ≤ 1000) (hc : ∀ k, k < xs.length → cells[o + k]? = some (.int .i64 (xs.getD k 0))) : Ints W (some ⟨g, o, none⟩) xs.length xs :=
 ⟨rfl, by omega, fun k hk => ⟨g, o, rfl, by rw [cell_of_row _ _ _ _ _ _ hg]; exact hc k hk, hx _ (by rw [List.getD_eq_getElem?_getD, List.getElem?_eq_getElem hk]; exact List.getElem_mem _)⟩⟩
theorem heap_at (W : World) (o : Obj) (H : Nat) (hH : W.heap.size = H) : (W.alloc o).heap[H]? = some o := by subst hH; exact heap_alloc_new _ _
def TermPost (t : TermD) (w : World) (e : Ending) (w' : World) : Prop := e = .returned (.bool (termB t)) ∧ Below w.heap.size w w'
theorem isTerm_any (t : TermD) (w : World) (h : TermOK t) : Calls Try.prog 66 #[termV t] w (TermPost t w) := by
 obtain ⟨⟨h1, h2⟩, ⟨h3, h4⟩, ⟨h5, h6⟩, h7, h8⟩ := h
 obtain ⟨k, a, x, y⟩ := t
 simp only at h1 h2 h3 h4 h5 h6 h7 h8
 have HX := Lib.hid (show ∀ z ∈ [a, x, y], I64 z by simp [I64]; omega)
 have box : ∀ (W : World), Below w.heap.size w W → ∀ W', Below W.heap.size W W' → Below w.heap.size w W' := fun W h1 W' h2 => ext_trans h1 h2
 have HBX := Lib.hid box
 clear box
 by_cases k1 : k = 1
 · subst k1
   have HE : Hid (termB ⟨1, a, x, y⟩ = noneB [a, y]) := by
    rw [Hid, Bool.eq_iff_iff]; simp [termB, noneB]
   go_enter Try.func66, Try.ntmps66
   go_wp2_with (go_at_call 92; refine (none_any _ _ _ [a, y] _ (ints_lit (heap_at _ _ _ (by simp)) [a, y] (fun z hz => HX.out z (by simp at hz ⊢; omega)) (by simp) (fun k hk => by match k, hk with | 0, _ => rfl | 1, _ => rfl))).mono ?_; rintro e w' ⟨rfl, hb'⟩; have HB' := Lib.hid hb'; clear hb')
   go_ret
   exact ⟨by rw [HE.out]; rfl, HBX.out _ ((ext_alloc _ _).alloc (by simp) _) _ HB'.out⟩
 · by_cases k2 : k = 2
   · subst k2
     have HE : Hid (termB ⟨2, a, x, y⟩ = varB a) := by
      rw [Hid, Bool.eq_iff_iff]; simp [termB]
     go_enter Try.func66, Try.ntmps66
     go_wp2_with (go_at_call 93; refine (variable_any _ _).mono ?_; rintro e w' ⟨rfl, rfl⟩)
     go_ret
     exact ⟨by rw [HE.out]; rfl, ext_alloc _ _⟩
   · by_cases k3 : k = 3
     · subst k3
       by_cases hf : fitsV (a != 0) a = true
       · have HE : Hid (termB ⟨3, a, x, y⟩ = noneB [x, y]) := by
          rw [Hid, Bool.eq_iff_iff]
          unfold fitsV at hf
          by_cases ha : a = 0
          · simp [termB, noneB, ha]
          · simp [ha] at hf
            simp [termB, noneB, hf]
         have HF := Lib.hid hf
         clear hf
         go_enter Try.func66, Try.ntmps66
         go_wp2_with (first
          | (go_at_call 92; refine (none_any _ _ _ [x, y] _ (ints_lit (heap_alloc_new _ _) [x, y] (fun z hz => HX.out z (by simp at hz ⊢; omega)) (by simp) (fun k hk => by match k, hk with | 0, _ => rfl | 1, _ => rfl))).mono ?_; rintro e w' ⟨rfl, hb'⟩; have HB' := Lib.hid hb'; clear hb')
          | (go_at_call 94; refine (fits_any _ _ _).mono ?_; rintro e w' ⟨rfl, rfl⟩; rw [HF.out]))
         go_ret
         exact ⟨by rw [HE.out]; rfl, HBX.out _ (ext_alloc _ _) _ HB'.out⟩
       · have HE : Hid (termB ⟨3, a, x, y⟩ = false) := by
          rw [Hid, Bool.eq_false_iff]
          unfold fitsV at hf
          by_cases ha : a = 0
          · simp [ha] at hf
          · simp [ha] at hf
            simp [termB, hf, ha]
         have hf' : fitsV (a != 0) a = false := by simpa using hf
         have HF := Lib.hid hf'
         clear hf hf'
         go_enter Try.func66, Try.ntmps66
         go_wp2_with (go_at_call 94; refine (fits_any _ _ _).mono ?_; rintro e w' ⟨rfl, rfl⟩; rw [HF.out])
         go_ret
         exact ⟨by rw [HE.out]; rfl, ext_alloc _ _⟩
     · have b1 : (k == 1) = false := by simpa using k1
       have b2 : (k == 2) = false := by simpa using k2
       have b3 : (k == 3) = false := by simpa using k3
       by_cases k4 : k = 4
       · subst k4
         have HE : Hid (termB ⟨4, a, x, y⟩ = noneB [a, x, y]) := by
          rw [Hid, Bool.eq_iff_iff]; simp [termB, noneB]
         clear b1 b2 b3 k1 k2 k3
         go_enter Try.func66, Try.ntmps66
         go_wp2_with (go_at_call 92; refine (none_any _ _ _ [a, x, y] _ (ints_lit (heap_at _ _ _ (by simp)) [a, x, y] (fun z hz => HX.out z hz) (by simp) (fun k hk => by match k, hk with | 0, _ => rfl | 1, _ => rfl | 2, _ => rfl))).mono ?_; rintro e w' ⟨rfl, hb'⟩; have HB' := Lib.hid hb'; clear hb')
         go_ret
         exact ⟨by rw [HE.out]; rfl, HBX.out _ ((ext_alloc _ _).alloc (by simp) _) _ HB'.out⟩
       · have HE : Hid (termB ⟨k, a, x, y⟩ = false) := by
          rw [Hid, Bool.eq_false_iff]; simp [termB, k1, k2, k3, k4]
         have b4 : (k == 4) = false := by simpa using k4
         clear k1 k2 k3 k4
         go_enter Try.func66, Try.ntmps66
         go_wp2
         go_ret
         exact ⟨by rw [HE.out]; rfl, ext_alloc _ _⟩
end
end Go.Proofs.Ytblhmdhfhaencaa
