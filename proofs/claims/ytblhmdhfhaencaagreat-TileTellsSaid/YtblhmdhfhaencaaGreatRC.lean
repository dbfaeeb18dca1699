/-
  The document's answer to layer 3, as far as tiles ask: Var, IsTerm, To.
-/
import Derived.Test.YtblhmdhfhaencaaGreatLB
import Derived.Test.YtblhmdhfhaencaaGreatTH
import Derived.Test.YtblhmdhfhaencaaGreatQF
import Derived.ArgAppend
import Derived.Deep.Onto
import Derived.Maps.AppendAt
import Derived.Test.YtblhmdhfhaencaaGreatTR
import Derived.Deep.LoopGhost
namespace Go.Proofs.YtblhmdhfhaencaaGreat
set_option linter.unusedSimpArgs false
set_option linter.unusedVariables false
set_option linter.unusedSectionVars false
set_option maxRecDepth 100000
set_option maxHeartbeats 40000000
section
open Go.RowKit
theorem var03_any (n : Int) (w : World) : Calls Tryz.prog 162 #[.int .i64 n] w fun e w' => e = .returned (.bool (varB n)) ∧ w = w' := by
  by_cases h1 : 1 ≤ n
  · have d1 : decide (1 ≤ n) = true := by simpa using h1
    have HE : Hid (varB n = decide (n ≤ 200)) := by rw [Hid, varB, decide_eq_decide]; omega
    go_enter Tryz.func162, Tryz.ntmps162
    go_wp2
    go_ret
    exact ⟨by rw [HE.out]; rfl, rfl⟩
  · have d1 : decide (1 ≤ n) = false := by simpa using h1
    have HE : Hid (varB n = false) := by rw [Hid, varB, decide_eq_false_iff_not]; omega
    go_enter Tryz.func162, Tryz.ntmps162
    go_wp2
    go_ret
    exact ⟨by rw [HE.out]; rfl, rfl⟩
theorem eql_to (w : World) (x0 x1 y0 y1 : Int) : (binOp .eql 68 (.agg #[.int .i64 x0, .int .i64 x1]) (.agg #[.int .i64 y0, .int .i64 y1])).run Tryz.prog w = .ok (.bool (x0 == y0 && x1 == y1)) w := by
  rw [run_eql_struct, equal_toD w 9998]
  rfl
theorem eql_to0 (x0 x1 : Int) (b : Bool) (hb : (x0 == 0 && x1 == 0) = b) (w : World) : (binOp .eql 68 (.agg #[.int .i64 x0, .int .i64 x1]) (.agg #[.int .i64 0, .int .i64 0])).run Tryz.prog w = .ok (.bool b) w := by
  rw [eql_to, hb]
theorem isTerm03_any (t : TermD) (w : World) : Calls Tryz.prog 97 #[termV t] w (TermPost t w) := by
  obtain ⟨k, a, x, y⟩ := t
  obtain ⟨b, hb⟩ : ∃ b, (x == 0 && y == 0) = b := ⟨_, rfl⟩
  have hq := eql_to0 x y b hb
  have HBB := Lib.hid hb
  clear hb
  by_cases k1 : k = 1
  · subst k1
    by_cases a0 : a = 0
    · subst a0
      have HE : Hid (termB ⟨1, 0, x, y⟩ = (y == 0)) := by rw [Hid, Bool.eq_iff_iff]; simp [termB]
      go_enter Tryz.func97, Tryz.ntmps97
      go_wp2
      go_ret
      exact ⟨by rw [HE.out]; rfl, ext_alloc _ _⟩
    · have b0 : (a == 0) = false := by simpa using a0
      have HE : Hid (termB ⟨1, a, x, y⟩ = false) := by simp [Hid, termB, a0]
      clear a0
      go_enter Tryz.func97, Tryz.ntmps97
      go_wp2
      go_ret
      exact ⟨by rw [HE.out]; rfl, ext_alloc _ _⟩
  · have b1 : (k == 1) = false := by simpa using k1
    by_cases k2 : k = 2
    · subst k2
      have HE : Hid (termB ⟨2, a, x, y⟩ = varB a) := by simp [Hid, termB]
      clear k1 b1
      go_enter Tryz.func97, Tryz.ntmps97
      go_wp2_with (go_at_call 162; refine (var03_any _ _).mono ?_; rintro e w' ⟨rfl, rfl⟩)
      go_ret
      exact ⟨by rw [HE.out]; rfl, ext_alloc _ _⟩
    · have b2 : (k == 2) = false := by simpa using k2
      by_cases k3 : k = 3
      · subst k3
        clear k1 b1 k2 b2
        by_cases a0 : a = 0
        · subst a0
          have HE : Hid (termB ⟨3, 0, x, y⟩ = b) := by rw [Hid, ← HBB.out, Bool.eq_iff_iff]; simp [termB]
          go_enter Tryz.func97, Tryz.ntmps97
          go_wp2
          go_ret
          exact ⟨by rw [HE.out]; rfl, ext_alloc _ _⟩
        · have b0 : (a == 0) = false := by simpa using a0
          cases hv : varB a with
          | true =>
            have HV := Lib.hid hv
            have HE : Hid (termB ⟨3, a, x, y⟩ = b) := by rw [Hid, ← HBB.out, Bool.eq_iff_iff]; simp [termB, hv]
            clear a0 hv
            go_enter Tryz.func97, Tryz.ntmps97
            go_wp2_with (go_at_call 162; refine (var03_any _ _).mono ?_; rintro e w' ⟨rfl, rfl⟩; rw [HV.out])
            go_ret
            exact ⟨by rw [HE.out]; rfl, ext_alloc _ _⟩
          | false =>
            have HV := Lib.hid hv
            have HE : Hid (termB ⟨3, a, x, y⟩ = false) := by simp [Hid, termB, hv, a0]
            clear a0 hv
            go_enter Tryz.func97, Tryz.ntmps97
            go_wp2_with (go_at_call 162; refine (var03_any _ _).mono ?_; rintro e w' ⟨rfl, rfl⟩; rw [HV.out])
            go_ret
            exact ⟨by rw [HE.out]; rfl, ext_alloc _ _⟩
      · have b3 : (k == 3) = false := by simpa using k3
        by_cases k4 : k = 4
        · subst k4
          clear k1 b1 k2 b2 k3 b3
          by_cases a0 : a = 0
          · subst a0
            have HE : Hid (termB ⟨4, 0, x, y⟩ = b) := by rw [Hid, ← HBB.out, Bool.eq_iff_iff]; simp [termB]
            go_enter Tryz.func97, Tryz.ntmps97
            go_wp2
            go_ret
            exact ⟨by rw [HE.out]; rfl, ext_alloc _ _⟩
          · have b0 : (a == 0) = false := by simpa using a0
            have HE : Hid (termB ⟨4, a, x, y⟩ = false) := by simp [Hid, termB, a0]
            clear a0
            go_enter Tryz.func97, Tryz.ntmps97
            go_wp2
            go_ret
            exact ⟨by rw [HE.out]; rfl, ext_alloc _ _⟩
        · have b4 : (k == 4) = false := by simpa using k4
          have HE : Hid (termB ⟨k, a, x, y⟩ = false) := by simp [Hid, termB, k1, k2, k3, k4]
          clear k1 k2 k3 k4
          go_enter Tryz.func97, Tryz.ntmps97
          go_wp2
          go_ret
          exact ⟨by rw [HE.out]; rfl, ext_alloc _ _⟩
theorem to03_any (t : TermD) (w : World) (h : TermOK t) : Calls Tryz.prog 71 #[termV t] w (IntsPost w (toD t)) := by
  have HO := Lib.hid (toD_ok t h)
  clear h
  obtain ⟨k, a, x, y⟩ := t
  by_cases ht : termB ⟨k, a, x, y⟩ = true
  · have HB := Lib.hid ht
    by_cases k1 : k = 1
    · subst k1
      have HE : Hid (toD ⟨1, a, x, y⟩ = [x]) := by rw [Hid, toD, if_pos ht, if_pos rfl]
      clear ht
      go_enter Tryz.func71, Tryz.ntmps71
      go_wp2_with (go_at_call 97; refine (isTerm03_any ⟨1, a, x, y⟩ _).mono ?_; rintro e w' ⟨rfl, hb'⟩; rw [HB.out]; obtain ⟨g1, g2⟩ := bcell hb'; have HB' := Lib.hid hb'; clear hb')
      go_ret
      rw [HE.out]
      exact ⟨_, rfl, (ownI_lit (xs := [x]) rfl _ (below_size' HB'.out) (by have := HO.out; rwa [HE.out] at this) (by simp)), (ext_trans (ext_alloc _ _) HB'.out).alloc (below_size' HB'.out) _⟩
    · have b1 : (k == 1) = false := by simpa using k1
      by_cases k2 : k = 2
      · subst k2
        have HE : Hid (toD ⟨2, a, x, y⟩ = [x, y]) := by rw [Hid, toD, if_pos ht, if_neg (by simp), if_pos rfl]
        clear ht k1
        go_enter Tryz.func71, Tryz.ntmps71
        go_wp2_with (go_at_call 97; refine (isTerm03_any ⟨2, a, x, y⟩ _).mono ?_; rintro e w' ⟨rfl, hb'⟩; rw [HB.out]; obtain ⟨g1, g2⟩ := bcell hb'; have HB' := Lib.hid hb'; clear hb')
        go_ret
        rw [HE.out]
        exact ⟨_, rfl, (ownI_lit (xs := [x, y]) rfl _ (below_size' HB'.out) (by have := HO.out; rwa [HE.out] at this) (by simp)), (ext_trans (ext_alloc _ _) HB'.out).alloc (below_size' HB'.out) _⟩
      · have b2 : (k == 2) = false := by simpa using k2
        have HE : Hid (toD ⟨k, a, x, y⟩ = []) := by rw [Hid, toD, if_pos ht, if_neg k1, if_neg k2]
        clear ht k1 k2
        go_enter Tryz.func71, Tryz.ntmps71
        go_wp2_with (go_at_call 97; refine (isTerm03_any ⟨k, a, x, y⟩ _).mono ?_; rintro e w' ⟨rfl, hb'⟩; rw [HB.out]; obtain ⟨g1, g2⟩ := bcell hb'; have HB' := Lib.hid hb'; clear hb')
        go_ret
        rw [HE.out]
        exact ⟨_, rfl, OwnI.nil _ _, ext_trans (ext_alloc _ _) HB'.out⟩
  · have HE : Hid (toD ⟨k, a, x, y⟩ = []) := by rw [Hid, toD, if_neg ht]
    have ht' : termB ⟨k, a, x, y⟩ = false := by simpa using ht
    have HB := Lib.hid ht'
    clear ht ht'
    go_enter Tryz.func71, Tryz.ntmps71
    go_wp2_with (go_at_call 97; refine (isTerm03_any ⟨k, a, x, y⟩ _).mono ?_; rintro e w' ⟨rfl, hb'⟩; rw [HB.out]; obtain ⟨g1, g2⟩ := bcell hb'; have HB' := Lib.hid hb'; clear hb')
    go_ret
    rw [HE.out]
    exact ⟨_, rfl, OwnI.nil _ _, ext_trans (ext_alloc _ _) HB'.out⟩
end

section
open Go.RowKit
def QueI (w : World) (base : Nat) (v : Value) (xs : List Int) : Prop :=
  ∃ g o cap cur, v = .slice (some ⟨g, o, none⟩) xs.length cap ∧ base ≤ g ∧ xs.length ≤ cap ∧ cap ≤ maxLen ∧ w.heap[g]? = some (.cells cur 3 (0, 0)) ∧ o + cap ≤ cur.size ∧
    (∀ k, k < xs.length → cur[o + k]? = some (.int .i64 (xs.getD k 0))) ∧ (∀ x ∈ xs, I64 x) ∧ xs.length ≤ 17592186044416
section
variable {w w' : World} {base : Nat} {v : Value} {xs : List Int}
theorem QueI.form (h : QueI w base v xs) : ∃ g o cap, v = .slice (some ⟨g, o, none⟩) xs.length cap ∧ xs.length ≤ cap ∧ cap ≤ maxLen ∧ Ints w (some ⟨g, o, none⟩) xs.length xs := by
  obtain ⟨g, o, cap, cur, rfl, h1, h2, h3, h4, h5, h6, h7, h8⟩ := h
  refine ⟨g, o, cap, rfl, h2, h3, rfl, h8, fun k hk => ⟨g, o, rfl, ?_, h7 _ ?_⟩⟩
  · rw [cell_of_row _ _ _ _ _ _ h4]; exact h6 k hk
  · rw [List.getD_eq_getElem?_getD, List.getElem?_eq_getElem hk]; exact List.getElem_mem _
theorem QueI.low {k : Nat} (h : QueI w base v xs) (hk : v.ownBlock = some k) : base ≤ k ∧ k < w.heap.size := by
  obtain ⟨g, o, cap, cur, rfl, h1, h2, h3, h4, _⟩ := h
  simp only [Value.ownBlock, Option.some.injEq] at hk
  subst hk
  exact ⟨h1, (Array.getElem?_eq_some_iff.1 h4).1⟩
theorem QueI.chg {S : Nat → Prop} (h : QueI w base v xs) (hc : Chg S w w') (hn : ∀ k, v.ownBlock = some k → ¬ S k) : QueI w' base v xs := by
  obtain ⟨g, o, cap, cur, rfl, h1, h2, h3, h4, h5⟩ := h
  exact ⟨g, o, cap, cur, rfl, h1, h2, h3, (hc.block g (Array.getElem?_eq_some_iff.1 h4).1 (hn g rfl)).trans h4, h5⟩
theorem QueI.ext (h : QueI w base v xs) (hb : Below w.heap.size w w') : QueI w' base v xs := h.chg (S := fun _ => False) ⟨hb.os, hb.tape, hb.output, hb.size, fun k hk _ => hb.block k hk⟩ fun _ _ e => e
theorem QueI.of_own {g n c : Nat} (h : OwnI w base (.slice (some ⟨g, 0, none⟩) n c) xs) : QueI w base (.slice (some ⟨g, 0, none⟩) n c) xs := by
  rcases h.1.2 with ⟨hv, _⟩ | ⟨g', cap, cur, hv, hb, hh, h1, h2, h3, h4⟩
  · cases hv
  · injection hv with e1 e2 e3
    injection e1 with e1
    injection e1 with e1 _ _
    subst e1 e2 e3
    refine ⟨g, 0, c, cur, rfl, hb, h1, h2, hh, by omega, fun k hk => ?_, h.2.1, h.2.2⟩
    have h5 : (cur.toList.take (xs.length * 1))[k]? = (intVals xs)[k]? := by rw [h4]
    rw [List.getElem?_take, if_pos (by omega)] at h5
    rw [Nat.zero_add]
    rw [Array.getElem?_toList] at h5
    rw [h5]
    simp [intVals, List.getD_eq_getElem?_getD, hk]
theorem QueI.tail {g o n c : Nat} {x : Int} (h : QueI w base (.slice (some ⟨g, o, none⟩) n c) (x :: xs)) : QueI w base (.slice (some ⟨g, o + 1, none⟩) xs.length (c - 1)) xs := by
  obtain ⟨g', o', cap, cur, e, h1, h2, h3, h4, h5, h6, h7, h8⟩ := h
  injection e with e1 e2 e3
  injection e1 with e1
  injection e1 with e1 e4 _
  subst e1 e3 e4
  simp only [List.length_cons] at h2 h8
  refine ⟨g, o + 1, c - 1, cur, rfl, h1, by omega, by omega, h4, by omega, fun k hk => ?_, fun z hz => h7 z (by simp [hz]), by omega⟩
  have := h6 (k + 1) (by simp; omega)
  rw [show o + 1 + k = o + (k + 1) by omega, this]
  simp
end
section
variable {P : Program} {Q : Exit → Act → World → Prop}
theorem run_append_que (w0 : World) (base : Nat) (t ty : TypeId) (z : Value) (bytes : Nat) (ht : P.underlying t = some (.slice 3)) (hinfo : (P.info? 3).map (fun i => (i.zero, i.size, i.bytes)) = some (some z, 1, bytes)) (hzs : z.cells.size = 1)
    (v : Value) (xs : List Int) (h : QueI w0 base v xs) (x : Int) (hx : I64 x) (hlen : xs.length ≤ 1000000) (hb8 : bytes ≤ 16) (hbase : base ≤ w0.heap.size) :
    ∃ v' w', (Builtin.append_ #[t, t] ty #[v, .slice (some ⟨w0.heap.size, 0, none⟩) 1 1]).run P (w0.alloc (.cells #[.int .i64 x] 3)) = .ok v' w' ∧ QueI w' base v' (xs ++ [x]) ∧ w0.grownBy w' v.ownBlock ∧ (v'.ownBlock = v.ownBlock ∨ ∃ k, v'.ownBlock = some k ∧ w0.heap.size ≤ k) := by
  obtain ⟨i, hi, hz, hsize, hby⟩ := info_parts hinfo
  obtain ⟨g, o, cap, cur, rfl, h1, h2, h3, h4, h5, h6, h7, h8⟩ := h
  have hgl := (Array.getElem?_eq_some_iff.1 h4).1
  have hadd : ∀ j, (⟨w0.heap.size, 0, none⟩ : Addr).add j = ⟨w0.heap.size, j, none⟩ := fun j => by unfold Addr.add; split <;> simp_all
  have hadd2 : ∀ j, (⟨g, o, none⟩ : Addr).add j = ⟨g, o + j, none⟩ := fun j => by unfold Addr.add; split <;> simp_all
  have hg' : (w0.alloc (.cells #[.int .i64 x] 3)).heap[g]? = some (.cells cur 3 (0, 0)) := (Below.heap_alloc _ _ _ hgl).trans h4
  have hnews : ∀ j u, [Value.int .i64 x][j]? = some u → (w0.alloc (.cells #[.int .i64 x] 3)).cell? ((⟨w0.heap.size, 0, none⟩ : Addr).add j) = some u := by
    intro j u hu
    rw [hadd, cell_of_row _ _ _ _ _ _ (World.alloc_heap_new w0 _)]
    simpa using hu
  by_cases hr : xs.length + 1 ≤ cap
  · refine ⟨_, _, run_append_room_cells (P := P) (w0.alloc (.cells #[.int .i64 x] 3)) t ty 3 i ht hi g o xs.length cap ⟨w0.heap.size, 0, none⟩ 1 1 [.int .i64 x] (by rw [hsize]; rfl) hnews (by simp [Value.oneCell']) hr (fun j hj => ?_) (fun j hj => frozen_of_row _ _ _ _ _ hg'), ?_, ?_, .inl rfl⟩
    · simp only [List.length_singleton] at hj
      obtain rfl : j = 0 := by omega
      rw [cell_of_row _ _ _ _ _ _ hg', hsize, Array.getElem?_eq_getElem (by omega)]
      rfl
    · have hst := heap_setCell_same (w0.alloc (.cells #[.int .i64 x] 3)) g (o + xs.length) _ _ (.int .i64 x) hg'
      rw [hsize, Nat.mul_one]
      refine ⟨g, o, cap, _, by simp, h1, by simp; omega, h3, hst, by simp; omega, fun k hk => ?_, fun z hz => ?_, by simp; omega⟩
      · simp only [List.length_append, List.length_singleton] at hk
        rw [Array.getElem?_setIfInBounds]
        by_cases e : k = xs.length
        · subst e
          rw [if_pos rfl, if_pos (by omega)]
          simp [List.getD_eq_getElem?_getD]
        · rw [if_neg (by omega), h6 k (by omega)]
          simp [List.getD_eq_getElem?_getD, List.getElem?_append_left (show k < xs.length by omega)]
      · rcases List.mem_append.1 hz with hz | hz
        · exact h7 z hz
        · simp at hz; subst hz; exact hx
    · refine ⟨rfl, rfl, rfl, by simp [World.setCells], fun k hk hne => ?_⟩
      have hkg : k ≠ g := fun e => hne (by simp [Value.ownBlock, e])
      simp only [World.setCells]
      rw [Below.heap_setCell _ _ _ _ (fun e => hkg e), Below.heap_alloc _ _ _ hk]
  · have holds : ∀ j u, (intVals xs)[j]? = some u → (w0.alloc (.cells #[.int .i64 x] 3)).cell? ((⟨g, o, none⟩ : Addr).add j) = some u := fun j u hu => by
      have hj : j < xs.length := by have := (List.getElem?_eq_some_iff.1 hu).1; simpa [intVals] using this
      rw [hadd2, cell_of_row _ _ _ _ _ _ hg', h6 j hj, ← hu]
      simp [intVals, List.getD_eq_getElem?_getD, hj]
    obtain ⟨v', w', hrun, hown, hgr⟩ := run_append_arg_grows (P := P) (w0.alloc (.cells #[.int .i64 x] 3)) t ty 3 i z 1 bytes ht hi hz hsize hby hzs (by omega) ⟨g, o, none⟩ xs.length cap (intVals xs) (by simp [intVals]) holds ⟨w0.heap.size, 0, none⟩ 1 1 [.int .i64 x] rfl hnews (by omega) (by simp only [maxLen]; omega) (by
      have : (xs.length + 1) * bytes ≤ (xs.length + 1) * 16 := Nat.mul_le_mul_left _ hb8
      omega)
    obtain ⟨g2, c2, rfl⟩ : ∃ g2 c2, v' = .slice (some ⟨g2, 0, none⟩) (xs.length + 1) c2 := by
      rcases hown.2 with ⟨_, h0⟩ | ⟨g2, c2, cur, hv, _⟩
      · omega
      · exact ⟨g2, c2, hv⟩
    refine ⟨_, w', hrun, ?_, ⟨hgr.os, hgr.tape, hgr.output, Nat.le_trans (by simp) hgr.size, fun k hk _ => ?_⟩, .inr ⟨g2, rfl, by have := (hown.lt g2 rfl).1; simp at this; omega⟩⟩
    · have : OwnI w' base (.slice (some ⟨g2, 0, none⟩) (xs ++ [x]).length c2) (xs ++ [x]) := by
        refine ⟨?_, fun z hz => ?_, by simp; omega⟩
        · have e : intVals (xs ++ [x]) = intVals xs ++ [.int .i64 x] := by simp [intVals]
          rw [e, List.length_append]
          exact hown.mono (by simp; omega)
        · rcases List.mem_append.1 hz with hz | hz
          · exact h7 z hz
          · simp at hz; subst hz; exact hx
      have h9 := QueI.of_own this
      rwa [List.length_append, List.length_singleton] at h9
    · rw [hgr.block k (by simp; omega) (fun e => by cases e), Below.heap_alloc _ _ _ hk]
theorem wpList_append_que {ops : Array Oper} {rest : List Oper} {o : Oper} {a : Act} (hgd : o.guard = none) (w0 : World) (s x : Operand) (t : TypeId) (ho : o.op = .call { callee := .builtin .append, args := #[s, x], argTypes := #[t, t] })
    (base : Nat) (z : Value) (bytes : Nat) (ht : P.underlying t = some (.slice 3)) (hinfo : (P.info? 3).map (fun i => (i.zero, i.size, i.bytes)) = some (some z, 1, bytes)) (hzs : z.cells.size = 1)
    (v : Value) (xs : List Int) (hs : a.eval s = v) (hq : QueI w0 base v xs) (y : Int) (hy : I64 y) (H : Nat) (hH : w0.heap.size = H) (hx : a.eval x = .slice (some ⟨H, 0, none⟩) 1 1) (hlen : xs.length ≤ 1000000) (hb8 : bytes ≤ 16) (hbase : base ≤ w0.heap.size)
    (h : ∀ v' w', QueI w' base v' (xs ++ [y]) → w0.grownBy w' v.ownBlock → (v'.ownBlock = v.ownBlock ∨ ∃ k, v'.ownBlock = some k ∧ w0.heap.size ≤ k) → wpList P ops Q rest (a.put o.dst v') w') :
    wpList P ops Q (o :: rest) a (w0.alloc (.cells #[.int .i64 y] 3)) := by
  refine wpList_plain hgd fun K hK => ?_
  subst hH
  obtain ⟨v', w', hrun, h2, h3, h4⟩ := run_append_que (P := P) w0 base t o.type z bytes ht hinfo hzs v xs hq y hy hlen hb8 hbase
  unfold Oper.wp execOp
  simp only [ho, resolve, invoke, builtin, Sem.run_bind, Sem.run_pure, Result.andThen_ok, List.map_toArray, List.map_cons, List.map_nil, hs, hx, hrun]
  exact hK _ _ (h v' w' h2 h3 h4)
end
end

section
open Go.RowKit
abbrev rsetO (f : Nat → Bool) : Obj := .cells (setA f) 107 (0, 0)
theorem size_rset : (Tryz.prog.info? 107).map (·.size) = some 200 := by kernel_rfl
theorem zero_rset : Tryz.zeroCells107 = setA fun _ => false := by kernel_rfl
theorem load_rset {W : World} {g : Nat} {f : Nat → Bool} (hg : W.heap[g]? = some (rsetO f)) : (loadVar 107 ⟨g, 0, none⟩).run Tryz.prog W = .ok (.agg (setA f)) W :=
  run_loadVar_row (P := Tryz.prog) W g 107 107 _ (0, 0) _ hg Tryz.underlying107 rfl (by rw [setA_size]; exact size_rset)
theorem rset_cell {W : World} {g : Nat} {f : Nat → Bool} (hg : W.heap[g]? = some (rsetO f)) (j : Nat) (hj : j < 200) : W.cell? ⟨g, j, none⟩ = some (.bool (f j)) := by rw [cell_of_row _ _ _ _ _ _ hg, setA_at _ _ hj]
theorem rset_free {W : World} {g : Nat} {f : Nat → Bool} (hg : W.heap[g]? = some (rsetO f)) (j : Nat) : W.frozen? ⟨g, j, none⟩ = false := frozen_of_row _ _ _ _ _ hg
theorem rset_to {W : World} {g : Nat} {f h : Nat → Bool} {j : Nat} {b : Bool} (hg : W.heap[g]? = some (rsetO f)) (hj : j < 200) (e : (fun k => if k = j then b else f k) = h) : (W.setCell ⟨g, j, none⟩ (.bool b)).heap[g]? = some (rsetO h) := by
  rw [heap_setCell_same _ _ _ _ _ _ hg, setA_put _ _ hj, e]
theorem to17_any (pa : Option Addr) (pn pc : Nat) (ba : Option Addr) (bn bc : Nat) (bs : List BlkH) (k : Nat) (w : World) (h : BlksOK w ba bn bs) (hk : k < bn) :
    Calls Tryz.prog 96 #[funcV pa pn pc ba bn bc, .int .i64 (k : Int)] w (IntsPost w (toD ((tsOf bs).getD k zTerm))) := by
  have hbn := h.1.2.1
  obtain ⟨x, b, o, hx, ht, rfl, c0, c1, c2, c3, c4⟩ := (h.ext (ext_alloc w (funcO pa pn pc ba bn bc))).cells hk
  rw [tsOf_at _ _ _ hx]
  have HT := Lib.hid ht
  have hk2 : (k : Int) < (bn : Int) := by omega
  clear h hx ht c0
  go_enter Tryz.func96, Tryz.ntmps96
  go_wp2_with (
    (go_at_call 71
     refine (to03_any x.t _ HT.out).mono ?_
     rintro e w1 ⟨v, rfl, ho, hb⟩
     have HO := Lib.hid (ho.mono (show w.heap.size ≤ _ by simp))
     have HB := Lib.hid (ext_trans (ext_alloc _ _) hb)
     clear ho hb c1 c2 c3 c4))
  go_ret
  exact ⟨v, rfl, HO.out, HB.out⟩
theorem whole17_any (pa : Option Addr) (pn pc : Nat) (ba : Option Addr) (bn bc : Nat) (hd : bn ≤ 200) (w : World) : Calls Tryz.prog 73 #[funcV pa pn pc ba bn bc] w (SetPost w (wholeS bn)) := by
  go_enter Tryz.func73, Tryz.ntmps73
  go_upto_region 2 with (fail)
  obtain ⟨W, hW⟩ : ∃ W, W = ((w.alloc (funcO pa pn pc ba bn bc)).alloc (.cells Tryz.zeroCells107 107)).alloc (.cells Tryz.zeroCells107 107) := ⟨_, rfl⟩
  rw [← hW]
  have hf : W.heap[w.heap.size]? = some (funcO pa pn pc ba bn bc) := by rw [hW, Below.heap_alloc _ _ _ (by simp; omega), Below.heap_alloc _ _ _ (by simp)]; exact heap_alloc_new _ _
  have hr : W.heap[w.heap.size + 1]? = some (rsetO fun _ => false) := by rw [hW, Below.heap_alloc _ _ _ (by simp), heap_at _ _ _ (by simp), zero_rset]
  have hs : W.heap[w.heap.size + 1 + 1]? = some (rsetO (wholeS 0)) := by rw [hW, heap_at _ _ _ (by simp), zero_rset]; rfl
  have HF := Lib.hid hf
  have HR := Lib.hid hr
  have HS := Lib.hid hs
  have HB : Hid (Below w.heap.size w W) := by rw [Hid, hW]; exact ((ext_alloc _ _).alloc (by simp) _).alloc (by simp; omega) _
  clear hW hf hr hs
  go_wp2
  go_loopw [4] (fun i wr => ∃ (k : Nat), k ≤ bn ∧ i = .int .i64 k ∧ Hid (wr.heap[w.heap.size]? = some (funcO pa pn pc ba bn bc)) ∧ Hid (wr.heap[w.heap.size + 1]? = some (rsetO fun _ => false)) ∧ Hid (wr.heap[w.heap.size + 1 + 1]? = some (rsetO (wholeS k))) ∧ Hid (Below w.heap.size w wr)) (fun i _ => bn - (intOf i).toNat)
  case atStart => exact ⟨0, by omega, rfl, HF, HR, HS, HB⟩
  case round =>
    clear HF HR HS HB
    obtain ⟨k, hk, rfl, HF, HR, HS, HB⟩ := hrel
    have kf := HF.out
    have k1 : wr.cell? ⟨w.heap.size, 1, none⟩ = some (.slice ba bn bc) := by rw [cell_of_row _ _ _ _ _ _ kf]; rfl
    clear kf
    by_cases hlt : k < bn
    · have hcell := rset_cell HS.out k (by omega)
      have hfr := rset_free HS.out k
      have HS2 := Lib.hid (rset_to (h := wholeS (k + 1)) (b := true) HS.out (show k < 200 by omega) (by funext j; by_cases e : j = k <;> simp [wholeS, e] <;> omega))
      have HF2 := Lib.hid (grown_row (grown_setCell wr (w.heap.size + 1 + 1) k (.bool true)) HF.out (by simp; omega))
      have HR2 := Lib.hid (grown_row (grown_setCell wr (w.heap.size + 1 + 1) k (.bool true)) HR.out (by simp))
      have hl := lt_of_heap HS.out
      have hlt' : (k : Int) < (bn : Int) := by omega
      generalize wholeS k k = bb at *
      go_wp2
      go_roundw
      case rel => exact ⟨k + 1, by omega, by go_num, HF2, HR2, HS2, HB.out.setCell (by simp; omega) _⟩
      case measure => simp [intOf]; omega
    · obtain rfl : k = bn := by omega
      go_wp2_with (first
        | (refine wpList_load_row rfl 107 _ rfl (w.heap.size + 1 + 1) rfl 107 _ (0, 0) _ HS.out Tryz.underlying107 rfl (by rw [setA_size]; exact size_rset) ?_)
        | (refine wpList_store_row rfl 107 _ _ rfl (w.heap.size + 1) (setA (wholeS k)) rfl rfl 107 _ HR.out (by rw [setA_size]; exact size_rset) rfl (setA_all _) ?_))
      exact bodyPost_ret (v := .agg (setA (wholeS k))) (by simp [results, Tryz.results73, asAddr, Act.put, load_rset (setRow_heap _ _ _ _ _ _ HR.out)]) rfl ⟨rfl, below_setRow HB.out (by omega) _⟩
def cntS (f : Nat → Bool) (k : Nat) : Nat := ((List.range k).filter f).length
theorem cntS_step (f : Nat → Bool) (k : Nat) : cntS f (k + 1) = cntS f k + if f k then 1 else 0 := by
  rw [cntS, cntS, List.range_succ, List.filter_append, List.length_append]
  cases h : f k <;> simp [h]
theorem cntS_le (f : Nat → Bool) (k : Nat) : cntS f k ≤ k := by
  have := List.length_filter_le f (List.range k)
  simpa [cntS] using this
theorem many17_any (f : Nat → Bool) (w : World) : Calls Tryz.prog 99 #[.agg (setA f)] w fun e w' => e = .returned (.int .i64 (cntS f 200 : Nat)) ∧ Below w.heap.size w w' := by
  have HK0 : Hid ((w.alloc (rsetO f)).heap[w.heap.size]? = some (rsetO f)) := heap_alloc_new _ _
  go_enter Tryz.func99, Tryz.ntmps99
  go_wp2
  go_loopw [3, 4] (fun s3 i wr => ∃ (k : Nat), k ≤ 200 ∧ i = .int .i64 k ∧ s3 = .int .i64 (cntS f k : Nat) ∧ Hid (wr = w.alloc (rsetO f))) (fun _ i _ => 200 - (intOf i).toNat)
  case atStart => exact ⟨0, by omega, rfl, rfl, rfl⟩
  case round =>
    obtain ⟨k, hk, rfl, rfl, HW⟩ := hrel
    have hle := cntS_le f k
    have HST := Lib.hid (cntS_step f k)
    by_cases hlt : k < 200
    · have hk0 : wr.heap[w.heap.size]? = some (rsetO f) := by rw [HW.out]; exact HK0.out
      have hcell := rset_cell hk0 k hlt
      clear hk0
      cases hf : f k with
      | true =>
        rw [hf] at hcell HST
        have HST2 : Hid (cntS f (k + 1) = cntS f k + 1) := HST.out
        clear HST hf
        generalize cntS f k = z at *
        go_wp2
        go_roundw
        case rel => exact ⟨k + 1, by omega, by go_num, by rw [HST2.out]; go_num, HW⟩
        case measure => simp [intOf]; omega
      | false =>
        rw [hf] at hcell HST
        have HST2 : Hid (cntS f (k + 1) = cntS f k) := HST.out
        clear HST hf
        go_wp2
        go_roundw
        case rel => exact ⟨k + 1, by omega, by go_num, by rw [HST2.out], HW⟩
        case measure => simp [intOf]; omega
    · obtain rfl : k = 200 := by omega
      go_wp2
      go_ret
      exact ⟨rfl, by rw [HW.out]; exact ext_alloc _ _⟩
end

section
open Go.RowKit
def BJ (fo : Obj) (next : Nat → List Nat) (f : Nat → Bool) (b : Nat) (w : World) (st seen : List Nat) (x : Option (Nat × Nat)) (v : Value) (wr : World) : Prop :=
  WInv next f b st (fun y => seen.contains y) x ∧ seen.Nodup ∧ (∀ y ∈ seen, y < 200) ∧ wr.heap[w.heap.size]? = some fo ∧ wr.heap[w.heap.size + 1]? = some (rsetO f) ∧ wr.heap[w.heap.size + 1 + 1]? = some (rsetO fun _ => false) ∧
    wr.heap[w.heap.size + 1 + 1 + 1]? = some (rsetO fun y => seen.contains y) ∧ QueI wr (w.heap.size + 1 + 1 + 1 + 1) v (intsN st) ∧ Below w.heap.size w wr
theorem BJ.ext {fo : Obj} {next : Nat → List Nat} {f : Nat → Bool} {b : Nat} {w : World} {st seen : List Nat} {x : Option (Nat × Nat)} {v : Value} {wr w' : World} (h : BJ fo next f b w st seen x v wr) (hb : Below wr.heap.size wr w') : BJ fo next f b w st seen x v w' := by
  obtain ⟨h1, h2, h3, h4, h5, h6, h7, h8, h9⟩ := h
  exact ⟨h1, h2, h3, block_ext hb h4, block_ext hb h5, block_ext hb h6, block_ext hb h7, h8.ext hb, ext_trans h9 hb⟩
theorem toD_nx {ts : List TermD} (hg : goodB ts = true) (k : Nat) : toD (ts.getD k zTerm) = intsN (nx ts k) := by
  rw [nx, intsN, List.map_map]
  by_cases hk : k < ts.length
  · have hm : ts.getD k zTerm ∈ ts := by rw [List.getD_eq_getElem?_getD, List.getElem?_eq_getElem hk]; exact List.getElem_mem _
    have h := ((goodB_iff ts).1 hg).2 _ hm
    conv => lhs; rw [← List.map_id (toD (ts.getD k zTerm))]
    refine List.map_congr_left fun x hx => ?_
    have := h.2 x hx
    simp only [id, Function.comp]
    omega
  · have : ts.getD k zTerm = zTerm := by rw [List.getD_eq_getElem?_getD, List.getElem?_eq_none (by omega)]; rfl
    rw [this]; rfl
theorem behind17_any (pa : Option Addr) (pn pc : Nat) (ba : Option Addr) (bn bc : Nat) (bs : List BlkH) (b : Nat) (f : Nat → Bool) (w : World) (h : BlksOK w ba bn bs) (hg : goodB (tsOf bs) = true) (hb : b < 200) (hcf : Canon f) (hf : f b = true → b < bn) :
    Calls Tryz.prog 98 #[funcV pa pn pc ba bn bc, .int .i64 (b : Int), .agg (setA f)] w (SetPost w (walkF (nx (tsOf bs)) f b)) := by
  have hbl : (tsOf bs).length = bn := by rw [tsOf_len]; exact h.1.1
  have hbn : bn ≤ 200 := by have := ((goodB_iff _).1 hg).1.2; omega
  have H := Lib.hid h
  have HG := Lib.hid hg
  have HC := Lib.hid hcf
  have HF := Lib.hid hf
  have HX : Hid (∀ k y, y ∈ nx (tsOf bs) k → y < bn) := fun k y hy => by have := good_nx hg hy; omega
  clear h hg hcf hf
  go_enter Tryz.func98, Tryz.ntmps98
  go_upto_region 2 with (fail)
  obtain ⟨W, hW⟩ : ∃ W, W = (((w.alloc (funcO pa pn pc ba bn bc)).alloc (rsetO f)).alloc (.cells Tryz.zeroCells107 107)).alloc (.cells Tryz.zeroCells107 107) := ⟨_, rfl⟩
  rw [← hW]
  have ho : W.heap[w.heap.size]? = some (funcO pa pn pc ba bn bc) := by rw [hW, Below.heap_alloc _ _ _ (by simp <;> omega), Below.heap_alloc _ _ _ (by simp <;> omega), Below.heap_alloc _ _ _ (by simp)]; exact heap_alloc_new _ _
  have hi : W.heap[w.heap.size + 1]? = some (rsetO f) := by rw [hW, Below.heap_alloc _ _ _ (by simp <;> omega), Below.heap_alloc _ _ _ (by simp), heap_at _ _ _ (by simp)]
  have hr : W.heap[w.heap.size + 1 + 1]? = some (rsetO fun _ => false) := by rw [hW, Below.heap_alloc _ _ _ (by simp), heap_at _ _ _ (by simp), zero_rset]
  have hs : W.heap[w.heap.size + 1 + 1 + 1]? = some (rsetO fun _ => false) := by rw [hW, heap_at _ _ _ (by simp), zero_rset]
  have hB : Below w.heap.size w W := by rw [hW]; exact (((ext_alloc _ _).alloc (by simp) _).alloc (by simp; omega) _).alloc (by simp; omega) _
  have hWs : W.heap.size = w.heap.size + 1 + 1 + 1 + 1 := by rw [hW]; simp
  have HWs := Lib.hid hWs
  have hc := rset_cell hi b hb
  have HO := Lib.hid ho
  have HI := Lib.hid hi
  have HR := Lib.hid hr
  have HS := Lib.hid hs
  have HB := Lib.hid hB
  clear hW hWs ho hi hr hs hB
  by_cases hfb : f b = true
  · rw [hfb] at hc
    have HFB := Lib.hid hfb
    clear hfb
    go_wp2
    go_loopg [8, 9, 10, 11] 201 (fun gg v _ _ _ wr => ∃ (st seen : List Nat), st.length + 200 ≤ gg + seen.length ∧ st.length ≤ seen.length + 1 ∧ Hid (BJ (funcO pa pn pc ba bn bc) (nx (tsOf bs)) f b w st seen none v wr))
    case atStart =>
      refine ⟨[b], [], by simp, by simp, by simpa using WInv.start (nx (tsOf bs)) f b, by simp, by simp, ?_, ?_, ?_, ?_, ?_, ?_⟩
      · exact (Below.heap_alloc _ _ _ (by rw [HWs.out]; omega)).trans HO.out
      · exact (Below.heap_alloc _ _ _ (by rw [HWs.out]; omega)).trans HI.out
      · exact (Below.heap_alloc _ _ _ (by rw [HWs.out]; omega)).trans HR.out
      · exact (Below.heap_alloc _ _ _ (by rw [HWs.out]; omega)).trans HS.out
      · exact QueI.of_own (ownI_lit (xs := intsN [b]) rfl _ (by rw [HWs.out]; omega) (intsN_ok [b] (by simp; omega)) (by simp [intsN]))
      · exact HB.out.alloc (by rw [HWs.out]; omega) _
    case round =>
      obtain ⟨st, seen, hm, hm2, HJ⟩ := hrel
      clear hc HO HI HS HR HB HWs
      rcases st with _ | ⟨x, st'⟩
      · obtain ⟨h1, h2, h3, h4, h5, h6, h7, h8, h9⟩ := HJ.out
        obtain ⟨g, o, cap, rfl, hl1, hl2, _⟩ := h8.form
        have HE : Hid ((fun y => seen.contains y) = walkF (nx (tsOf bs)) f b) := walkF_of HC.out HFB.out h1
        rw [HE.out] at h7
        have HS := Lib.hid h7
        have HR := Lib.hid h6
        have HB := Lib.hid h9
        clear h1 h2 h3 h4 h5 h6 h7 h8 h9 HJ hm
        go_wp2_with (first
          | (refine wpList_load_row rfl 107 _ rfl (w.heap.size + 1 + 1 + 1) rfl 107 _ (0, 0) _ HS.out Tryz.underlying107 rfl (by rw [setA_size]; exact size_rset) ?_)
          | (refine wpList_store_row rfl 107 _ _ rfl (w.heap.size + 1 + 1) (setA (walkF (nx (tsOf bs)) f b)) rfl rfl 107 _ HR.out (by rw [setA_size]; exact size_rset) rfl (setA_all _) ?_))
        exact bodyPost_ret (v := .agg (setA (walkF (nx (tsOf bs)) f b))) (by simp [results, Tryz.results98, asAddr, Act.put, load_rset (setRow_heap _ _ _ _ _ _ HR.out)]) rfl ⟨rfl, below_setRow HB.out (by omega) _⟩
      · obtain ⟨h1, h2, h3, h4, h5, h6, h7, h8, h9⟩ := id HJ.out
        have hst : intsN (x :: st') = (x : Int) :: intsN st' := rfl
        rw [hst] at h8
        obtain ⟨g, o, cap, rfl, hl1, hl2, hints⟩ := h8.form
        have hlen2 : (intsN st').length = st'.length := by simp [intsN]
        have hlen' : ((x : Int) :: intsN st').length = st'.length + 1 := by simp [intsN]
        have hpop := h8.tail
        obtain ⟨b1, o1, e1, hx0, _⟩ := hints.2.2 0 (by simp)
        injection e1 with e1
        injection e1 with e1 e2
        subst e1 e2
        rw [Nat.add_zero] at hx0
        have hx0' : wr.cell? ⟨g, o, none⟩ = some (.int .i64 (x : Int)) := hx0
        have hxf : f x = true := by
          rcases h1.src x (by simp) with e | e
          · rw [e]; exact HFB.out
          · exact (h1.sound x e).inn
        have hxr : x < bn := by
          rcases h1.src x (by simp) with e | e
          · rw [e]; exact HF.out HFB.out
          · cases h1.sound x e with
            | one h _ => exact HX.out _ _ h
            | step _ h _ => exact HX.out _ _ h
        have hseen : seen.length ≤ 200 := nodup_len 200 seen h2 h3
        have hstl := hm
        simp only [List.length_cons] at hstl hm2
        rw [hlen'] at hl1
        rw [hlen2] at hpop
        rw [hlen']
        have hcc : (cap = 1 ∧ st' = []) ∨ ∃ c2, cap = c2 + 2 := by
          by_cases e : cap = 1
          · exact .inl ⟨e, List.eq_nil_of_length_eq_zero (by omega)⟩
          · exact .inr ⟨cap - 2, by omega⟩
        have hj2 : ∀ v2, QueI wr (w.heap.size + 1 + 1 + 1 + 1) v2 (intsN st') → BJ (funcO pa pn pc ba bn bc) (nx (tsOf bs)) f b w st' seen (some (x, 0)) v2 wr := fun v2 hp =>
          ⟨h1.take x st' (fun z => by simp), h2, h3, h4, h5, h6, h7, hp, h9⟩
        have hpop1 : cap = 1 → st' = [] → QueI wr (w.heap.size + 1 + 1 + 1 + 1) (.slice (some ⟨g, o, none⟩) 0 0) (intsN []) := fun e1 e2 => by
          obtain ⟨g', o', cap', cur, e, k1, k2, k3, k4, k5, k6, k7, k8⟩ := h8
          injection e with e1 e2 e3
          injection e1 with e1
          injection e1 with e1 e4 _
          subst e1 e3 e4
          exact ⟨g, o, 0, cur, rfl, k1, by simp [intsN], by simp [maxLen], k4, by omega, fun k hk => by simp [intsN] at hk, fun z hz => by simp [intsN] at hz, by simp [intsN]⟩
        have HK := Lib.hid h4
        have HBw := Lib.hid h9
        unfold maxLen at hl2
        have hstn : st'.length ≤ 1000 := by omega
        have hwq : w.heap.size + 1 + 1 + 1 + 1 ≤ wr.heap.size := by have := lt_of_heap h7; omega
        have hqlow : ∀ v2, QueI wr (w.heap.size + 1 + 1 + 1 + 1) v2 (intsN st') → ∀ k, v2.ownBlock = some k → k < wr.heap.size := fun v2 h k hk => (h.low hk).2
        obtain ⟨wq, rfl⟩ : ∃ wq : World, wq = wr := ⟨_, rfl⟩
        rcases hcc with ⟨rfl, hs0⟩ | ⟨c2, rfl⟩
        case' inl => have HJ2 := Lib.hid (hj2 (.slice (some ⟨g, o, none⟩) 0 0) (by rw [hs0]; exact hpop1 rfl hs0)); have HQL := Lib.hid (hqlow (.slice (some ⟨g, o, none⟩) 0 0) (by rw [hs0]; exact hpop1 rfl hs0)); clear hs0
        case' inr => have HJ2 := Lib.hid (hj2 _ hpop); have HQL := Lib.hid (hqlow _ hpop)
        all_goals
          clear h1 h2 h3 h4 h5 h6 h7 h8 h9 HJ hm hst hlen' hlen2 hpop hxf hints hx0 hj2 hpop1 hqlow
          go_wp2_with (first
            | (refine wpList_load_row (o := ⟨some 27, .load 25 _, _, _, _, _⟩) rfl 25 _ rfl w.heap.size rfl 25 _ (0, 0) _ HK.out Tryz.underlying25 rfl size_func ?_)
            | (go_at_call 96
               refine (to17_any pa pn pc ba bn bc bs x wq (H.out.ext HBw.out) hxr).mono ?_
               rintro e w1 ⟨v, rfl, ho, hb⟩
               rw [toD_nx HG.out] at ho
               obtain ⟨va, vc, rfl⟩ := ho.form
               have HNX := Lib.hid (ho.mono (show w.heap.size + 1 + 1 + 1 + 1 ≤ wq.heap.size from hwq))
               have HSP : Hid (∀ k, (Value.slice va (intsN (nx (tsOf bs) x)).length vc).ownBlock = some k → wq.heap.size ≤ k) := fun k hk => (ho.1.lt k hk).1
               have HJ3 := Lib.hid (HJ2.out.ext hb)
               clear ho hb hx0' HK HBw))
          have hnl : (intsN (nx (tsOf bs) x)).length = (nx (tsOf bs) x).length := by simp [intsN]
          have hnl2 : (nx (tsOf bs) x).length ≤ 2 := by simp only [nx, List.length_map]; exact toD_len _
          rw [hnl]
          rw [hnl] at HNX HSP
          clear hnl HJ2
          obtain ⟨wo, rfl⟩ : ∃ wo : World, wo = w1 := ⟨_, rfl⟩
          go_loopg [8, 11] (nx (tsOf bs) x).length (fun g2 v2 j wi => ∃ (j' : Nat) (st2 seen2 : List Nat), j = .int .i64 (j' : Int) ∧ j' ≤ (nx (tsOf bs) x).length ∧ (nx (tsOf bs) x).length ≤ g2 + j' ∧ st2.length + seen.length = st'.length + seen2.length ∧ Hid (OwnI wi (w.heap.size + 1 + 1 + 1 + 1) (.slice va (nx (tsOf bs) x).length vc) (intsN (nx (tsOf bs) x))) ∧ Hid (∀ k, v2.ownBlock = some k → (Value.slice va (nx (tsOf bs) x).length vc).ownBlock ≠ some k) ∧ Hid (BJ (funcO pa pn pc ba bn bc) (nx (tsOf bs)) f b w st2 seen2 (some (x, j')) v2 wi))
          case atStart => exact ⟨0, _, seen, rfl, Nat.zero_le _, Nat.le_refl _, rfl, HNX, fun k hk e => by have := HSP.out k e; have := HQL.out k hk; omega, HJ3⟩
          case round =>
            obtain ⟨j', st2, seen2, rfl, hj, hg2, hcnt, HN, HSE, HJ⟩ := hrel
            clear HJ3 HNX HQL HSP
            obtain ⟨h1, h2, h3, h4, h5, h6, h7, h8, h9⟩ := id HJ.out
            obtain ⟨g3, o3, cap3, rfl, hl3, hl4, _⟩ := h8.form
            have hseen2 : seen2.length ≤ 200 := nodup_len 200 seen2 h2 h3
            unfold maxLen at hl4
            by_cases hjl : j' < (nx (tsOf bs) x).length
            · have hyx : (nx (tsOf bs) x).getD j' 0 ∈ nx (tsOf bs) x := by rw [List.getD_eq_getElem?_getD, List.getElem?_eq_getElem hjl]; exact List.getElem_mem _
              have hyb := HX.out x _ hyx
              have hy : (nx (tsOf bs) x).getD j' 0 < 200 := by omega
              obtain ⟨b3, o4, rfl, hcy, _⟩ := HN.out.ints.2.2 j' hjl
              have hey : (intsN (nx (tsOf bs) x)).getD j' 0 = (((nx (tsOf bs) x).getD j' 0 : Nat) : Int) := by simp [intsN, List.getD_eq_getElem?_getD, hjl]
              rw [hey] at hcy
              have hcf := rset_cell h5 _ hy
              have hcs := rset_cell h7 _ hy
              have hfs := rset_free h7 ((nx (tsOf bs) x).getD j' 0)
              have hlS := lt_of_heap h7
              have hjl' : (j' : Int) < ((nx (tsOf bs) x).length : Int) := by omega
              clear hey hyx
              by_cases hgo : f ((nx (tsOf bs) x).getD j' 0) = true ∧ seen2.contains ((nx (tsOf bs) x).getD j' 0) = false
              · obtain ⟨hg1, hg2'⟩ := hgo
                have hns : (nx (tsOf bs) x).getD j' 0 ∉ seen2 := by simpa using hg2'
                have hP := h1.push hjl hg1 (st2 ++ [(nx (tsOf bs) x).getD j' 0]) (fun z => by simp [or_comm]) (fun z => ((nx (tsOf bs) x).getD j' 0 :: seen2).contains z) (fun z => by simp)
                rw [hg1] at hcf
                simp only [hg2'] at hcs
                have HP := Lib.hid hP
                have HNS := Lib.hid hns
                have e1 : (fun k => if k = (nx (tsOf bs) x).getD j' 0 then true else seen2.contains k) = (fun z => ((nx (tsOf bs) x).getD j' 0 :: seen2).contains z) := by
                  funext k
                  by_cases e : k = (nx (tsOf bs) x).getD j' 0
                  · simp [e]
                  · simp [e, List.contains_cons]
                have hgr := grown_setCell wr (w.heap.size + 1 + 1 + 1) ((nx (tsOf bs) x).getD j' 0) (.bool true)
                have HS1 := Lib.hid (rset_to (b := true) h7 hy e1)
                have HO1 := Lib.hid (grown_row hgr h4 (by simp; omega))
                have HI1 := Lib.hid (grown_row hgr h5 (by simp; omega))
                have HR1 := Lib.hid (grown_row hgr h6 (by simp))
                have HQ1 := Lib.hid (h8.chg (chg_setCell wr (w.heap.size + 1 + 1 + 1) ((nx (tsOf bs) x).getD j' 0) (.bool true)) (fun k hk e => by have := (h8.low hk).1; omega))
                have HB1 := Lib.hid (h9.setCell (p := ⟨w.heap.size + 1 + 1 + 1, (nx (tsOf bs) x).getD j' 0, none⟩) (by simp; omega) (.bool true))
                have HN1 := Lib.hid (HN.out.kept hgr (.inr (by simp only [Value.ownBlock, ne_eq, Option.some.injEq]; have := (HN.out.1.lt b3 rfl).1; omega)))
                have hcy2 : (wr.setCell ⟨w.heap.size + 1 + 1 + 1, (nx (tsOf bs) x).getD j' 0, none⟩ (.bool true)).cell? ⟨b3, o4 + j', none⟩ = some (.int .i64 (((nx (tsOf bs) x).getD j' 0 : Nat) : Int)) :=
                  (World.cell?_of_block (Below.heap_setCell _ _ _ _ (fun e => by have := (HN.out.1.lt b3 rfl).1; simp only at e; omega))).trans hcy
                have H2 := Lib.hid h2
                have H3 := Lib.hid h3
                have hst2 : (intsN st2).length = st2.length := by simp [intsN]
                have hsl2 : (intsN st2).length ≤ 1000 := by omega
                clear hg1 hg2' hns hP e1 h1 h2 h3 h4 h5 h6 h7 h8 h9 HJ hgr HN
                generalize hyy : (nx (tsOf bs) x).getD j' 0 = y at *
                have hyI : I64 (y : Int) := by unfold I64; omega
                go_wp2_with (
                  (at_builtin
                   refine wpList_append_que rfl (wr.setCell ⟨w.heap.size + 1 + 1 + 1, y, none⟩ (.bool true)) (.tmp 56) (.tmp 61) 22 rfl (w.heap.size + 1 + 1 + 1 + 1) _ 8 Tryz.underlying22 infoI rfl (.slice (some ⟨g3, o3, none⟩) (intsN st2).length cap3) (intsN st2) rfl HQ1.out (y : Int) hyI wr.heap.size (by simp) rfl (by omega) (by omega) (by simp; omega) ?_
                   intro v5 w5 hq5 hg5 hb5
                   have HQ5 := Lib.hid hq5
                   have HG5 := Lib.hid hg5
                   have HB5 := Lib.hid hb5
                   clear hq5 hg5 hb5))
                have hrow : ∀ (k : Nat), k < w.heap.size + 1 + 1 + 1 + 1 → ¬ (Value.slice (some ⟨g3, o3, none⟩) (intsN st2).length cap3).ownBlock = some k := fun k hk e => by
                  have := (HQ1.out.low e).1
                  omega
                go_roundg ((nx (tsOf bs) x).length - (j' + 1))
                case measure => omega
                case rel =>
                  refine ⟨j' + 1, st2 ++ [y], y :: seen2, by go_num, by omega, by omega, by simp; omega, HN1.out.kept HG5.out (.inr fun e => HSE.out _ e.symm rfl), ?_, HP.out, List.nodup_cons.2 ⟨HNS.out, H2.out⟩, ?_, ?_, ?_, ?_, ?_, ?_, ?_⟩
                  · intro k hk
                    rcases HB5.out with e | ⟨q, e, hq⟩
                    · exact HSE.out k (by rw [← e]; exact hk)
                    · rw [e] at hk
                      injection hk with hk
                      intro e2
                      have := (HN1.out.1.lt k e2).2
                      omega
                  · intro z hz
                    rcases List.mem_cons.1 hz with rfl | hz
                    · exact hy
                    · exact H3.out z hz
                  · exact grown_row HG5.out HO1.out (hrow _ (by omega))
                  · exact grown_row HG5.out HI1.out (hrow _ (by omega))
                  · exact grown_row HG5.out HR1.out (hrow _ (by omega))
                  · exact grown_row HG5.out HS1.out (hrow _ (by omega))
                  · have e2 : intsN (st2 ++ [y]) = intsN st2 ++ [(y : Int)] := by simp [intsN]
                    rw [e2]
                    exact HQ5.out
                  · exact HB1.out.grown HG5.out (by simp; omega) (fun k e => by have := (HQ1.out.low e).1; omega)
              · have HJ3 : Hid (BJ (funcO pa pn pc ba bn bc) (nx (tsOf bs)) f b w st2 seen2 (some (x, j' + 1)) (.slice (some ⟨g3, o3, none⟩) (intsN st2).length cap3) wr) := by
                  refine ⟨h1.skip hjl (fun hi => ?_), h2, h3, h4, h5, h6, h7, h8, h9⟩
                  cases hb2 : seen2.contains ((nx (tsOf bs) x).getD j' 0) with
                  | true => rfl
                  | false => exact absurd ⟨hi, hb2⟩ hgo
                have hgo' : f ((nx (tsOf bs) x).getD j' 0) = true → seen2.contains ((nx (tsOf bs) x).getD j' 0) = true := fun hi => by
                  cases hb2 : seen2.contains ((nx (tsOf bs) x).getD j' 0) with
                  | true => rfl
                  | false => exact absurd ⟨hi, hb2⟩ hgo
                clear h1 h2 h3 h4 h5 h6 h7 h8 h9 HJ hgo
                generalize hyy : (nx (tsOf bs) x).getD j' 0 = y at *
                cases hfy : f y with
                | true =>
                  have hsy := hgo' hfy
                  rw [hfy] at hcf
                  simp only [hsy] at hcs
                  clear hgo' hsy hfy
                  go_wp2
                  go_roundg ((nx (tsOf bs) x).length - (j' + 1))
                  case measure => omega
                  case rel => exact ⟨j' + 1, st2, seen2, by go_num, by omega, by omega, by omega, HN, HSE, HJ3⟩
                | false =>
                  rw [hfy] at hcf
                  clear hgo' hfy
                  go_wp2
                  go_roundg ((nx (tsOf bs) x).length - (j' + 1))
                  case measure => omega
                  case rel => exact ⟨j' + 1, st2, seen2, by go_num, by omega, by omega, by omega, HN, HSE, HJ3⟩
            · obtain rfl : j' = (nx (tsOf bs) x).length := by omega
              have HJ3 : Hid (BJ (funcO pa pn pc ba bn bc) (nx (tsOf bs)) f b w st2 seen2 none (.slice (some ⟨g3, o3, none⟩) (intsN st2).length cap3) wr) := ⟨h1.fin (Nat.le_refl _), h2, h3, h4, h5, h6, h7, h8, h9⟩
              clear h1 h2 h3 h4 h5 h6 h7 h8 h9 HJ
              go_wp2
              go_roundg (st2.length + 200 - seen2.length)
              case measure => omega
              case rel => exact ⟨st2, seen2, by omega, by omega, HJ3⟩
  · have hfb' : f b = false := by simpa using hfb
    rw [hfb'] at hc
    have HE : Hid (walkF (nx (tsOf bs)) f b = fun _ => false) := walkF_no hfb'
    clear hfb hfb'
    go_wp2_with (first
      | (refine wpList_load_row rfl 107 _ rfl (w.heap.size + 1 + 1 + 1) rfl 107 _ (0, 0) _ HS.out Tryz.underlying107 rfl (by rw [setA_size]; exact size_rset) ?_)
      | (refine wpList_store_row rfl 107 _ _ rfl (w.heap.size + 1 + 1) (setA fun _ => false) rfl rfl 107 _ HR.out (by rw [setA_size]; exact size_rset) rfl (setA_all _) ?_))
    exact bodyPost_ret (v := .agg (setA fun _ => false)) (by simp [results, Tryz.results98, asAddr, Act.put, load_rset (setRow_heap _ _ _ _ _ _ HR.out)]) rfl ⟨by rw [HE.out], below_setRow HB.out (by omega) _⟩
end
end Go.Proofs.YtblhmdhfhaencaaGreat
