/-
 Two boxes; stores of rows; lists of records that are alike, one by one. No program in sight.
-/
import Derived.Test.YtblhmdhfhaencaaRecs
import Derived.Test.YtblhmdhfhaencaaCP
import Derived.Test.YtblhmdhfhaencaaFlatBase
import Derived.Deep.Onto
import Derived.Test.YtblhmdhfhaencaaMidR
import Derived.Test.YtblhmdhfhaencaaQT
import Derived.Test.YtblhmdhfhaencaaVP
import Derived.Test.YtblhmdhfhaencaaTA
import Derived.Test.YtblhmdhfhaencaaZed
import Derived.Test.YtblhmdhfhaencaaTH
import Derived.Deep.LoopGhost
import Derived.BigRegion
namespace Go.Proofs.Ytblhmdhfhaencaa
set_option linter.unusedSimpArgs false
set_option linter.unusedVariables false
set_option linter.unusedSectionVars false
set_option maxRecDepth 100000
set_option maxHeartbeats 40000000
section
open Go.RowKit

theorem box2 (w : World) (o1 o2 : Obj) (W : World) (h : Below ((w.alloc o1).alloc o2).heap.size ((w.alloc o1).alloc o2) W) : W.heap[w.heap.size]? = some o1 ∧ W.heap[w.heap.size + 1]? = some o2 ∧ Below w.heap.size w W := by
 refine ⟨?_, ?_, ext_trans (ext_trans (ext_alloc w o1) (ext_alloc _ o2)) h⟩
 · rw [h.block _ (by simp; omega), Below.heap_alloc _ _ _ (by simp)]
   exact heap_alloc_new w o1
 · rw [h.block _ (by simp)]
   have := heap_alloc_new (w.alloc o1) o2
   simpa using this
theorem boxes2 (w : World) (o1 o2 : Obj) : ∃ W0, Hid (Below w.heap.size w W0) ∧ W0.heap[w.heap.size]? = some o1 ∧ W0.heap[w.heap.size + 1]? = some o2 ∧ (w.alloc o1).alloc o2 = W0 := by
 obtain ⟨x1, x2, x3⟩ := box2 w o1 o2 _ (Below.refl _ _)
 exact ⟨_, x3, x1, x2, rfl⟩
theorem chg_setRow (w : World) (g : Nat) (cs : Array Value) : Chg (fun k => k = g) w (w.setRow g cs) :=
 ⟨rfl, rfl, rfl, by rw [size_setRow]; exact Nat.le_refl _, fun k _ hn => setRow_other w g k cs hn⟩
theorem chg_setCell (w : World) (b o : Nat) (u : Value) : Chg (fun k => k = b) w (w.setCell ⟨b, o, none⟩ u) := (Chg.refl (fun k => k = b) w).setCell (p := ⟨b, o, none⟩) (Or.inl rfl) u
theorem Chg.row {S : Nat → Prop} {w w' : World} (h : Chg S w w') {k : Nat} {o : Obj} (hk : w.heap[k]? = some o) (hn : ¬ S k) : w'.heap[k]? = some o := (h.block k (Array.getElem?_eq_some_iff.1 hk).1 hn).trans hk
theorem chg_below {w w' : World} (h : Below w.heap.size w w') : Chg (fun _ => False) w w' := ⟨h.os, h.tape, h.output, h.size, fun k hk _ => h.block k hk⟩
section
variable {P : Program} {Q : Exit → Act → World → Prop}
theorem wpList_store_rowC {ops : Array Oper} {rest : List Oper} {o : Oper} {a : Act} {w : World} (hgd : o.guard = none) (ty : TypeId) (x y : Operand) (ho : o.op = .store ty x y)
  (g : Nat) (cells : Array Value) (hx : a.eval x = .pointer (some ⟨g, 0, none⟩)) (hy : a.eval y = .agg cells)
  (t : TypeId) (old : Array Value) (hg : w.heap[g]? = some (.cells old t (0, 0))) (hi : (P.info? ty).map (·.size) = some cells.size)
  (hold : old.size = cells.size) (h1 : cells.all (·.oneCell') = true)
  (h : ∀ W', Chg (fun k => k = g) w W' → W'.heap[g]? = some (.cells cells t (0, 0)) → wpList P ops Q rest (a.put o.dst undef) W') : wpList P ops Q (o :: rest) a w :=
 wpList_store_row hgd ty x y ho g cells hx hy t old hg hi hold h1 (h _ (chg_setRow _ _ _) (setRow_heap _ _ _ _ _ _ hg))
end

/-- alike, one by one -/
def SameEs {α : Type} (SD : α → α → Prop) (rs ss : List α) : Prop := rs.length = ss.length ∧ ∀ (k : Nat) r s, rs[k]? = some r → ss[k]? = some s → SD r s
end

section
open Go.RowKit Go.Shelf

def partC (p : PartD) : List Value := (setA p.s).toList ++ [.int .i64 p.kind, .int .i64 p.entry]
theorem partC_len (p : PartD) : (partC p).length = 202 := by simp [partC, setA_size]
theorem partC_one (p : PartD) : ∀ v ∈ partC p, v.oneCell' = true := by
 intro v hv
 rcases List.mem_append.1 hv with h | h
 · have := setA_all p.s
   rw [Array.all_eq_true_iff_forall_mem] at this
   exact this v (by simpa using h)
 · simp only [List.mem_cons, List.not_mem_nil, or_false] at h
   rcases h with rfl | rfl <;> rfl
abbrev partV (p : PartD) : Value := .agg (partC p).toArray
theorem toArr_toList (l : List Value) : l.toArray.toList = l := rfl
theorem size_part : (Try.prog.info? 99).map (·.size) = some 202 := by kernel_rfl
theorem size_partC (p : PartD) : (Try.prog.info? 99).map (·.size) = some (partC p).length := by rw [partC_len]; exact size_part
theorem size_partA (p : PartD) : (Try.prog.info? 99).map (·.size) = some (partC p).toArray.size := by rw [List.size_toArray]; exact size_partC p
/-- parts in a slice of the call's own -/
def PartsIn (W : World) (base : Nat) (v : Value) (L : List PartD) : Prop := OwnR 99 202 partC W base v L
section
variable {W W' : World} {base g n c : Nat} {L : List PartD}
theorem PartsIn.len (h : PartsIn W base (.slice (some ⟨g, 0, none⟩) n c) L) : L.length = n := by
 obtain ⟨_, _, e⟩ := OwnR.form h
 injection e with _ e _
 exact e.symm
theorem PartsIn.ext {v : Value} (h : PartsIn W base v L) (hb : Below W.heap.size W W') : PartsIn W' base v L := OwnR.ext h hb
theorem PartsIn.drew {v : Value} (h : PartsIn W base v L) : PartsIn W.drew base v L := h.ext (ext_drewN (Below.refl _ _) 1)
theorem part_range (h : PartsIn W base (.slice (some ⟨g, 0, none⟩) n c) L) {k : Nat} (hk : k < n) : W.rangeAt g (k * 202) (partC (L.getD k zPart)) := OwnR.range partC_len h zPart (by rw [h.len]; exact hk)
theorem part_there (h : PartsIn W base (.slice (some ⟨g, 0, none⟩) n c) L) {k : Nat} (hk : k < n) (p : PartD) : W.there g (k * 202) (partC p).toArray.size := by
 rw [List.size_toArray, partC_len]
 exact OwnR.there partC_len h (by rw [h.len]; exact hk)
theorem part_set (h : PartsIn W base (.slice (some ⟨g, 0, none⟩) n c) L) {k : Nat} (hk : k < n) (p : PartD) : PartsIn (W.setCells g (k * 202) (partC p)) base (.slice (some ⟨g, 0, none⟩) n c) (L.set k p) := OwnR.setAt partC_len h (by rw [h.len]; exact hk) p
end
theorem swapRange_any (g n c a b m base : Nat) (fv : Value) (L : List PartD) (w : World) (h : PartsIn w base (.slice (some ⟨g, 0, none⟩) n c) L) (hn : n ≤ 1000000) (hab : a + m ≤ b) (hbm : b + m ≤ n) :
  Calls Try.prog 124 #[.slice (some ⟨g, 0, none⟩) n c, .int .i64 (a : Int), .int .i64 (b : Int), .int .i64 (m : Int), fv] w fun e w' => e = .returned (.tuple #[]) ∧
   ∃ L', PartsIn w' base (.slice (some ⟨g, 0, none⟩) n c) L' ∧ Sh zPart L L' a (b + m) ∧ (∀ k, L'.getD k zPart = swapR (fun k => L.getD k zPart) a b m k) ∧ Chg (fun k => k = g) w w' := by
 have H := Lib.hid h
 clear h
 go_enter Try.func124, Try.ntmps124
 go_wp2
 go_loopw [10] (fun s10 wr => ∃ (i : Nat) (L1 : List PartD), i ≤ m ∧ s10 = .int .i64 (i : Int) ∧ Hid (PartsIn wr base (.slice (some ⟨g, 0, none⟩) n c) L1 ∧ Sh zPart L L1 a (b + m) ∧ (∀ k, L1.getD k zPart = swapR (fun k => L.getD k zPart) a b i k) ∧ Chg (fun k => k = g) w wr)) (fun s10 _ => m - (intOf s10).toNat)
 case atStart => exact ⟨0, L, by omega, by go_num, H.out, Sh.refl _ _ _, fun k => by rw [swapR_zero], Chg.refl _ _⟩
 case round =>
  obtain ⟨i, L1, hi, rfl, HJ⟩ := hrel
  by_cases hlt : i < m
  · have hlt' : (i : Int) < (m : Int) := by omega
    have h1 := HJ.out.1.drew
    have hr1 := part_range h1 (k := a + i) (by omega)
    have hr2 := part_range h1 (k := b + i) (by omega)
    have ht1 := part_there h1 (k := a + i) (by omega) (L1.getD (b + i) zPart)
    have h2 := part_set h1 (k := a + i) (by omega) (L1.getD (b + i) zPart)
    have ht2 := part_there h2 (k := b + i) (by omega) (L1.getD (a + i) zPart)
    have h3 := part_set h2 (k := b + i) (by omega) (L1.getD (a + i) zPart)
    have hlen := HJ.out.1.len
    have HJ2 : Hid (PartsIn ((wr.drew.setCells g ((a + i) * 202) (partC (L1.getD (b + i) zPart))).setCells g ((b + i) * 202) (partC (L1.getD (a + i) zPart))) base (.slice (some ⟨g, 0, none⟩) n c) (swapL zPart L1 (a + i) (b + i)) ∧ Sh zPart L (swapL zPart L1 (a + i) (b + i)) a (b + m) ∧ (∀ k, (swapL zPart L1 (a + i) (b + i)).getD k zPart = swapR (fun k => L.getD k zPart) a b (i + 1) k) ∧ Chg (fun k => k = g) w ((wr.drew.setCells g ((a + i) * 202) (partC (L1.getD (b + i) zPart))).setCells g ((b + i) * 202) (partC (L1.getD (a + i) zPart)))) := by
     refine ⟨h3, HJ.out.2.1.trans (Sh.swap L1 (by omega) (by omega) (by omega)), fun k => ?_, chg_setCells (S := fun k => k = g) rfl _ _ _ (chg_setCells (S := fun k => k = g) rfl _ _ _ (HJ.out.2.2.2.drewN 1))⟩
     rw [swapL_at zPart L1 (by omega) (by omega), ← swapR_step _ _ _ _ (by omega), HJ.out.2.2.1, HJ.out.2.2.1, HJ.out.2.2.1]
    clear h1 h2 h3 HJ
    generalize L1.getD (a + i) zPart = x at *
    generalize L1.getD (b + i) zPart = y at *
    go_wp2
    obtain ⟨w8, hw8⟩ : ∃ w8, w8 = wr.drew.setCells g ((a + i) * 202) (partC y) := ⟨_, rfl⟩
    rw [← hw8] at HJ2 ht2
    obtain ⟨w9, hw9⟩ : ∃ w9, w9 = w8.setCells g ((b + i) * 202) (partC x) := ⟨_, rfl⟩
    rw [← hw9] at HJ2
    refine z_start (fun _ => True) (by kernel_rfl) ?_
    refine z_reads 0 13 (by kernel_rfl) trivial ?_
    simp only [List.take_succ_cons, List.take_zero, List.drop_succ_cons, List.drop_zero]
    repeat (go_big_quiet_step (fail))
    refine wpQuiet_nil ?_
    refine z_reads 14 5 (by kernel_rfl) trivial ?_
    simp only [List.take_succ_cons, List.take_zero, List.drop_succ_cons, List.drop_zero]
    repeat (go_big_quiet_step (fail))
    refine wpQuiet_nil ?_
    refine z_two 13 19 (by kernel_rfl) ?_ ?_
    · refine wpOp_atK rfl rfl ?_
      refine wp_load_mid 99 _ rfl g ((b + i) * 202) rfl (partC y) _ hr2 Try.underlying99 rfl (size_partC _) ?_
      refine ⟨Or.inr trivial, ?_⟩
      simp only [put_some, List.setIfInBounds_toArray, List.set_cons_succ, List.set_cons_zero]
      refine z_one 19 (by kernel_rfl) ?_
      refine wpOp_atK rfl rfl ?_
      refine wp_load_mid 99 _ rfl g ((a + i) * 202) rfl (partC x) _ hr1 Try.underlying99 rfl (size_partC _) ?_
      refine ⟨Or.inr trivial, ?_⟩
      simp only [put_some, List.setIfInBounds_toArray, List.set_cons_succ, List.set_cons_zero]
      refine z_reads 20 1 (by kernel_rfl) trivial ?_
      simp only [List.take_succ_cons, List.take_zero, List.drop_succ_cons, List.drop_zero]
      repeat (go_big_quiet_step (fail))
      refine wpQuiet_nil ?_
      refine z_one 21 (by kernel_rfl) ?_
      refine wpOp_atK rfl rfl ?_
      refine wp_store_mid 99 _ _ rfl g ((a + i) * 202) (partC y).toArray rfl rfl ht1 (size_partA _) (all_oneCell_toArray (partC_one _)) ?_
      simp only [put_none, toArr_toList]
      rw [← hw8]
      refine ⟨Or.inr trivial, ?_⟩
      refine z_reads 22 1 (by kernel_rfl) trivial ?_
      simp only [List.take_succ_cons, List.take_zero, List.drop_succ_cons, List.drop_zero]
      repeat (go_big_quiet_step (fail))
      refine wpQuiet_nil ?_
      refine z_one 23 (by kernel_rfl) ?_
      refine wpOp_atK rfl rfl ?_
      refine wp_store_mid 99 _ _ rfl g ((b + i) * 202) (partC x).toArray rfl rfl ht2 (size_partA _) (all_oneCell_toArray (partC_one _)) ?_
      simp only [put_none, toArr_toList]
      refine ⟨Or.inr trivial, ?_⟩
      rw [← hw9]
      refine z_done (by kernel_rfl) ?_
      clear hw9 hw8
      go_wp2
      go_roundw
      case rel => exact ⟨i + 1, _, by omega, by go_num, HJ2⟩
      case measure => simp [intOf]; omega
    · refine wpOp_atK rfl rfl ?_
      refine wp_load_mid 99 _ rfl g ((a + i) * 202) rfl (partC x) _ hr1 Try.underlying99 rfl (size_partC _) ?_
      refine ⟨Or.inr trivial, ?_⟩
      simp only [put_some, List.setIfInBounds_toArray, List.set_cons_succ, List.set_cons_zero]
      refine z_one 13 (by kernel_rfl) ?_
      refine wpOp_atK rfl rfl ?_
      refine wp_load_mid 99 _ rfl g ((b + i) * 202) rfl (partC y) _ hr2 Try.underlying99 rfl (size_partC _) ?_
      refine ⟨Or.inr trivial, ?_⟩
      simp only [put_some, List.setIfInBounds_toArray, List.set_cons_succ, List.set_cons_zero]
      refine z_reads 20 1 (by kernel_rfl) trivial ?_
      simp only [List.take_succ_cons, List.take_zero, List.drop_succ_cons, List.drop_zero]
      repeat (go_big_quiet_step (fail))
      refine wpQuiet_nil ?_
      refine z_one 21 (by kernel_rfl) ?_
      refine wpOp_atK rfl rfl ?_
      refine wp_store_mid 99 _ _ rfl g ((a + i) * 202) (partC y).toArray rfl rfl ht1 (size_partA _) (all_oneCell_toArray (partC_one _)) ?_
      simp only [put_none, toArr_toList]
      rw [← hw8]
      refine ⟨Or.inr trivial, ?_⟩
      refine z_reads 22 1 (by kernel_rfl) trivial ?_
      simp only [List.take_succ_cons, List.take_zero, List.drop_succ_cons, List.drop_zero]
      repeat (go_big_quiet_step (fail))
      refine wpQuiet_nil ?_
      refine z_one 23 (by kernel_rfl) ?_
      refine wpOp_atK rfl rfl ?_
      refine wp_store_mid 99 _ _ rfl g ((b + i) * 202) (partC x).toArray rfl rfl ht2 (size_partA _) (all_oneCell_toArray (partC_one _)) ?_
      simp only [put_none, toArr_toList]
      refine ⟨Or.inr trivial, ?_⟩
      rw [← hw9]
      refine z_done (by kernel_rfl) ?_
      clear hw9 hw8
      go_wp2
      go_roundw
      case rel => exact ⟨i + 1, _, by omega, by go_num, HJ2⟩
      case measure => simp [intOf]; omega
  · obtain rfl : i = m := by omega
    go_wp2
    go_end0
    exact ⟨rfl, L1, HJ.out.1, HJ.out.2.1, HJ.out.2.2.1, HJ.out.2.2.2⟩
theorem swapRange_anyZ (g n c a b m base : Nat) (za zb zm : Int) (fv : Value) (L : List PartD) (w : World) (h : PartsIn w base (.slice (some ⟨g, 0, none⟩) n c) L) (hn : n ≤ 1000000) (ha : za = (a : Int)) (hb : zb = (b : Int)) (hm : zm = (m : Int)) (hab : a + m ≤ b) (hbm : b + m ≤ n) :
  Calls Try.prog 124 #[.slice (some ⟨g, 0, none⟩) n c, .int .i64 za, .int .i64 zb, .int .i64 zm, fv] w fun e w' => e = .returned (.tuple #[]) ∧
   ∃ L', PartsIn w' base (.slice (some ⟨g, 0, none⟩) n c) L' ∧ Sh zPart L L' a (b + m) ∧ (∀ k, L'.getD k zPart = swapR (fun k => L.getD k zPart) a b m k) ∧ Chg (fun k => k = g) w w' := by
 subst ha hb hm
 exact swapRange_any g n c a b m base fv L w h hn hab hbm
end
end Go.Proofs.Ytblhmdhfhaencaa
