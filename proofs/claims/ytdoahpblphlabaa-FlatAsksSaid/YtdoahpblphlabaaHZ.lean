/-
  Flat: FlatAsks, walked.
-/
import Derived.Test.YtdoahpblphlabaaHX
import Derived.Test.YtdoahpblphlabaaSets
namespace Go.Proofs.Ytdoahpblphlabaa
set_option linter.unusedSimpArgs false
set_option linter.unusedVariables false
open Go.RowKit

theorem imp_false {b : Bool} {p : Prop} (h : b = false) : b = true → p := fun h' => by rw [h] at h'; cases h'
/-- a machine, a block that is lent, a new variable, once it is there -/
def LmP (B : Nat) (m : MachD) (n1 n2 : Nat) (b : Bool) (v : Value) (w : World) : Prop := b = true → ∃ g1 k1 g2 k2, v = machV m (some ⟨g1, 0, none⟩) n1 k1 (some ⟨g2, 0, none⟩) n2 k2 ∧ LentM w B m (.slice (some ⟨g1, 0, none⟩) n1 k1) (.slice (some ⟨g2, 0, none⟩) n2 k2)
def LbP (B : Nat) (s : BlkD) (n : Nat) (b : Bool) (v : Value) (w : World) : Prop := b = true → ∃ g k rs, v = blkV s (some ⟨g, 0, none⟩) n k ∧ LentRow w B (.slice (some ⟨g, 0, none⟩) n k) s.ins rs
def PtP (B : Nat) (o : Obj) (b : Bool) (v : Value) (w : World) : Prop := b = true → ∃ p, v = .pointer (some ⟨p, 0, none⟩) ∧ B ≤ p ∧ w.heap[p]? = some o
theorem LmP.ext {B n1 n2 : Nat} {m : MachD} {b : Bool} {v : Value} {w w' : World} (h : LmP B m n1 n2 b v w) (hb : Below w.heap.size w w') : LmP B m n1 n2 b v w' := fun h' => by
  obtain ⟨g1, k1, g2, k2, e, hl⟩ := h h'
  exact ⟨g1, k1, g2, k2, e, hl.1.ext hb, hl.2.ext hb⟩
theorem LbP.ext {B n : Nat} {s : BlkD} {b : Bool} {v : Value} {w w' : World} (h : LbP B s n b v w) (hb : Below w.heap.size w w') : LbP B s n b v w' := fun h' => by
  obtain ⟨g, k, rs, e, hl⟩ := h h'
  exact ⟨g, k, rs, e, hl.ext hb⟩
theorem PtP.ext {B : Nat} {o : Obj} {b : Bool} {v : Value} {w w' : World} (h : PtP B o b v w) (hb : Below w.heap.size w w') : PtP B o b v w' := fun h' => by
  obtain ⟨p, e, hp, hl⟩ := h h'
  exact ⟨p, e, hp, block_ext hb hl⟩
theorem Lent.chgT {w w' : World} {base p : Nat} {v : Value} {xs : List Int} {cs : Array Value} {ty : TypeId} {fr : Nat × Nat} (h : Lent w base v xs) (hc : Chg (fun k => k = p) w w') (hp : w.heap[p]? = some (.cells cs ty fr)) (ht : ty ≠ 3) : Lent w' base v xs := by
  obtain ⟨g, cap, rfl, hown⟩ := h
  refine ⟨g, cap, rfl, ownsRow_chg hown hc (fun k hk e => ?_)⟩
  subst e
  rcases hown.2 with ⟨h0, _⟩ | ⟨g', cap', cur, hv, _, hh, _⟩
  · cases h0
  · rw [hv] at hk
    simp only [Value.ownBlock, Option.some.injEq] at hk
    subst hk
    rw [hh] at hp
    injection hp with hp
    injection hp with _ e2 _
    exact ht e2.symm
theorem LentRow.chgT {w w' : World} {base p : Nat} {v : Value} {rs rs' : List InsR} {cs : Array Value} {ty : TypeId} {fr : Nat × Nat} (h : LentRow w base v rs rs') (hc : Chg (fun k => k = p) w w') (hp : w.heap[p]? = some (.cells cs ty fr)) (ht : ty ≠ 3) (ht2 : ty ≠ 56) : LentRow w' base v rs rs' := by
  obtain ⟨g, cap, rfl, hown, hl⟩ := h
  refine ⟨g, cap, rfl, ownsRow_chg hown hc (fun k hk e => ?_), hl.1, fun k r r' h1 h2 => ⟨(hl.2 k r r' h1 h2).1, (hl.2 k r r' h1 h2).2.chgT hc hp ht⟩⟩
  subst e
  rcases hown.2 with ⟨h0, _⟩ | ⟨g', cap', cur, hv, _, hh, _⟩
  · cases h0
  · rw [hv] at hk
    simp only [Value.ownBlock, Option.some.injEq] at hk
    subst hk
    rw [hh] at hp
    injection hp with hp
    injection hp with _ e2 _
    exact ht2 e2.symm
section
variable {P : Program} {l : List Oper} {Q : Exit → Act → World → Prop}
theorem wpOp_atK {e : Nat} {o : Oper} {K : Act → World → Prop} {a : Act} {w : World} (ho : l[e]? = some o) (hg : o.guard = none) (h : ∀ K' : Act → World → Prop, (∀ a' w', K a' w' → K' a' w') → o.wp P a w K' Q) : wpOp P l.toArray Q e K a w := wpOp_at ho hg (h K (fun _ _ x => x))
theorem op_store_rowC {o : Oper} {a : Act} {K : Act → World → Prop} {w : World} (ty : TypeId) (x y : Operand) (ho : o.op = .store ty x y)
    (g : Nat) (cells : Array Value) (hx : a.eval x = .pointer (some ⟨g, 0, none⟩)) (hy : a.eval y = .agg cells)
    (t : TypeId) (old : Array Value) (hg : w.heap[g]? = some (.cells old t (0, 0))) (hi : (P.info? ty).map (·.size) = some cells.size)
    (hold : old.size = cells.size) (h1 : cells.all (·.oneCell') = true)
    (h : ∀ W', Chg (fun k => k = g) w W' → W'.heap[g]? = some (.cells cells t (0, 0)) → K (a.put o.dst undef) W') : o.wp P a w K Q :=
  wp_store_row ty x y ho g cells hx hy t old hg hi hold h1 (h _ (chg_setRow _ _ _) (setRow_heap _ _ _ _ _ _ hg))
end
theorem zero_mach (w : World) : (zeroValue 24).run Try.prog w = .ok (.agg #[.int .i64 0, .slice none 0 0, .int .i64 0, .slice none 0 0]) w := by kernel_rfl
theorem zero_blk (w : World) : (zeroValue 31).run Try.prog w = .ok (.agg #[.slice none 0 0, .int .i64 0, .int .i64 0, .int .i64 0, .int .i64 0]) w := by kernel_rfl
set_option maxRecDepth 100000 in
set_option maxHeartbeats 8000000 in
theorem asks_any (m : MachD) (a1 a2 : Option Addr) (n1 c1 n2 c2 : Nat) (s t : BlkD) (sa ta : Option Addr) (ns cs nt ct : Nat) (n : Int) (x : Int × Bool × Int) (w : World) (hm : MachAny w m a1 n1 c1 a2 n2 c2) (hs : BlkAny w s sa ns cs) (ht : BlkAny w t ta nt ct) (hx : FactOK x) :
    Calls Try.prog 3 #[machV m a1 n1 c1 a2 n2 c2, blkV s sa ns cs, blkV t ta nt ct, .int .i64 n, factV x] w fun e w' => e = .returned (.bool true) ∧ Below w.heap.size w w' := by
  have HM := Lib.hid hm
  have HS := Lib.hid hs
  have HT := Lib.hid ht
  have HX := Lib.hid hx
  have l1 := hm.1.2.1
  have l2 := hm.2.1.2.1
  have HLs := Lib.hid hs.1.1.1
  have HLt := Lib.hid ht.1.1.1
  clear hm hs ht hx
  obtain ⟨W0, HW0, hM, hS, hT, hF, hW0⟩ := box4e w (machO m a1 n1 c1 a2 n2 c2) (blkO s sa ns cs) (blkO t ta nt ct) (factO x)
  have xm0 : ∀ w', Below W0.heap.size W0 w' → w'.cell? ⟨w.heap.size, 0, none⟩ = some (.int .i64 m.regs) := fun w' hb => by rw [cell_of_row _ _ _ _ _ _ (block_ext hb hM)]; rfl
  have xm1 : ∀ w', Below W0.heap.size W0 w' → w'.cell? ⟨w.heap.size, 1, none⟩ = some (.slice a1 n1 c1) := fun w' hb => by rw [cell_of_row _ _ _ _ _ _ (block_ext hb hM)]; rfl
  have xm2 : ∀ w', Below W0.heap.size W0 w' → w'.cell? ⟨w.heap.size, 2, none⟩ = some (.int .i64 m.ret) := fun w' hb => by rw [cell_of_row _ _ _ _ _ _ (block_ext hb hM)]; rfl
  have xm3 : ∀ w', Below W0.heap.size W0 w' → w'.cell? ⟨w.heap.size, 3, none⟩ = some (.slice a2 n2 c2) := fun w' hb => by rw [cell_of_row _ _ _ _ _ _ (block_ext hb hM)]; rfl
  have xs0 : ∀ w', Below W0.heap.size W0 w' → w'.cell? ⟨w.heap.size + 1, 0, none⟩ = some (.slice sa ns cs) := fun w' hb => by rw [cell_of_row _ _ _ _ _ _ (block_ext hb hS)]; rfl
  have xs1 : ∀ w', Below W0.heap.size W0 w' → w'.cell? ⟨w.heap.size + 1, 1, none⟩ = some (.int .i64 s.kind) := fun w' hb => by rw [cell_of_row _ _ _ _ _ _ (block_ext hb hS)]; rfl
  have xs2 : ∀ w', Below W0.heap.size W0 w' → w'.cell? ⟨w.heap.size + 1, 2, none⟩ = some (.int .i64 s.a) := fun w' hb => by rw [cell_of_row _ _ _ _ _ _ (block_ext hb hS)]; rfl
  have xs3 : ∀ w', Below W0.heap.size W0 w' → w'.cell? ⟨w.heap.size + 1, 3, none⟩ = some (.int .i64 s.to0) := fun w' hb => by rw [cell_of_row _ _ _ _ _ _ (block_ext hb hS)]; rfl
  have xs4 : ∀ w', Below W0.heap.size W0 w' → w'.cell? ⟨w.heap.size + 1, 4, none⟩ = some (.int .i64 s.to1) := fun w' hb => by rw [cell_of_row _ _ _ _ _ _ (block_ext hb hS)]; rfl
  have xt0 : ∀ w', Below W0.heap.size W0 w' → w'.cell? ⟨w.heap.size + 1 + 1, 0, none⟩ = some (.slice ta nt ct) := fun w' hb => by rw [cell_of_row _ _ _ _ _ _ (block_ext hb hT)]; rfl
  have xt1 : ∀ w', Below W0.heap.size W0 w' → w'.cell? ⟨w.heap.size + 1 + 1, 1, none⟩ = some (.int .i64 t.kind) := fun w' hb => by rw [cell_of_row _ _ _ _ _ _ (block_ext hb hT)]; rfl
  have xt2 : ∀ w', Below W0.heap.size W0 w' → w'.cell? ⟨w.heap.size + 1 + 1, 2, none⟩ = some (.int .i64 t.a) := fun w' hb => by rw [cell_of_row _ _ _ _ _ _ (block_ext hb hT)]; rfl
  have xt3 : ∀ w', Below W0.heap.size W0 w' → w'.cell? ⟨w.heap.size + 1 + 1, 3, none⟩ = some (.int .i64 t.to0) := fun w' hb => by rw [cell_of_row _ _ _ _ _ _ (block_ext hb hT)]; rfl
  have xt4 : ∀ w', Below W0.heap.size W0 w' → w'.cell? ⟨w.heap.size + 1 + 1, 4, none⟩ = some (.int .i64 t.to1) := fun w' hb => by rw [cell_of_row _ _ _ _ _ _ (block_ext hb hT)]; rfl
  have xf0 : ∀ w', Below W0.heap.size W0 w' → w'.cell? ⟨w.heap.size + 1 + 1 + 1, 0, none⟩ = some (.int .i64 x.1) := fun w' hb => by rw [cell_of_row _ _ _ _ _ _ (block_ext hb hF)]; rfl
  have xf1 : ∀ w', Below W0.heap.size W0 w' → w'.cell? ⟨w.heap.size + 1 + 1 + 1, 1, none⟩ = some (.bool x.2.1) := fun w' hb => by rw [cell_of_row _ _ _ _ _ _ (block_ext hb hF)]; rfl
  have xf2 : ∀ w', Below W0.heap.size W0 w' → w'.cell? ⟨w.heap.size + 1 + 1 + 1, 2, none⟩ = some (.int .i64 x.2.2) := fun w' hb => by rw [cell_of_row _ _ _ _ _ _ (block_ext hb hF)]; rfl
  clear hM hS hT hF
  have E0 : Below W0.heap.size W0 W0 := Below.refl _ _
  go_enter Try.func3, Try.ntmps3
  go_wp2
  have km0 := fun q : ExtW W0 => xm0 _ q.ext
  have km1 := fun q : ExtW W0 => xm1 _ q.ext
  have km2 := fun q : ExtW W0 => xm2 _ q.ext
  have km3 := fun q : ExtW W0 => xm3 _ q.ext
  have ks0 := fun q : ExtW W0 => xs0 _ q.ext
  have ks1 := fun q : ExtW W0 => xs1 _ q.ext
  have ks2 := fun q : ExtW W0 => xs2 _ q.ext
  have ks3 := fun q : ExtW W0 => xs3 _ q.ext
  have ks4 := fun q : ExtW W0 => xs4 _ q.ext
  have kt0 := fun q : ExtW W0 => xt0 _ q.ext
  have kt1 := fun q : ExtW W0 => xt1 _ q.ext
  have kt2 := fun q : ExtW W0 => xt2 _ q.ext
  have kt3 := fun q : ExtW W0 => xt3 _ q.ext
  have kt4 := fun q : ExtW W0 => xt4 _ q.ext
  have kf0 := fun q : ExtW W0 => xf0 _ q.ext
  have kf1 := fun q : ExtW W0 => xf1 _ q.ext
  have kf2 := fun q : ExtW W0 => xf2 _ q.ext
  go_cut [27] (fun s27 wx => ∃ v : Int, s27 = .bool (decide (300 < (n1 : Int) + (n2 : Int) + v)) ∧ 0 ≤ v ∧ (v ≤ 300 → BigOK 300 ⟨s, sa, ns, cs⟩ ∧ BigOK 300 ⟨t, ta, nt, ct⟩) ∧ Below W0.heap.size W0 wx)
  case first =>
    clear xm0 xm1 xm2 xm3 xs0 xs1 xs2 xs3 xs4 xt0 xt1 xt2 xt3 xt4 xf0 xf1 xf2
    refine z_start (fun w' => ∃ n : ExtW W0, w' = n.val) (by kernel_rfl) ?_
    obtain ⟨v0, F0, hv0⟩ : ∃ v0, Below W0.heap.size W0 v0 ∧ W0.drew = v0 := ⟨_, ext_drewN (Below.refl _ _) 1, rfl⟩
    rw [hv0]
    clear hv0
    refine z_reads 0 1 (by kernel_rfl) ⟨⟨_, F0⟩, rfl⟩ ?_
    simp only [List.take_succ_cons, List.take_zero, List.drop_succ_cons, List.drop_zero]
    repeat (go_big_quiet_step (fail))
    refine wpQuiet_nil ?_
    refine z_reads 2 2 (by kernel_rfl) ⟨⟨_, F0⟩, rfl⟩ ?_
    simp only [List.take_succ_cons, List.take_zero, List.drop_succ_cons, List.drop_zero]
    repeat (go_big_quiet_step (fail))
    refine wpQuiet_nil ?_
    refine z_two 1 4 (by kernel_rfl) ?_ ?_
    · refine wpOp_at rfl rfl ?_
      go_simp
      refine (machineOf_any m a1 a2 n1 c1 n2 c2 v0 l1 l2).mono ?_
      rintro e v1 ⟨rfl, hb⟩
      have F1 : Below W0.heap.size W0 v1 := ext_trans F0 hb
      refine ⟨Or.inr ⟨⟨_, F1⟩, rfl⟩, ?_⟩
      try simp only [Act.put, List.setIfInBounds_toArray, List.set_cons_succ, List.set_cons_zero]
      clear hb
      refine z_one 4 (by kernel_rfl) ?_
      refine wpOp_at rfl rfl ?_
      go_simp
      have F2 : Below W0.heap.size W0 (v1.alloc (.cells #[.slice sa ns cs, .int .i64 s.kind, .int .i64 s.a, .int .i64 s.to0, .int .i64 s.to1, .slice ta nt ct, .int .i64 t.kind, .int .i64 t.a, .int .i64 t.to0, .int .i64 t.to1] 31)) := ext_trans F1 (ext_alloc _ _)
      have FB := heap_alloc_new v1 (.cells #[.slice sa ns cs, .int .i64 s.kind, .int .i64 s.a, .int .i64 s.to0, .int .i64 s.to1, .slice ta nt ct, .int .i64 t.kind, .int .i64 t.a, .int .i64 t.to0, .int .i64 t.to1] 31)
      refine ⟨Or.inr ⟨⟨_, F2⟩, rfl⟩, ?_⟩
      try simp only [Act.put, List.setIfInBounds_toArray, List.set_cons_succ, List.set_cons_zero]
      generalize v1.heap.size = gB at *
      generalize v1.alloc (.cells #[.slice sa ns cs, .int .i64 s.kind, .int .i64 s.a, .int .i64 s.to0, .int .i64 s.to1, .slice ta nt ct, .int .i64 t.kind, .int .i64 t.a, .int .i64 t.to0, .int .i64 t.to1] 31) = v2 at *
      refine z_one 5 (by kernel_rfl) ?_
      have hbs : BlkS v2 (some ⟨gB, 0, none⟩) 2 [⟨s, sa, ns, cs⟩, ⟨t, ta, nt, ct⟩] := ⟨recs_lit (ls := [⟨s, sa, ns, cs⟩, ⟨t, ta, nt, ct⟩]) _ gB _ _ _ FB blkC_len rfl (by simp), fun b hb => by
        have hE := ext_trans HW0.out F2
        rcases List.mem_cons.1 hb with rfl | hb
        · exact HS.out.1.ext hE
        · rw [List.mem_singleton] at hb; subst hb; exact HT.out.1.ext hE⟩
      refine wpOp_at rfl rfl ?_
      go_simp
      refine (blocksOf_any2 (some ⟨gB, 0, none⟩) 2 2 [⟨s, sa, ns, cs⟩, ⟨t, ta, nt, ct⟩] 300 (by omega) (by omega) v2 hbs).mono ?_
      rintro e v3 ⟨v, rfl, hv0, hv1, hv2, rfl⟩
      refine ⟨Or.inr ⟨⟨_, F2⟩, rfl⟩, ?_⟩
      try simp only [Act.put, List.setIfInBounds_toArray, List.set_cons_succ, List.set_cons_zero]
      have hsum : IntKind.i64.wrap ((n1 : Int) + (n2 : Int) + v) = (n1 : Int) + (n2 : Int) + v := IntWalk.i64_in _ (by omega)
      refine z_reads 6 2 (by kernel_rfl) ⟨⟨_, F2⟩, rfl⟩ ?_
      simp only [List.take_succ_cons, List.take_zero, List.drop_succ_cons, List.drop_zero]
      repeat (go_big_quiet_step (fail))
      refine wpQuiet_nil ?_
      refine z_done (by kernel_rfl) ?_
      go_wp2_with fail
      go_meet
      exact ⟨v, rfl, hv0, fun h => ⟨hv2 h ⟨s, sa, ns, cs⟩ (by simp), hv2 h ⟨t, ta, nt, ct⟩ (by simp)⟩, F2⟩
    · refine wpOp_at rfl rfl ?_
      go_simp
      have F1 : Below W0.heap.size W0 (v0.alloc (.cells #[.slice sa ns cs, .int .i64 s.kind, .int .i64 s.a, .int .i64 s.to0, .int .i64 s.to1, .slice ta nt ct, .int .i64 t.kind, .int .i64 t.a, .int .i64 t.to0, .int .i64 t.to1] 31)) := ext_trans F0 (ext_alloc _ _)
      have FB := heap_alloc_new v0 (.cells #[.slice sa ns cs, .int .i64 s.kind, .int .i64 s.a, .int .i64 s.to0, .int .i64 s.to1, .slice ta nt ct, .int .i64 t.kind, .int .i64 t.a, .int .i64 t.to0, .int .i64 t.to1] 31)
      refine ⟨Or.inr ⟨⟨_, F1⟩, rfl⟩, ?_⟩
      try simp only [Act.put, List.setIfInBounds_toArray, List.set_cons_succ, List.set_cons_zero]
      generalize v0.heap.size = gB at *
      generalize v0.alloc (.cells #[.slice sa ns cs, .int .i64 s.kind, .int .i64 s.a, .int .i64 s.to0, .int .i64 s.to1, .slice ta nt ct, .int .i64 t.kind, .int .i64 t.a, .int .i64 t.to0, .int .i64 t.to1] 31) = v1 at *
      refine z_one 1 (by kernel_rfl) ?_
      refine wpOp_at rfl rfl ?_
      go_simp
      refine (machineOf_any m a1 a2 n1 c1 n2 c2 v1 l1 l2).mono ?_
      rintro e v2 ⟨rfl, hb⟩
      have F2 : Below W0.heap.size W0 v2 := ext_trans F1 hb
      replace FB := block_ext hb FB
      refine ⟨Or.inr ⟨⟨_, F2⟩, rfl⟩, ?_⟩
      try simp only [Act.put, List.setIfInBounds_toArray, List.set_cons_succ, List.set_cons_zero]
      clear hb
      refine z_one 5 (by kernel_rfl) ?_
      have hbs : BlkS v2 (some ⟨gB, 0, none⟩) 2 [⟨s, sa, ns, cs⟩, ⟨t, ta, nt, ct⟩] := ⟨recs_lit (ls := [⟨s, sa, ns, cs⟩, ⟨t, ta, nt, ct⟩]) _ gB _ _ _ FB blkC_len rfl (by simp), fun b hb => by
        have hE := ext_trans HW0.out F2
        rcases List.mem_cons.1 hb with rfl | hb
        · exact HS.out.1.ext hE
        · rw [List.mem_singleton] at hb; subst hb; exact HT.out.1.ext hE⟩
      refine wpOp_at rfl rfl ?_
      go_simp
      refine (blocksOf_any2 (some ⟨gB, 0, none⟩) 2 2 [⟨s, sa, ns, cs⟩, ⟨t, ta, nt, ct⟩] 300 (by omega) (by omega) v2 hbs).mono ?_
      rintro e v3 ⟨v, rfl, hv0, hv1, hv2, rfl⟩
      refine ⟨Or.inr ⟨⟨_, F2⟩, rfl⟩, ?_⟩
      try simp only [Act.put, List.setIfInBounds_toArray, List.set_cons_succ, List.set_cons_zero]
      have hsum : IntKind.i64.wrap ((n1 : Int) + (n2 : Int) + v) = (n1 : Int) + (n2 : Int) + v := IntWalk.i64_in _ (by omega)
      refine z_reads 6 2 (by kernel_rfl) ⟨⟨_, F2⟩, rfl⟩ ?_
      simp only [List.take_succ_cons, List.take_zero, List.drop_succ_cons, List.drop_zero]
      repeat (go_big_quiet_step (fail))
      refine wpQuiet_nil ?_
      refine z_done (by kernel_rfl) ?_
      go_wp2_with fail
      go_meet
      exact ⟨v, rfl, hv0, fun h => ⟨hv2 h ⟨s, sa, ns, cs⟩ (by simp), hv2 h ⟨t, ta, nt, ct⟩ (by simp)⟩, F2⟩
  case rest =>
    obtain ⟨v, rfl, hv0, hv, E2⟩ := hcut
    obtain ⟨w2, rfl⟩ : ∃ w2, w2 = wc := ⟨_, rfl⟩
    clear km0 km1 km2 km3 ks0 ks1 ks2 ks3 ks4 kt0 kt1 kt2 kt3 kt4 kf0 kf1 kf2
    cases hbig : decide (300 < (n1 : Int) + (n2 : Int) + v) with
    | true =>
      clear xm0 xm1 xm2 xm3 xs0 xs1 xs2 xs3 xs4 xt0 xt1 xt2 xt3 xt4 xf0 xf1 xf2
      go_wp2_with (go_at_call 7; refine (awake_any _).mono ?_; rintro e w3 ⟨rfl, E3⟩)
      go_ret
      exact ⟨rfl, ext_trans HW0.out (ext_trans E2 E3)⟩
    | false =>
      have hbig2 : ¬ 300 < (n1 : Int) + (n2 : Int) + v := by simpa using hbig
      obtain ⟨⟨hs1, hs2⟩, ht1, ht2⟩ := hv (by omega)
      have hns : ns ≤ 300 := by have : (ns : Int) ≤ 300 := hs1; omega
      have hnt : nt ≤ 300 := by have : (nt : Int) ≤ 300 := ht1; omega
      have HNs : Hid (∀ r ∈ s.ins, r.na ≤ 1000000) := fun r hr => by have := hs2 r hr; omega
      have HNt : Hid (∀ r ∈ t.ins, r.na ≤ 1000000) := fun r hr => by have := ht2 r hr; omega
      have HMk := Lib.hid (HM.out.ok (by omega) (by omega))
      have HSk := Lib.hid (HS.out.ok hns)
      have HTk := Lib.hid (HT.out.ok hnt)
      clear hs1 hs2 ht1 ht2 hv hbig2
      go_wp2
      have km0 := fun q : ExtW w2 => xm0 _ (ext_trans E2 q.ext)
      have km1 := fun q : ExtW w2 => xm1 _ (ext_trans E2 q.ext)
      have km2 := fun q : ExtW w2 => xm2 _ (ext_trans E2 q.ext)
      have km3 := fun q : ExtW w2 => xm3 _ (ext_trans E2 q.ext)
      have ks0 := fun q : ExtW w2 => xs0 _ (ext_trans E2 q.ext)
      have ks1 := fun q : ExtW w2 => xs1 _ (ext_trans E2 q.ext)
      have ks2 := fun q : ExtW w2 => xs2 _ (ext_trans E2 q.ext)
      have ks3 := fun q : ExtW w2 => xs3 _ (ext_trans E2 q.ext)
      have ks4 := fun q : ExtW w2 => xs4 _ (ext_trans E2 q.ext)
      have kt0 := fun q : ExtW w2 => xt0 _ (ext_trans E2 q.ext)
      have kt1 := fun q : ExtW w2 => xt1 _ (ext_trans E2 q.ext)
      have kt2 := fun q : ExtW w2 => xt2 _ (ext_trans E2 q.ext)
      have kt3 := fun q : ExtW w2 => xt3 _ (ext_trans E2 q.ext)
      have kt4 := fun q : ExtW w2 => xt4 _ (ext_trans E2 q.ext)
      have kf0 := fun q : ExtW w2 => xf0 _ (ext_trans E2 q.ext)
      have kf1 := fun q : ExtW w2 => xf1 _ (ext_trans E2 q.ext)
      have kf2 := fun q : ExtW w2 => xf2 _ (ext_trans E2 q.ext)
      go_cut [11, 12, 13] (fun s11 s12 s13 wx => ∃ p11 p12 p13 g1 k1 g2 k2 gs ks rs gt kt ts, s11 = .pointer (some ⟨p11, 0, none⟩) ∧ s12 = .pointer (some ⟨p12, 0, none⟩) ∧ s13 = .pointer (some ⟨p13, 0, none⟩) ∧ Hid (wx.heap[p11]? = some (machO m (some ⟨g1, 0, none⟩) n1 k1 (some ⟨g2, 0, none⟩) n2 k2)) ∧ Hid (wx.heap[p12]? = some (blkO s (some ⟨gs, 0, none⟩) ns ks)) ∧ Hid (wx.heap[p13]? = some (blkO t (some ⟨gt, 0, none⟩) nt kt)) ∧ Hid (LentM wx w2.heap.size m (.slice (some ⟨g1, 0, none⟩) n1 k1) (.slice (some ⟨g2, 0, none⟩) n2 k2)) ∧ Hid (LentRow wx w2.heap.size (.slice (some ⟨gs, 0, none⟩) ns ks) s.ins rs) ∧ Hid (LentRow wx w2.heap.size (.slice (some ⟨gt, 0, none⟩) nt kt) t.ins ts) ∧ Below W0.heap.size W0 wx)
      case first =>
        clear xm0 xm1 xm2 xm3 xs0 xs1 xs2 xs3 xs4 xt0 xt1 xt2 xt3 xt4 xf0 xf1 xf2
        refine z_start (fun w' => ∃ n : ExtW w2, w' = n.val) (by kernel_rfl) ?_
        obtain ⟨v0, F0, hv0⟩ : ∃ v0, Below w2.heap.size w2 v0 ∧ w2.drew = v0 := ⟨_, ext_drewN (Below.refl _ _) 1, rfl⟩
        rw [hv0]
        clear hv0
        refine z_reads 0 1 (by kernel_rfl) ⟨⟨_, F0⟩, rfl⟩ ?_
        simp only [List.take_succ_cons, List.take_zero, List.drop_succ_cons, List.drop_zero]
        repeat (go_big_quiet_step (fail))
        refine wpQuiet_nil ?_
        refine z_reads 2 1 (by kernel_rfl) ⟨⟨_, F0⟩, rfl⟩ ?_
        simp only [List.take_succ_cons, List.take_zero, List.drop_succ_cons, List.drop_zero]
        repeat (go_big_quiet_step (fail))
        refine wpQuiet_nil ?_
        refine z_reads 4 1 (by kernel_rfl) ⟨⟨_, F0⟩, rfl⟩ ?_
        simp only [List.take_succ_cons, List.take_zero, List.drop_succ_cons, List.drop_zero]
        repeat (go_big_quiet_step (fail))
        refine wpQuiet_nil ?_
        clear km0 km1 km2 km3 ks0 ks1 ks2 ks3 ks4 kt0 kt1 kt2 kt3 kt4 kf0 kf1 kf2
        refine z_sets [1, 3, 5, 6, 7, 8] 6 6 3 #[true, true, true, true, true, true, true, true, true, false, false, false] (by kernel_rfl) (fun a0 L a w' => ∃ v30 v32 v34 v11 v12 v13, a = putMany a0 [(30, v30), (32, v32), (34, v34), (11, v11), (12, v12), (13, v13)] ∧ Below w2.heap.size w2 w' ∧ LmP w2.heap.size m n1 n2 (L.getD 1 false) v30 w' ∧ LbP w2.heap.size s ns (L.getD 3 false) v32 w' ∧ LbP w2.heap.size t nt (L.getD 5 false) v34 w' ∧ PtP w2.heap.size zeroMach (L.getD 6 false) v11 w' ∧ PtP w2.heap.size zeroBlk (L.getD 7 false) v12 w' ∧ PtP w2.heap.size zeroBlk (L.getD 8 false) v13 w' ∧ (L.getD 7 false = true → L.getD 8 false = true → v12 ≠ v13)) ?_ ?_ ?_
        · exact ⟨u30, u32, u34, undef, undef, undef, rfl, F0, imp_false (by kernel_rfl), imp_false (by kernel_rfl), imp_false (by kernel_rfl), imp_false (by kernel_rfl), imp_false (by kernel_rfl), imp_false (by kernel_rfl), imp_false (by kernel_rfl)⟩
        · intro L e he hLe hsz hr a w' hJ
          obtain ⟨v30, v32, v34, v11, v12, v13, rfl, hB, hL1, hL3, hL5, hP6, hP7, hP8, hne⟩ := hJ
          clear hr
          simp only [List.mem_cons, List.not_mem_nil, or_false] at he
          rcases he with rfl | rfl | rfl | rfl | rfl | rfl
          · refine wpOp_atK rfl rfl fun K' hK' => ?_
            simp only [putMany, List.foldl_cons, List.foldl_nil, List.setIfInBounds_toArray, List.set_cons_succ, List.set_cons_zero]
            go_simp
            refine (lentMach_any m a1 a2 n1 c1 n2 c2 w' (((HMk.out.ext HW0.out).ext E2).ext hB)).mono ?_
            rintro e w3 ⟨g1, k1, g2, k2, rfl, hl, hb⟩
            have F1 := ext_trans hB hb
            refine hK' _ _ ⟨Or.inr ⟨⟨_, F1⟩, rfl⟩, _, v32, v34, v11, v12, v13, rfl, F1, by rw [getD_set_eq L 1 (by rw [hsz]; decide)]; exact (fun _ => ⟨g1, k1, g2, k2, rfl, hl.1.mono hB.size, hl.2.mono hB.size⟩), by rw [getD_set_ne L 1 3 (by omega)]; exact hL3.ext hb, by rw [getD_set_ne L 1 5 (by omega)]; exact hL5.ext hb, by rw [getD_set_ne L 1 6 (by omega)]; exact hP6.ext hb, by rw [getD_set_ne L 1 7 (by omega)]; exact hP7.ext hb, by rw [getD_set_ne L 1 8 (by omega)]; exact hP8.ext hb, by rw [getD_set_ne L 1 7 (by omega), getD_set_ne L 1 8 (by omega)]; exact hne⟩
          · refine wpOp_atK rfl rfl fun K' hK' => ?_
            simp only [putMany, List.foldl_cons, List.foldl_nil, List.setIfInBounds_toArray, List.set_cons_succ, List.set_cons_zero]
            go_simp
            refine (lentBlk_any s sa ns cs w' (((HSk.out.ext HW0.out).ext E2).ext hB) HNs.out).mono ?_
            rintro e w3 ⟨g, k, rs, rfl, hl, hb⟩
            have F1 := ext_trans hB hb
            refine hK' _ _ ⟨Or.inr ⟨⟨_, F1⟩, rfl⟩, v30, _, v34, v11, v12, v13, rfl, F1, by rw [getD_set_ne L 3 1 (by omega)]; exact hL1.ext hb, by rw [getD_set_eq L 3 (by rw [hsz]; decide)]; exact (fun _ => ⟨g, k, rs, rfl, hl.mono hB.size⟩), by rw [getD_set_ne L 3 5 (by omega)]; exact hL5.ext hb, by rw [getD_set_ne L 3 6 (by omega)]; exact hP6.ext hb, by rw [getD_set_ne L 3 7 (by omega)]; exact hP7.ext hb, by rw [getD_set_ne L 3 8 (by omega)]; exact hP8.ext hb, by rw [getD_set_ne L 3 7 (by omega), getD_set_ne L 3 8 (by omega)]; exact hne⟩
          · refine wpOp_atK rfl rfl fun K' hK' => ?_
            simp only [putMany, List.foldl_cons, List.foldl_nil, List.setIfInBounds_toArray, List.set_cons_succ, List.set_cons_zero]
            go_simp
            refine (lentBlk_any t ta nt ct w' (((HTk.out.ext HW0.out).ext E2).ext hB) HNt.out).mono ?_
            rintro e w3 ⟨g, k, rs, rfl, hl, hb⟩
            have F1 := ext_trans hB hb
            refine hK' _ _ ⟨Or.inr ⟨⟨_, F1⟩, rfl⟩, v30, v32, _, v11, v12, v13, rfl, F1, by rw [getD_set_ne L 5 1 (by omega)]; exact hL1.ext hb, by rw [getD_set_ne L 5 3 (by omega)]; exact hL3.ext hb, by rw [getD_set_eq L 5 (by rw [hsz]; decide)]; exact (fun _ => ⟨g, k, rs, rfl, hl.mono hB.size⟩), by rw [getD_set_ne L 5 6 (by omega)]; exact hP6.ext hb, by rw [getD_set_ne L 5 7 (by omega)]; exact hP7.ext hb, by rw [getD_set_ne L 5 8 (by omega)]; exact hP8.ext hb, by rw [getD_set_ne L 5 7 (by omega), getD_set_ne L 5 8 (by omega)]; exact hne⟩
          · refine wpOp_atK rfl rfl fun K' hK' => ?_
            simp only [putMany, List.foldl_cons, List.foldl_nil, List.setIfInBounds_toArray, List.set_cons_succ, List.set_cons_zero]
            refine op_allocB 24 rfl _ zero_mach ?_
            intro px w3 hb hpx FX
            have F1 := ext_trans hB hb
            have hpB : w2.heap.size ≤ px := by rw [hpx]; exact hB.size
            refine hK' _ _ ⟨Or.inr ⟨⟨_, F1⟩, rfl⟩, v30, v32, v34, _, v12, v13, rfl, F1, by rw [getD_set_ne L 6 1 (by omega)]; exact hL1.ext hb, by rw [getD_set_ne L 6 3 (by omega)]; exact hL3.ext hb, by rw [getD_set_ne L 6 5 (by omega)]; exact hL5.ext hb, by rw [getD_set_eq L 6 (by rw [hsz]; decide)]; exact (fun _ => ⟨px, rfl, hpB, FX⟩), by rw [getD_set_ne L 6 7 (by omega)]; exact hP7.ext hb, by rw [getD_set_ne L 6 8 (by omega)]; exact hP8.ext hb, by rw [getD_set_ne L 6 7 (by omega), getD_set_ne L 6 8 (by omega)]; exact hne⟩
          · refine wpOp_atK rfl rfl fun K' hK' => ?_
            simp only [putMany, List.foldl_cons, List.foldl_nil, List.setIfInBounds_toArray, List.set_cons_succ, List.set_cons_zero]
            refine op_allocB 31 rfl _ zero_blk ?_
            intro px w3 hb hpx FX
            have F1 := ext_trans hB hb
            have hpB : w2.heap.size ≤ px := by rw [hpx]; exact hB.size
            refine hK' _ _ ⟨Or.inr ⟨⟨_, F1⟩, rfl⟩, v30, v32, v34, v11, _, v13, rfl, F1, by rw [getD_set_ne L 7 1 (by omega)]; exact hL1.ext hb, by rw [getD_set_ne L 7 3 (by omega)]; exact hL3.ext hb, by rw [getD_set_ne L 7 5 (by omega)]; exact hL5.ext hb, by rw [getD_set_ne L 7 6 (by omega)]; exact hP6.ext hb, by rw [getD_set_eq L 7 (by rw [hsz]; decide)]; exact (fun _ => ⟨px, rfl, hpB, FX⟩), by rw [getD_set_ne L 7 8 (by omega)]; exact hP8.ext hb, fun _ h8 => by rw [getD_set_ne L 7 8 (by omega)] at h8; obtain ⟨p, rfl, _, hp⟩ := hP8 h8; have := (Array.getElem?_eq_some_iff.1 hp).1; intro e; injection e with e; injection e with e; injection e with e _ _; omega⟩
          · refine wpOp_atK rfl rfl fun K' hK' => ?_
            simp only [putMany, List.foldl_cons, List.foldl_nil, List.setIfInBounds_toArray, List.set_cons_succ, List.set_cons_zero]
            refine op_allocB 31 rfl _ zero_blk ?_
            intro px w3 hb hpx FX
            have F1 := ext_trans hB hb
            have hpB : w2.heap.size ≤ px := by rw [hpx]; exact hB.size
            refine hK' _ _ ⟨Or.inr ⟨⟨_, F1⟩, rfl⟩, v30, v32, v34, v11, v12, _, rfl, F1, by rw [getD_set_ne L 8 1 (by omega)]; exact hL1.ext hb, by rw [getD_set_ne L 8 3 (by omega)]; exact hL3.ext hb, by rw [getD_set_ne L 8 5 (by omega)]; exact hL5.ext hb, by rw [getD_set_ne L 8 6 (by omega)]; exact hP6.ext hb, by rw [getD_set_ne L 8 7 (by omega)]; exact hP7.ext hb, by rw [getD_set_eq L 8 (by rw [hsz]; decide)]; exact (fun _ => ⟨px, rfl, hpB, FX⟩), fun h7 _ => by rw [getD_set_ne L 8 7 (by omega)] at h7; obtain ⟨p, rfl, _, hp⟩ := hP7 h7; have := (Array.getElem?_eq_some_iff.1 hp).1; intro e; injection e with e; injection e with e; injection e with e _ _; omega⟩
        · intro a w' hJ
          obtain ⟨v30, v32, v34, v11, v12, v13, rfl, hB, hL1, hL3, hL5, hP6, hP7, hP8, hne⟩ := hJ
          obtain ⟨g1, k1, g2, k2, rfl, hlm⟩ := hL1 rfl
          obtain ⟨gs, ks, rs, rfl, hls⟩ := hL3 rfl
          obtain ⟨gt, kt, ts, rfl, hlt⟩ := hL5 rfl
          obtain ⟨p11, rfl, hb11, hh11⟩ := hP6 rfl
          obtain ⟨p12, rfl, hb12, hh12⟩ := hP7 rfl
          obtain ⟨p13, rfl, hb13, hh13⟩ := hP8 rfl
          have hne2 : p12 ≠ p13 := fun e => hne rfl rfl (by rw [e])
          have hne3 : p11 ≠ p12 := fun e => by
            rw [e, hh12] at hh11
            injection hh11 with hh11
            injection hh11 with _ e2 _
            exact absurd e2 (by decide)
          have hne4 : p11 ≠ p13 := fun e => by
            rw [e, hh13] at hh11
            injection hh11 with hh11
            injection hh11 with _ e2 _
            exact absurd e2 (by decide)
          clear hL1 hL3 hL5 hP6 hP7 hP8 hne
          simp only [putMany, List.foldl_cons, List.foldl_nil, List.setIfInBounds_toArray, List.set_cons_succ, List.set_cons_zero]
          refine z_one 9 (by kernel_rfl) ?_
          refine wpOp_at rfl rfl ?_
          refine op_store_rowC 24 _ _ rfl p11 (machA m (some ⟨g1, 0, none⟩) n1 k1 (some ⟨g2, 0, none⟩) n2 k2) rfl rfl 24 _ hh11 (by kernel_rfl) rfl (machA_one _ _ _ _ _ _ _) ?_
          intro w5 c5 X5
          have B5 : Below w2.heap.size w2 w5 := hB.trans (c5.below hB.size (fun k hk => by omega))
          have lm5 : LentM w5 w2.heap.size m (.slice (some ⟨g1, 0, none⟩) n1 k1) (.slice (some ⟨g2, 0, none⟩) n2 k2) := ⟨hlm.1.chgT c5 hh11 (by decide), hlm.2.chgT c5 hh11 (by decide)⟩
          have ls5 := hls.chgT c5 hh11 (by decide) (by decide)
          have lt5 := hlt.chgT c5 hh11 (by decide) (by decide)
          have y12 := c5.row hh12 (by omega)
          have y13 := c5.row hh13 (by omega)
          refine ⟨Or.inr ⟨⟨_, B5⟩, rfl⟩, ?_⟩
          try simp only [Act.put, List.setIfInBounds_toArray, List.set_cons_succ, List.set_cons_zero]
          refine z_one 10 (by kernel_rfl) ?_
          refine wpOp_at rfl rfl ?_
          refine op_store_rowC 31 _ _ rfl p12 (blkA s (some ⟨gs, 0, none⟩) ns ks) rfl rfl 31 _ y12 (by kernel_rfl) rfl (blkA_one _ _ _ _) ?_
          intro w6 c6 X6
          have B6 : Below w2.heap.size w2 w6 := B5.trans (c6.below B5.size (fun k hk => by omega))
          have lm6 : LentM w6 w2.heap.size m (.slice (some ⟨g1, 0, none⟩) n1 k1) (.slice (some ⟨g2, 0, none⟩) n2 k2) := ⟨lm5.1.chgT c6 y12 (by decide), lm5.2.chgT c6 y12 (by decide)⟩
          have ls6 := ls5.chgT c6 y12 (by decide) (by decide)
          have lt6 := lt5.chgT c6 y12 (by decide) (by decide)
          have X5' := c6.row X5 (by omega)
          have y13' := c6.row y13 (by omega)
          refine ⟨Or.inr ⟨⟨_, B6⟩, rfl⟩, ?_⟩
          try simp only [Act.put, List.setIfInBounds_toArray, List.set_cons_succ, List.set_cons_zero]
          refine z_one 11 (by kernel_rfl) ?_
          refine wpOp_at rfl rfl ?_
          refine op_store_rowC 31 _ _ rfl p13 (blkA t (some ⟨gt, 0, none⟩) nt kt) rfl rfl 31 _ y13' (by kernel_rfl) rfl (blkA_one _ _ _ _) ?_
          intro w7 c7 X7
          have B7 : Below w2.heap.size w2 w7 := B6.trans (c7.below B6.size (fun k hk => by omega))
          have lm7 : LentM w7 w2.heap.size m (.slice (some ⟨g1, 0, none⟩) n1 k1) (.slice (some ⟨g2, 0, none⟩) n2 k2) := ⟨lm6.1.chgT c7 y13' (by decide), lm6.2.chgT c7 y13' (by decide)⟩
          have ls7 := ls6.chgT c7 y13' (by decide) (by decide)
          have lt7 := lt6.chgT c7 y13' (by decide) (by decide)
          have X5'' := c7.row X5' (by omega)
          have X6' := c7.row X6 (by omega)
          refine ⟨Or.inr ⟨⟨_, B7⟩, rfl⟩, ?_⟩
          try simp only [Act.put, List.setIfInBounds_toArray, List.set_cons_succ, List.set_cons_zero]
          refine z_done (by kernel_rfl) ?_
          clear c5 c6 c7
          go_wp2_with fail
          go_meet
          exact ⟨p11, p12, p13, g1, k1, g2, k2, gs, ks, rs, gt, kt, ts, rfl, rfl, rfl, X5'', X6', X7, lm7, ls7, lt7, ext_trans E2 B7⟩
      case rest =>
        obtain ⟨p11, p12, p13, g1, k1, g2, k2, gs, ks, rs, gt, kt, ts, rfl, rfl, rfl, H11, H12, H13, HLM, HLS, HLT, E3⟩ := hcut
        obtain ⟨w3, rfl⟩ : ∃ w3, w3 = wc := ⟨_, rfl⟩
        clear km0 km1 km2 km3 ks0 ks1 ks2 ks3 ks4 kt0 kt1 kt2 kt3 kt4 kf0 kf1 kf2
        have HMl := Lib.hid (HLM.out.ok ((HMk.out.ext HW0.out).ext E3))
        have HSl := Lib.hid (HLS.out.blk ((HSk.out.ext HW0.out).ext E3))
        have HTl := Lib.hid (HLT.out.blk ((HTk.out.ext HW0.out).ext E3))
        obtain ⟨r, hr⟩ : ∃ r, before30B m s t n x = r := ⟨_, rfl⟩
        have HBf := Lib.hid hr
        have HBe : Hid (beforeB m (withI s rs) (withI t ts) n x = r) := by rw [Hid, before_lent m s t rs ts HLS.out.same HLT.out.same]; exact hr
        obtain ⟨ev, hev⟩ : ∃ ev, events30N m s t = ev := ⟨_, rfl⟩
        have HEf := Lib.hid hev
        have HEe : Hid (eventsN m (withI s rs) (withI t ts) = ev) := by rw [Hid, events_lent m s t rs ts HLS.out.same HLT.out.same]; exact hev
        clear hr hev
        have ym0 : ∀ w', Below w3.heap.size w3 w' → w'.cell? ⟨p11, 0, none⟩ = some (.int .i64 m.regs) := fun w' hb => by rw [cell_of_row _ _ _ _ _ _ (block_ext hb H11.out)]; rfl
        have ym1 : ∀ w', Below w3.heap.size w3 w' → w'.cell? ⟨p11, 1, none⟩ = some (.slice (some ⟨g1, 0, none⟩) n1 k1) := fun w' hb => by rw [cell_of_row _ _ _ _ _ _ (block_ext hb H11.out)]; rfl
        have ym2 : ∀ w', Below w3.heap.size w3 w' → w'.cell? ⟨p11, 2, none⟩ = some (.int .i64 m.ret) := fun w' hb => by rw [cell_of_row _ _ _ _ _ _ (block_ext hb H11.out)]; rfl
        have ym3 : ∀ w', Below w3.heap.size w3 w' → w'.cell? ⟨p11, 3, none⟩ = some (.slice (some ⟨g2, 0, none⟩) n2 k2) := fun w' hb => by rw [cell_of_row _ _ _ _ _ _ (block_ext hb H11.out)]; rfl
        have ys0 : ∀ w', Below w3.heap.size w3 w' → w'.cell? ⟨p12, 0, none⟩ = some (.slice (some ⟨gs, 0, none⟩) ns ks) := fun w' hb => by rw [cell_of_row _ _ _ _ _ _ (block_ext hb H12.out)]; rfl
        have ys1 : ∀ w', Below w3.heap.size w3 w' → w'.cell? ⟨p12, 1, none⟩ = some (.int .i64 s.kind) := fun w' hb => by rw [cell_of_row _ _ _ _ _ _ (block_ext hb H12.out)]; rfl
        have ys2 : ∀ w', Below w3.heap.size w3 w' → w'.cell? ⟨p12, 2, none⟩ = some (.int .i64 s.a) := fun w' hb => by rw [cell_of_row _ _ _ _ _ _ (block_ext hb H12.out)]; rfl
        have ys3 : ∀ w', Below w3.heap.size w3 w' → w'.cell? ⟨p12, 3, none⟩ = some (.int .i64 s.to0) := fun w' hb => by rw [cell_of_row _ _ _ _ _ _ (block_ext hb H12.out)]; rfl
        have ys4 : ∀ w', Below w3.heap.size w3 w' → w'.cell? ⟨p12, 4, none⟩ = some (.int .i64 s.to1) := fun w' hb => by rw [cell_of_row _ _ _ _ _ _ (block_ext hb H12.out)]; rfl
        have yt0 : ∀ w', Below w3.heap.size w3 w' → w'.cell? ⟨p13, 0, none⟩ = some (.slice (some ⟨gt, 0, none⟩) nt kt) := fun w' hb => by rw [cell_of_row _ _ _ _ _ _ (block_ext hb H13.out)]; rfl
        have yt1 : ∀ w', Below w3.heap.size w3 w' → w'.cell? ⟨p13, 1, none⟩ = some (.int .i64 t.kind) := fun w' hb => by rw [cell_of_row _ _ _ _ _ _ (block_ext hb H13.out)]; rfl
        have yt2 : ∀ w', Below w3.heap.size w3 w' → w'.cell? ⟨p13, 2, none⟩ = some (.int .i64 t.a) := fun w' hb => by rw [cell_of_row _ _ _ _ _ _ (block_ext hb H13.out)]; rfl
        have yt3 : ∀ w', Below w3.heap.size w3 w' → w'.cell? ⟨p13, 3, none⟩ = some (.int .i64 t.to0) := fun w' hb => by rw [cell_of_row _ _ _ _ _ _ (block_ext hb H13.out)]; rfl
        have yt4 : ∀ w', Below w3.heap.size w3 w' → w'.cell? ⟨p13, 4, none⟩ = some (.int .i64 t.to1) := fun w' hb => by rw [cell_of_row _ _ _ _ _ _ (block_ext hb H13.out)]; rfl
        have F3 : Below w3.heap.size w3 w3 := Below.refl _ _
        go_wp2_with (first
          | (go_at_call 10
             go_loud (
               refine (before_any2 m (some ⟨g1, 0, none⟩) (some ⟨g2, 0, none⟩) n1 k1 n2 k2 (withI s rs) (withI t ts) (some ⟨gs, 0, none⟩) (some ⟨gt, 0, none⟩) ns ks nt kt n x w3 HMl.out HSl.out HTl.out HX.out).mono ?_
               rw [HBe.out]
               rintro e w4 ⟨rfl, F4⟩))
          | (go_at_call 11
             go_loud (
               refine (before30_any2 m a1 a2 n1 c1 n2 c2 s t sa ta ns cs nt ct n x w5 ((HMk.out.ext HW0.out).ext E5) ((HSk.out.ext HW0.out).ext E5) ((HTk.out.ext HW0.out).ext E5)).mono ?_
               rw [HBf.out]
               rintro e w6 ⟨rfl, hb6⟩
               have F6 : Below w3.heap.size w3 w6 := ext_trans F5 hb6
               have HP15b := Lib.hid (block_ext hb6 HP15.out)
               clear hb6))
          | (refine wpList_store_rowB rfl 35 _ _ rfl w6.heap.size #[.int .i64 r.2.1.1, .bool r.2.1.2.1, .int .i64 r.2.1.2.2] rfl rfl 35 _ (heap_alloc_new w6 _) (by kernel_rfl) rfl (by simp [Value.oneCell']) w6.heap.size w6 (ext_alloc w6 _) (Nat.le_refl _) ?_
             intro w7 hb7 X7
             have F7 : Below w3.heap.size w3 w7 := ext_trans F6 hb7
             have E7 : Below W0.heap.size W0 w7 := ext_trans E3 F7
             have HP15c := Lib.hid (block_ext hb7 HP15b.out)
             have HP18 := Lib.hid X7
             clear hb7 X7)
          | (refine wpList_store_rowB rfl 35 _ _ rfl w4.heap.size #[.int .i64 r.2.1.1, .bool r.2.1.2.1, .int .i64 r.2.1.2.2] rfl rfl 35 _ (heap_alloc_new w4 _) (by kernel_rfl) rfl (by simp [Value.oneCell']) w4.heap.size w4 (ext_alloc w4 _) (Nat.le_refl _) ?_
             intro w5 hb5 X5
             have F5 : Below w3.heap.size w3 w5 := ext_trans F4 hb5
             have E5 : Below W0.heap.size W0 w5 := ext_trans E3 F5
             have HP15 := Lib.hid X5
             clear hb5 X5))
        have jm0 := fun q : ExtW w7 => xm0 _ (ext_trans E7 q.ext)
        have jm1 := fun q : ExtW w7 => xm1 _ (ext_trans E7 q.ext)
        have jm2 := fun q : ExtW w7 => xm2 _ (ext_trans E7 q.ext)
        have jm3 := fun q : ExtW w7 => xm3 _ (ext_trans E7 q.ext)
        have js0 := fun q : ExtW w7 => xs0 _ (ext_trans E7 q.ext)
        have js1 := fun q : ExtW w7 => xs1 _ (ext_trans E7 q.ext)
        have js2 := fun q : ExtW w7 => xs2 _ (ext_trans E7 q.ext)
        have js3 := fun q : ExtW w7 => xs3 _ (ext_trans E7 q.ext)
        have js4 := fun q : ExtW w7 => xs4 _ (ext_trans E7 q.ext)
        have jt0 := fun q : ExtW w7 => xt0 _ (ext_trans E7 q.ext)
        have jt1 := fun q : ExtW w7 => xt1 _ (ext_trans E7 q.ext)
        have jt2 := fun q : ExtW w7 => xt2 _ (ext_trans E7 q.ext)
        have jt3 := fun q : ExtW w7 => xt3 _ (ext_trans E7 q.ext)
        have jt4 := fun q : ExtW w7 => xt4 _ (ext_trans E7 q.ext)
        have lm0 := fun q : ExtW w7 => ym0 _ (ext_trans F7 q.ext)
        have lm1 := fun q : ExtW w7 => ym1 _ (ext_trans F7 q.ext)
        have lm2 := fun q : ExtW w7 => ym2 _ (ext_trans F7 q.ext)
        have lm3 := fun q : ExtW w7 => ym3 _ (ext_trans F7 q.ext)
        have ls0 := fun q : ExtW w7 => ys0 _ (ext_trans F7 q.ext)
        have ls1 := fun q : ExtW w7 => ys1 _ (ext_trans F7 q.ext)
        have ls2 := fun q : ExtW w7 => ys2 _ (ext_trans F7 q.ext)
        have ls3 := fun q : ExtW w7 => ys3 _ (ext_trans F7 q.ext)
        have ls4 := fun q : ExtW w7 => ys4 _ (ext_trans F7 q.ext)
        have lt0 := fun q : ExtW w7 => yt0 _ (ext_trans F7 q.ext)
        have lt1 := fun q : ExtW w7 => yt1 _ (ext_trans F7 q.ext)
        have lt2 := fun q : ExtW w7 => yt2 _ (ext_trans F7 q.ext)
        have lt3 := fun q : ExtW w7 => yt3 _ (ext_trans F7 q.ext)
        have lt4 := fun q : ExtW w7 => yt4 _ (ext_trans F7 q.ext)
        have u15_0 : ∀ q : ExtW w7, q.val.cell? ⟨w4.heap.size, 0, none⟩ = some (.int .i64 r.2.1.1) := fun q => by rw [cell_of_row _ _ _ _ _ _ (block_ext q.ext HP15c.out)]; rfl
        have u15_1 : ∀ q : ExtW w7, q.val.cell? ⟨w4.heap.size, 1, none⟩ = some (.bool r.2.1.2.1) := fun q => by rw [cell_of_row _ _ _ _ _ _ (block_ext q.ext HP15c.out)]; rfl
        have u15_2 : ∀ q : ExtW w7, q.val.cell? ⟨w4.heap.size, 2, none⟩ = some (.int .i64 r.2.1.2.2) := fun q => by rw [cell_of_row _ _ _ _ _ _ (block_ext q.ext HP15c.out)]; rfl
        have u18_0 : ∀ q : ExtW w7, q.val.cell? ⟨w6.heap.size, 0, none⟩ = some (.int .i64 r.2.1.1) := fun q => by rw [cell_of_row _ _ _ _ _ _ (block_ext q.ext HP18.out)]; rfl
        have u18_1 : ∀ q : ExtW w7, q.val.cell? ⟨w6.heap.size, 1, none⟩ = some (.bool r.2.1.2.1) := fun q => by rw [cell_of_row _ _ _ _ _ _ (block_ext q.ext HP18.out)]; rfl
        have u18_2 : ∀ q : ExtW w7, q.val.cell? ⟨w6.heap.size, 2, none⟩ = some (.int .i64 r.2.1.2.2) := fun q => by rw [cell_of_row _ _ _ _ _ _ (block_ext q.ext HP18.out)]; rfl
        have hq : ∀ w, (binOp .eql 35 (.agg #[.int .i64 r.2.1.1, .bool r.2.1.2.1, .int .i64 r.2.1.2.2]) (.agg #[.int .i64 r.2.1.1, .bool r.2.1.2.1, .int .i64 r.2.1.2.2])).run Try.prog w = .ok (.bool true) w := fun w => by rw [eql_fact w r.2.1 r.2.1]; simp [sameFact]
        have cE1 : Hid (∀ q : ExtW w7, Calls Try.prog 12 #[machV m (some ⟨g1, 0, none⟩) n1 k1 (some ⟨g2, 0, none⟩) n2 k2, blkV s (some ⟨gs, 0, none⟩) ns ks, blkV t (some ⟨gt, 0, none⟩) nt kt] q.val fun e w' => e = .returned (.int .i64 ev) ∧ Below q.val.heap.size q.val w') := fun q => by
          have h := eventsN_any m (some ⟨g1, 0, none⟩) (some ⟨g2, 0, none⟩) n1 k1 n2 k2 (withI s rs) (withI t ts) (some ⟨gs, 0, none⟩) (some ⟨gt, 0, none⟩) ns ks nt kt q.val ((HMl.out.ext F7).ext q.ext) ((HSl.out.ext F7).ext q.ext) ((HTl.out.ext F7).ext q.ext)
          rw [HEe.out] at h
          exact h
        have cE2 : Hid (∀ q : ExtW w7, Calls Try.prog 13 #[machV m a1 n1 c1 a2 n2 c2, blkV s sa ns cs, blkV t ta nt ct] q.val fun e w' => e = .returned (.int .i64 ev) ∧ Below q.val.heap.size q.val w') := fun q => by
          have h := events30N_any m a1 a2 n1 c1 n2 c2 s t sa ta ns cs nt ct q.val (((HMk.out.ext HW0.out).ext E7).ext q.ext) (((HSk.out.ext HW0.out).ext E7).ext q.ext) (((HTk.out.ext HW0.out).ext E7).ext q.ext)
          rw [HEf.out] at h
          exact h
        have cKm := Lib.hid (fun q : ExtW w7 => keptMach_any m w2.heap.size g1 g2 a1 a2 n1 n2 k1 k2 c1 c2 q.val ⟨(HLM.out.1.ext F7).ext q.ext, (HLM.out.2.ext F7).ext q.ext⟩ (((HMk.out.ext HW0.out).ext E7).ext q.ext))
        have cKs := Lib.hid (fun q : ExtW w7 => keptBlk_any s rs w2.heap.size gs ks sa ns cs q.val ((HLS.out.ext F7).ext q.ext) (((HSk.out.ext HW0.out).ext E7).ext q.ext) HNs.out)
        have cKt := Lib.hid (fun q : ExtW w7 => keptBlk_any t ts w2.heap.size gt kt ta nt ct q.val ((HLT.out.ext F7).ext q.ext) (((HTk.out.ext HW0.out).ext E7).ext q.ext) HNt.out)
        clear xm0 xm1 xm2 xm3 xs0 xs1 xs2 xs3 xs4 xt0 xt1 xt2 xt3 xt4 xf0 xf1 xf2 ym0 ym1 ym2 ym3 ys0 ys1 ys2 ys3 ys4 yt0 yt1 yt2 yt3 yt4
        refine region_ext (by kernel_rfl) (by kernel_rfl) ?_
        repeat (go_big_quiet_step (first
          | (go_at_call 12; exact quiet_ext (cE1.out _))
          | (go_at_call 13; exact quiet_ext (cE2.out _))
          | (go_at_call 14; exact quiet_ext (cKm.out _))
          | (go_at_call 15; (first | (with_reducible exact quiet_ext (cKs.out _)) | (with_reducible exact quiet_ext (cKt.out _))))
          | (go_at_call 7; exact quiet_ext (awake_any _))))
        refine wpQuiet_nil ?_
        rintro _ ⟨q, rfl⟩
        have HQ := Lib.hid (ext_trans (ext_trans HW0.out E7) q.ext)
        generalize q.val = w8 at *
        go_wp2
        go_ret
        exact ⟨rfl, HQ.out⟩
end Go.Proofs.Ytdoahpblphlabaa
