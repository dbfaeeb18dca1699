/-
  Tile: slices.Repeat of one number.
-/
import Derived.Test.YtblhmdhfhaencaaGreatOwnI
import Derived.Test.YtblhmdhfhaencaaGreatShelfM
import Derived.Test.YtblhmdhfhaencaaGreatFreeL
import Derived.Deep.OwnRows
import Derived.Laws.CopyOwn
import Derived.Deep.LoopGhost
import Derived.Deep.DeepCutAuto
namespace Go.Proofs.YtblhmdhfhaencaaGreat
set_option linter.unusedSimpArgs false
set_option linter.unusedVariables false
open Go.RowKit

theorem op_copyS {P : Program} {o : Oper} {a : Act} {w : World} {K : Act → World → Prop} {Q : Exit → Act → World → Prop} (hgd : o.guard = none) (d s : Operand) (dT sT : TypeId)
    (ho : o.op = .call { callee := .builtin .copy, args := #[d, s], argTypes := #[dT, sT] }) (elem : TypeId) (hu : P.underlying dT = some (.slice elem)) (hsz : (P.info? elem).map (·.size) = some 1)
    (dp sp : Option Addr) (dLen dCap sLen sCap : Nat) (hd : a.eval d = .slice dp dLen dCap) (hs : a.eval s = .slice sp sLen sCap)
    (g off : Nat) (cur : List Value) (t : TypeId) (hg : w.heap[g]? = some (.cells cur.toArray t (0, 0))) (cs : List Value) (hn : cs.length = Nat.min sLen dLen)
    (hpos : 0 < cs.length → dp = some ⟨g, off, none⟩ ∧ ∃ ad, sp = some ad ∧ ∀ j v, cs[j]? = some v → w.cell? (ad.add j) = some v)
    (hfit : off + cs.length ≤ cur.length) (h1 : ∀ v ∈ cs, v.oneCell' = true) (B : Nat) (w0 : World) (hb : Below B w0 w) (hBg : B ≤ g)
    (h : ∀ w', Hid (w'.heap[g]? = some (.cells (splice cur off cs).toArray t (0, 0))) → Below B w0 w' → K (a.put o.dst (goInt cs.length)) w') : Oper.wp P o a w K Q := by
  have := step_copy_splice (P := P) (ops := #[]) (Q := Q) (E := True) hgd d s dT sT ho elem hu hsz dp sp dLen dCap sLen sCap hd hs g off cur t hg cs hn hpos hfit h1 B w0 hb hBg h
  rwa [if_pos (by simp [Region.wanted, hgd])] at this
/-- n numbers, of which the first j are laid -/
def repL (x : Int) (n j : Nat) : List Value := List.replicate j (.int .i64 x) ++ List.replicate (n - j) (.int .i64 0)
theorem repL_len (x : Int) (n j : Nat) (h : j ≤ n) : (repL x n j).length = n := by simp [repL]; omega
theorem repL_splice (x : Int) (n j m : Nat) (h : j + m ≤ n) : splice (repL x n j) j (List.replicate m (.int .i64 x)) = repL x n (j + m) := by
  unfold splice repL
  rw [List.take_append_of_le_length (by simp), List.take_of_length_le (by simp), List.drop_append, List.length_replicate, List.length_replicate, List.drop_of_length_le (by simp), List.nil_append, List.drop_replicate, ← List.append_assoc] <;> try rw [List.replicate_append_replicate, show n - j - (j + m - j) = n - (j + m) by omega]
theorem repL_at (x : Int) (n j i : Nat) (hi : i < j) : (repL x n j)[i]? = some (.int .i64 x) := by
  unfold repL
  rw [List.getElem?_append_left (by simpa using hi)]
  simp [hi]
set_option maxRecDepth 100000 in
set_option maxHeartbeats 2000000 in
theorem repeat_any (n g : Nat) (x : Int) (hx : I64 x) (h1 : 1 ≤ n) (h2 : n ≤ 1000000) (w : World) (hc : w.cell? ⟨g, 0, none⟩ = some (.int .i64 x)) :
    Calls Tryz.prog 158 #[.slice (some ⟨g, 0, none⟩) 1 1, .int .i64 (n : Int)] w (IntsPost w (List.replicate n x)) := by
  have HC := Lib.hid hc
  clear hc
  have e1 : 1 * n / 18446744073709551616 = 0 := Nat.div_eq_of_lt (by omega)
  have e2 : 1 * n % 18446744073709551616 = n := by rw [Nat.one_mul]; exact Nat.mod_eq_of_lt (by omega)
  have E1 := Lib.hid e1
  have E2 := Lib.hid e2
  clear e1 e2
  have hmk := run_make_row' (P := Tryz.prog) 22 3 (.int .i64 0) 8 Tryz.underlying22 infoI rfl .i64 .i64 n (by omega) (by omega) w
  go_enter Tryz.func158, Tryz.ntmps158
  go_upto_region 7 with (first
    | (go_at_call 194
       refine (bits_Mul 1 n (by omega) (by omega) w).mono ?_
       rintro e w' ⟨rfl, he⟩
       obtain rfl := he.symm
       rw [E1.out, E2.out]))
  obtain ⟨W, hW⟩ : ∃ W, W = w.alloc (.cells (madeCells #[.int .i64 0] n) 3) := ⟨_, rfl⟩
  rw [← hW]
  have hg0 : W.heap[w.heap.size]? = some (.cells (repL x n 0).toArray 3 (0, 0)) := by
    rw [hW, heap_alloc_new]
    congr 2
    apply Array.ext_getElem?
    intro k
    by_cases hk : k < n
    · simp [madeCells, repL, hk, Nat.mod_one]
    · rw [Array.getElem?_eq_none (by simp [madeCells]; omega), Array.getElem?_eq_none (by simp [repL]; omega)]
  have hB : Below w.heap.size w W := by rw [hW]; exact (Below.refl _ w).alloc (Nat.le_refl _) _
  have HG0 := Lib.hid hg0
  have HB := Lib.hid hB
  have hsz : (Tryz.prog.info? 3).map (·.size) = some 1 := by kernel_rfl
  have HSZ := Lib.hid hsz
  have HCW := Lib.hid (cell_ext hB HC.out)
  clear hW hg0 hB hmk hsz
  go_wp2_with (
    (refine wpList_copy_splice (o := ⟨some 33, _, _, _, _, _⟩) rfl (.tmp 31) (.tmp 32) 22 22 rfl 3 Tryz.underlying22 HSZ.out (some ⟨w.heap.size, 0, none⟩) (some ⟨g, 0, none⟩) n n 1 1 rfl rfl w.heap.size 0 (repL x n 0) 3 HG0.out (List.replicate 1 (.int .i64 x)) (by simp [Nat.min_def]; omega) (fun _ => ⟨rfl, _, rfl, fun j v hj => by
       have hj0 : j = 0 := by have := (List.getElem?_eq_some_iff.1 hj).1; simpa using this
       subst hj0
       have hv : v = .int .i64 x := by simpa using hj.symm
       subst hv
       rw [addr_add]
       exact HCW.out⟩) (by rw [repL_len _ _ _ (by omega)]; simp; omega) (by intro v hv; have := (List.mem_replicate.1 hv).2; subst this; rfl) w.heap.size w HB.out (Nat.le_refl _) ?_
     intro w2 hg2 hb2
     have HG2 := hg2
     have HB2 := Lib.hid hb2
     clear hg2 hb2))
  rw [repL_splice _ _ _ _ (by omega), Nat.zero_add] at HG2
  clear HG0 HB HCW
  go_loopg [8] n (fun gg s8 wr => ∃ (j : Nat), s8 = .int .i64 (j : Int) ∧ 1 ≤ j ∧ j ≤ n ∧ n ≤ gg + j ∧ Hid (wr.heap[w.heap.size]? = some (.cells (repL x n j).toArray 3 (0, 0))) ∧ Hid (Below w.heap.size w wr))
  case atStart => exact ⟨1, rfl, Nat.le_refl _, h1, by omega, HG2, HB2⟩
  case round =>
    obtain ⟨j, rfl, hj1, hj2, hgg, HG, HB⟩ := hrel
    clear HG2 HB2
    by_cases hlt : j < n
    · have hm1 : 1 ≤ Nat.min j (n - j) := by simp [Nat.min_def]; split <;> omega
      have hm2 : j + Nat.min j (n - j) ≤ n := by simp [Nat.min_def]; split <;> omega
      have hm3 : Nat.min j (n - j) ≤ j := Nat.min_le_left _ _
      have hlt' : (j : Int) < (n : Int) := by omega
      have hj0 : (0 : Int) ≤ (j : Int) := by omega
      go_upto_region 9 with (fail)
      refine z_start (fun w' => ∃ q : ClsW (fun q => Below w.heap.size w q), w' = q.val) (by kernel_rfl) ?_
      obtain ⟨v0, F0, G0, hv0⟩ : ∃ v0, Below w.heap.size w v0 ∧ v0.heap[w.heap.size]? = some (.cells (repL x n j).toArray 3 (0, 0)) ∧ wr.drew = v0 := ⟨_, below_drewN HB.out 1, HG.out, rfl⟩
      rw [hv0]
      clear hv0
      haveI : Nonempty (ClsW (fun q => Below w.heap.size w q)) := cls_ne (Below.refl _ _)
      refine z_reads 0 7 (by kernel_rfl) ⟨⟨_, F0⟩, rfl⟩ ?_
      simp only [List.take_succ_cons, List.take_zero, List.drop_succ_cons, List.drop_zero]
      repeat (go_big_quiet_step (fail))
      refine wpQuiet_nil ?_
      refine z_one 7 (by kernel_rfl) ?_
      refine wpOp_at rfl rfl ?_
      refine op_copyS rfl (.tmp 41) (.tmp 44) 22 22 rfl 3 Tryz.underlying22 HSZ.out (some ⟨w.heap.size, j, none⟩) (some ⟨w.heap.size, 0, none⟩) (n - j) (n - j) j n rfl rfl w.heap.size j (repL x n j) 3 G0 (List.replicate (Nat.min j (n - j)) (.int .i64 x)) (by simp) (fun _ => ⟨rfl, _, rfl, fun i v hi => by
        have hi0 : i < Nat.min j (n - j) := by have := (List.getElem?_eq_some_iff.1 hi).1; simpa using this
        have hv : v = .int .i64 x := by rw [List.getElem?_replicate, if_pos hi0] at hi; injection hi with hi; exact hi.symm
        subst hv
        rw [addr_add, cell_of_row _ _ _ _ _ _ G0, Nat.zero_add]
        have := repL_at x n j i (by omega)
        simpa using this⟩) (by rw [repL_len _ _ _ hj2]; simpa using hm2) (by intro v hv; have := (List.mem_replicate.1 hv).2; subst this; rfl) w.heap.size w F0 (Nat.le_refl _) ?_
      intro w3 hg3 hb3
      rw [List.length_replicate]
      rw [repL_splice _ _ _ _ hm2] at hg3
      generalize Nat.min j (n - j) = m at *
      simp only [goInt]
      refine ⟨Or.inr ⟨⟨_, hb3⟩, rfl⟩, ?_⟩
      try simp only [Act.put, List.setIfInBounds_toArray, List.set_cons_succ, List.set_cons_zero]
      refine z_reads 8 2 (by kernel_rfl) ⟨⟨_, hb3⟩, rfl⟩ ?_
      simp only [List.take_succ_cons, List.take_zero, List.drop_succ_cons, List.drop_zero]
      repeat (go_big_quiet_step (fail))
      refine wpQuiet_nil ?_
      refine z_done (by kernel_rfl) ?_
      clear hlt'
      go_wp2
      go_roundg (n - (j + m))
      case measure => omega
      case rel => exact ⟨j + m, by go_num, by omega, hm2, by omega, hg3, hb3⟩
    · obtain rfl : j = n := by omega
      go_wp2
      go_ret
      refine ⟨_, rfl, ⟨⟨by simp [intVals], .inr ⟨w.heap.size, j, (repL x j j).toArray, by simp, Nat.le_refl _, HG.out, by simp, by unfold maxLen; omega, by simp [repL], by simp [repL, intVals]⟩⟩, ?_, by simp; omega⟩, HB.out⟩
      intro z hz
      rw [(List.mem_replicate.1 hz).2]
      exact hx
end Go.Proofs.YtblhmdhfhaencaaGreat
