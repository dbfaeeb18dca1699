/-
  Tile: going through a set's blocks.
-/
import Derived.Test.YtblhmdhfhaencaaGreatTB
import Derived.Test.YtblhmdhfhaencaaGreatRangeT
import Derived.Scope
namespace Go.Proofs.YtblhmdhfhaencaaGreat
set_option linter.unusedSimpArgs false
set_option linter.unusedVariables false
open Go.RowKit Go.Shelf
attribute [local go_sem] Oper.semAt_some wide_fn wide_depth wide_fnR wide_depthR

def encN (x : Nat) : Array Value := #[.int .i64 (x : Int)]
def restL (f : Nat → Bool) (k : Nat) : List Nat := (List.range' k (200 - k)).filter f
theorem restL_zero (f : Nat → Bool) : restL f 0 = listS f := by rw [restL, listS, List.range_eq_range']
theorem restL_end (f : Nat → Bool) : restL f 200 = [] := rfl
theorem restL_step (f : Nat → Bool) (k : Nat) (h : k < 200) : restL f k = if f k then k :: restL f (k + 1) else restL f (k + 1) := by
  rw [restL, show 200 - k = (200 - (k + 1)) + 1 by omega, List.range'_succ, List.filter_cons]
  rfl
abbrev setO (f : Nat → Bool) : Obj := .cells (setA f) 124 (0, 0)

theorem each_any (S : Nat) (w : World) : Calls Tryz.prog 88 #[.pointer (some ⟨S, 0, none⟩)] w fun e w' => e = .returned (.func (.func 139) #[] #[.pointer (some ⟨w.heap.size, 0, none⟩)]) ∧ w' = w.alloc (.cells #[.pointer (some ⟨S, 0, none⟩)] 189) := by
  go_enter Tryz.func88, Tryz.ntmps88
  go_wp2
  go_ret
  exact ⟨rfl, rfl⟩

set_option maxRecDepth 100000 in
set_option maxHeartbeats 1000000 in
theorem each_iterI (f : Nat → Bool) (G S : Nat) : IterI Tryz.prog 139 #[.pointer (some ⟨G, 0, none⟩)] encN (listS f) (fun W => W.cell? ⟨G, 0, none⟩ = some (.pointer (some ⟨S, 0, none⟩)) ∧ W.heap[S]? = some (setO f)) := by
  intro l K Kx W hK hKx hInv hY h0
  refine callsIn_of_wp Tryz.func139 rfl trivial ?_ rfl
  simp only [Tryz.ntmps139, List.size_toArray, List.length_cons, List.length_nil, Nat.reduceAdd, Nat.reduceSub, Array.replicate_succ, Array.replicate_zero, List.push_toArray, List.append_toArray, List.nil_append, List.cons_append]
  have HY := Lib.hid hY
  have HI := Lib.hid hInv
  have HK0 := Lib.hid hK
  have H0 : Hid (K (restL f 0) W) := by rw [Hid, restL_zero]; exact h0
  have hg0 : W.cell? ⟨G, 0, none⟩ = some (.pointer (some ⟨S, 0, none⟩)) := (hInv _ _ h0).1
  clear hY hInv hK hKx h0
  gi_wp2
  gi_loopw [6] (fun i wr => ∃ k : Nat, i = .int .i64 k ∧ k ≤ 200 ∧ Hid (K (restL f k) wr)) (fun i _ => 200 - (intOf i).toNat)
  case atStart => exact ⟨0, rfl, by omega, H0.out⟩
  case round =>
    obtain ⟨k, rfl, hk, HK⟩ := hrel
    clear hg0
    have hSr := (HI.out _ _ HK.out).2
    have hn : ∀ q, (wr.drewN q).cell? ⟨S, 0, none⟩ = some (.bool (f 0)) := fun q => by rw [cell_of_row (wr.drewN q) _ _ _ _ _ hSr, setA_at _ _ (by omega)]
    have hne : wr.cell? ⟨S, 0, none⟩ = some (.bool (f 0)) := hn 0
    by_cases hlt : k < 200
    · have hc : wr.cell? ⟨S, k, none⟩ = some (.bool (f k)) := by rw [cell_of_row _ _ _ _ _ _ hSr, setA_at _ _ hlt]
      have HST := Lib.hid (restL_step f k hlt)
      have hlt' : (k : Int) < 200 := by omega
      clear hSr hn
      by_cases hf : f k = true
      · rw [hf] at hc
        have HR : Hid (restL f k = k :: restL f (k + 1)) := by rw [Hid, HST.out, if_pos hf]
        clear hf HST
        gi_wp2
        refine wide_quiet_lit (by kernel_rfl) (by kernel_rfl) ?_
        repeat (go_big_quiet_step (fail))
        refine wpQuiet_nil ?_
        rintro _ ⟨nq, rfl⟩
        have HKq : Hid (K (restL f k) (wr.drewN nq)) := HK0.out _ _ _ HK.out (ext_drewN (Below.refl _ _) nq)
        obtain ⟨fn, tmps, assign, body, hy, hR⟩ := HY.out (restL f k) k (wr.drewN nq) (by rw [HR.out]; rfl) HKq.out
        unfold encN at hy
        have hT : nxL (restL f k) k = restL f (k + 1) := by rw [HR.out]; rfl
        rw [hT] at hR
        have HR2 := Lib.hid hR
        clear hT hR HKq
        gi_wp2
        refine HR2.out.mono ?_
        rintro e W' (⟨rfl, hJ'⟩ | ⟨rfl, hX'⟩)
        · have HK1 := Lib.hid hJ'
          clear hJ' hy HR2
          gi_wp2
          go_roundw
          case rel => exact ⟨k + 1, by go_num, by omega, HK1.out⟩
          case measure => simp [intOf]; omega
        · have HX := Lib.hid hX'
          clear hX' hy HR2
          gi_wp2
          exact bodyPost_ret (v := .tuple #[]) (by simp [results, Tryz.results139, go_sem]) rfl ⟨⟨_, rfl⟩, Or.inr HX.out⟩
      · have hf' : f k = false := by simpa using hf
        rw [hf'] at hc
        have HR : Hid (restL f k = restL f (k + 1)) := by rw [Hid, HST.out, if_neg hf]
        clear hf hf' HST
        gi_wp2
        refine wide_quiet_lit (by kernel_rfl) (by kernel_rfl) ?_
        repeat (go_big_quiet_step (fail))
        refine wpQuiet_nil ?_
        rintro _ ⟨nq, rfl⟩
        have HKq : Hid (K (restL f (k + 1)) (wr.drewN nq)) := by rw [← HR.out]; exact HK0.out _ _ _ HK.out (ext_drewN (Below.refl _ _) nq)
        gi_wp2
        go_roundw
        case rel => exact ⟨k + 1, by go_num, by omega, HKq.out⟩
        case measure => simp [intOf]; omega
    · obtain rfl : k = 200 := by omega
      clear hSr hn
      gi_wp2
      go_end0
      exact ⟨⟨_, rfl⟩, Or.inl ⟨_, restL_end f, HK.out⟩⟩
theorem each_iter (f : Nat → Bool) (G S : Nat) (w : World) (hG : w.cell? ⟨G, 0, none⟩ = some (.pointer (some ⟨S, 0, none⟩))) (hS : w.heap[S]? = some (setO f)) :
    IterL Tryz.prog 139 #[.pointer (some ⟨G, 0, none⟩)] encN (listS f) w :=
  (each_iterI f G S).mono fun W hb => ⟨cell_ext hb hG, block_ext hb hS⟩
end Go.Proofs.YtblhmdhfhaencaaGreat
