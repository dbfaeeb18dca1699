/-
  The class of worlds of a region that draws its order may be made narrower on the way. No program in sight.
-/
import Derived.Test.YtblhmdhfhaencaaGreatTH
import Derived.Test.YtblhmdhfhaencaaGreatQL
import Derived.Test.YtblhmdhfhaencaaGreatTJ
import Derived.Test.YtblhmdhfhaencaaGreatQF
import Derived.Test.YtblhmdhfhaencaaGreatTR
import Derived.Deep.CutBlock
import Derived.Deep.DeepCutAuto
namespace Go.Proofs.YtblhmdhfhaencaaGreat
set_option linter.unusedSimpArgs false
set_option linter.unusedVariables false
set_option linter.unusedSectionVars false
set_option maxRecDepth 100000
set_option maxHeartbeats 40000000
section
open Go.RowKit
section
variable {P : Program} {l : List Oper} {S S' : World → Prop} {Q : Exit → Act → World → Prop}
theorem z_mono (h : ∀ w, S' w → S w) : ∀ {fuel : Nat} {listed : Array Bool} {a : Act} {w : World}, wpAnyZ P l Q S' fuel listed a w → wpAnyZ P l Q S fuel listed a w
  | 0, _, _, _, hz => hz
  | _ + 1, _, _, _, hz => ⟨hz.1, fun i hi => wpOp_mono (fun _ _ h' => ⟨h'.1.imp id (h _), z_mono h h'.2⟩) (hz.2 i hi)⟩
theorem z_later {W W' : World} (h : Below W.heap.size W W') {fuel : Nat} {listed : Array Bool} {a : Act} {w : World} (hz : wpAnyZ P l Q (fun w' => ∃ n : ExtW W', w' = n.val) fuel listed a w) : wpAnyZ P l Q (fun w' => ∃ n : ExtW W, w' = n.val) fuel listed a w :=
  z_mono (fun _ hn => by obtain ⟨n, rfl⟩ := hn; exact ⟨⟨n.val, ext_trans h n.ext⟩, rfl⟩) hz
end
end

section
open Go.RowKit Go.Shelf
def cfP (L : List PartD) (p q : PartD) : Int := orV [cmpV (aroundP L p : Int) (aroundP L q : Int), cmpV (firstP p : Int) (firstP q : Int)]
def keyP (L : List PartD) (p : PartD) : Nat := 300 * aroundP L p + firstP p
theorem cf_less (L : List PartD) (p q : PartD) (hp : firstP p < 300) (hq : firstP q < 300) : cfP L p q < 0 ↔ keyP L p < keyP L q := by
  rw [cfP, or_cmp, keyP, keyP]
  omega
theorem cmpV_i64 (x y : Int) : I64 (cmpV x y) := by
  unfold cmpV I64
  split
  · omega
  · split <;> omega
theorem own_head {w : World} {base : Nat} {v : Value} {l : List Nat} (h : OwnI w base v (intsN l)) (hl : l ≠ []) : ∃ g n c, v = .slice (some ⟨g, 0, none⟩) n c ∧ 0 < n ∧ w.cell? ⟨g, 0, none⟩ = some (.int .i64 ((l.headD 0 : Nat) : Int)) := by
  cases l with
  | nil => exact absurd rfl hl
  | cons x l =>
    rcases h.1.2 with ⟨_, h0⟩ | ⟨g, cap, cur, hv, _, hg, hc1, _, hcs, htk⟩
    · simp [intsN] at h0
    · refine ⟨g, _, cap, hv, by simp [intsN], ?_⟩
      rw [cell_of_row _ _ _ _ _ _ hg]
      have : (cur.toList.take ((intsN (x :: l)).length * 1))[0]? = some (.int .i64 (x : Int)) := by rw [htk]; rfl
      rw [List.getElem?_take] at this
      simpa [intsN] using this
theorem cmp_any (P base bv : Nat) (a : Option Addr) (n c : Nat) (d : WalkD) (L : List PartD) (p q : PartD) (w : World) (hV : w.heap[bv]? = some (.cells #[.pointer (some ⟨P, 0, none⟩)] 119 (0, 0))) (hB : w.heap[P]? = some (bldO d (.slice a n c))) (hL : PartsIn w base (.slice a n c) L) (hn : n ≤ 1000000) (hp : listS p.s ≠ []) (hq : listS q.s ≠ []) :
    Calls Tryz.prog 83 (#[partV p, partV q] ++ #[.pointer (some ⟨bv, 0, none⟩)]) w fun e w' => e = .returned (.int .i64 (cfP L p q)) ∧ Below w.heap.size w w' := by
  have HBL := Lib.hid hB
  have HL := Lib.hid hL
  have HP := Lib.hid hp
  have HQ := Lib.hid hq
  have HV := Lib.hid hV
  clear hB hL hp hq hV
  go_enter Tryz.func83, Tryz.ntmps83
  go_upto_region 1 with (fail)
  obtain ⟨W, hW⟩ : ∃ W, W = (w.alloc (partO p)).alloc (partO q) := ⟨_, rfl⟩
  rw [← hW]
  have hb : Below w.heap.size w W := by rw [hW]; exact ext_trans (ext_alloc _ _) (ext_alloc _ _)
  have h3 : W.heap[w.heap.size]? = some (partO p) := by rw [hW]; exact block_ext (ext_alloc _ _) (heap_alloc_new _ _)
  have h4 : W.heap[w.heap.size + 1]? = some (partO q) := by rw [hW]; exact heap_at _ _ _ (by simp)
  have HB := Lib.hid hb
  have HBW := Lib.hid (block_ext hb HBL.out)
  have HLW : Hid (PartsIn W base (.slice a n c) L) := PartsIn.ext HL.out hb
  have g0 : ∀ n : ExtW W, n.val.cell? ⟨bv, 0, none⟩ = some (.pointer (some ⟨P, 0, none⟩)) := ExtW.cell (by rw [cell_of_row _ _ _ _ _ _ (block_ext hb HV.out)]; rfl)
  have g3 : ∀ w', (∃ n : ExtW W, w' = n.val) → w'.heap[w.heap.size]? = some (partO p) := fun w' ⟨n, e⟩ => by rw [e]; exact block_ext n.ext h3
  have g4 : ∀ w', (∃ n : ExtW W, w' = n.val) → w'.heap[w.heap.size + 1]? = some (partO q) := fun w' ⟨n, e⟩ => by rw [e]; exact block_ext n.ext h4
  have s3 : ∀ w', (∃ n : ExtW W, w' = n.val) → w'.rangeAt w.heap.size 0 (setA p.s).toList := fun w' h => part_set0 (g3 w' h)
  have s4 : ∀ w', (∃ n : ExtW W, w' = n.val) → w'.rangeAt (w.heap.size + 1) 0 (setA q.s).toList := fun w' h => part_set0 (g4 w' h)
  clear hW hb h3 h4 HBL HL HV
  refine z_start (fun w' => ∃ n : ExtW W, w' = n.val) (by kernel_rfl) ?_
  obtain ⟨v0, F0, hv0⟩ : ∃ v0, Below W.heap.size W v0 ∧ W.drew = v0 := ⟨_, ext_drewN (Below.refl _ _) 1, rfl⟩
  rw [hv0]
  clear hv0
  refine z_reads 0 2 (by kernel_rfl) ⟨⟨_, F0⟩, rfl⟩ ?_
  simp only [List.take_succ_cons, List.take_zero, List.drop_succ_cons, List.drop_zero]
  repeat (first
    | (refine wpQuiet_load_row (o := ⟨some 7, .load 128 _, _, _, _, _⟩) (by rfl) 128 _ rfl w.heap.size rfl 128 (partC p).toArray (0, 0) _ g3 Tryz.underlying128 rfl (size_partA _) ?_; simp only [zJ,zG,zH,zI])
    | go_big_quiet_step (fail))
  refine wpQuiet_nil ?_
  refine z_reads 3 2 (by kernel_rfl) ⟨⟨_, F0⟩, rfl⟩ ?_
  simp only [List.take_succ_cons, List.take_zero, List.drop_succ_cons, List.drop_zero]
  repeat (first
    | (refine wpQuiet_load_row (o := ⟨some 10, .load 128 _, _, _, _, _⟩) (by rfl) 128 _ rfl (w.heap.size + 1) rfl 128 (partC q).toArray (0, 0) _ g4 Tryz.underlying128 rfl (size_partA _) ?_; simp only [zJ,zG,zH,zI])
    | go_big_quiet_step (fail))
  refine wpQuiet_nil ?_
  refine z_reads 7 2 (by kernel_rfl) ⟨⟨_, F0⟩, rfl⟩ ?_
  simp only [List.take_succ_cons, List.take_zero, List.drop_succ_cons, List.drop_zero]
  repeat (first
    | (refine wpQuiet_load_mid (o := ⟨some 14, .load 124 _, _, _, _, _⟩) (by rfl) 124 _ rfl w.heap.size 0 rfl (setA p.s).toList _ s3 Tryz.underlying124 rfl (by rw [Array.length_toList, setA_size]; exact size_set) ?_; simp only [zJ,zG,zH,zI])
    | go_big_quiet_step (fail))
  refine wpQuiet_nil ?_
  refine z_reads 12 2 (by kernel_rfl) ⟨⟨_, F0⟩, rfl⟩ ?_
  simp only [List.take_succ_cons, List.take_zero, List.drop_succ_cons, List.drop_zero]
  repeat (first
    | (refine wpQuiet_load_mid (o := ⟨some 19, .load 124 _, _, _, _, _⟩) (by rfl) 124 _ rfl (w.heap.size + 1) 0 rfl (setA q.s).toList _ s4 Tryz.underlying124 rfl (by rw [Array.length_toList, setA_size]; exact size_set) ?_; simp only [zJ,zG,zH,zI])
    | go_big_quiet_step (fail))
  refine wpQuiet_nil ?_
  clear g0 g3 g4 s3 s4
  refine z_one 2 (by kernel_rfl) ?_
  refine wpOp_at rfl rfl ?_
  go_simp
  refine (around_any P base a n c d L p v0 (block_ext F0 HBW.out) (PartsIn.ext HLW.out F0) hn).mono ?_
  rintro e v1 ⟨rfl, hb⟩
  have F1 := ext_trans F0 hb
  clear hb
  refine ⟨Or.inr ⟨⟨_, F1⟩, rfl⟩, ?_⟩
  refine z_one 5 (by kernel_rfl) ?_
  refine wpOp_at rfl rfl ?_
  go_simp
  refine (around_any P base a n c d L q v1 (block_ext F1 HBW.out) (PartsIn.ext HLW.out F1) hn).mono ?_
  rintro e v2 ⟨rfl, hb⟩
  have F2 := ext_trans F1 hb
  clear hb F0 F1
  refine ⟨Or.inr ⟨⟨_, F2⟩, rfl⟩, ?_⟩
  refine z_one 6 (by kernel_rfl) ?_
  refine wpOp_at rfl rfl ?_
  go_simp
  refine (compare_any _ _ v2).mono ?_
  rintro e v3 ⟨rfl, rfl⟩
  refine ⟨Or.inr ⟨⟨_, F2⟩, rfl⟩, ?_⟩
  refine z_one 9 (by kernel_rfl) ?_
  refine wpOp_at rfl rfl ?_
  go_simp
  refine (list_any p.s v2).mono ?_
  rintro e v4 ⟨vl, rfl, ho, hb⟩
  have F4 := ext_trans F2 hb
  obtain ⟨g5, n5, c5, rfl, hn5, hcell⟩ := own_head ho HP.out
  have hn5' : (0 : Int) < (n5 : Int) := by omega
  obtain ⟨y1, hy1⟩ : ∃ y, y = (listS p.s).headD 0 := ⟨_, rfl⟩
  rw [← hy1] at hcell
  have HY1 := Lib.hid hy1
  clear hy1
  refine ⟨Or.inr ⟨⟨_, F4⟩, rfl⟩, ?_⟩
  clear ho hb
  refine z_later F4 ?_
  have g5' : ∀ n : ExtW v4, n.val.cell? ⟨g5, 0, none⟩ = some (.int .i64 (y1 : Int)) := ExtW.cell hcell
  refine z_reads 10 2 (by kernel_rfl) ⟨⟨_, Below.refl _ _⟩, rfl⟩ ?_
  simp only [List.take_succ_cons, List.take_zero, List.drop_succ_cons, List.drop_zero]
  repeat (go_big_quiet_step (fail))
  refine wpQuiet_nil ?_
  clear g5' hcell hn5'
  refine z_one 14 (by kernel_rfl) ?_
  refine wpOp_at rfl rfl ?_
  go_simp
  refine (list_any q.s v4).mono ?_
  rintro e v5 ⟨vl, rfl, ho, hb⟩
  obtain ⟨g6, n6, c6, rfl, hn6, hcell⟩ := own_head ho HQ.out
  have hn6' : (0 : Int) < (n6 : Int) := by omega
  obtain ⟨y2, hy2⟩ : ∃ y, y = (listS q.s).headD 0 := ⟨_, rfl⟩
  rw [← hy2] at hcell
  have HY2 := Lib.hid hy2
  clear hy2
  refine ⟨Or.inr ⟨⟨_, hb⟩, rfl⟩, ?_⟩
  have F5 := ext_trans F4 hb
  refine z_later hb ?_
  clear ho hb
  have g6' : ∀ n : ExtW v5, n.val.cell? ⟨g6, 0, none⟩ = some (.int .i64 (y2 : Int)) := ExtW.cell hcell
  refine z_reads 15 2 (by kernel_rfl) ⟨⟨_, Below.refl _ _⟩, rfl⟩ ?_
  simp only [List.take_succ_cons, List.take_zero, List.drop_succ_cons, List.drop_zero]
  repeat (go_big_quiet_step (fail))
  refine wpQuiet_nil ?_
  clear g6' hcell hn6'
  refine z_one 17 (by kernel_rfl) ?_
  refine wpOp_at rfl rfl ?_
  go_simp
  refine (compare_any _ _ v5).mono ?_
  rintro e v6 ⟨rfl, rfl⟩
  refine ⟨Or.inr ⟨⟨_, Below.refl _ _⟩, rfl⟩, ?_⟩
  refine z_one 18 (by kernel_rfl) ?_
  refine wpOp_at rfl rfl ?_
  go_simp
  obtain ⟨x1, hx1⟩ : ∃ x, x = cmpV (aroundP L p : Int) (aroundP L q : Int) := ⟨_, rfl⟩
  obtain ⟨x2, hx2⟩ : ∃ x, x = cmpV (y1 : Int) (y2 : Int) := ⟨_, rfl⟩
  rw [← hx1, ← hx2]
  have hi1 : I64 x1 := by rw [hx1]; exact cmpV_i64 _ _
  have hi2 : I64 x2 := by rw [hx2]; exact cmpV_i64 _ _
  have HX : Hid (orV [x1, x2] = cfP L p q) := by rw [Hid, hx1, hx2, HY1.out, HY2.out]; rfl
  have hI := (ownI_lit (W := v5) (xs := [x1, x2]) rfl 0 (Nat.zero_le _) (fun x hx => by simp at hx; rcases hx with rfl | rfl <;> assumption) (by simp)).ints
  have HI : Hid (Ints (v5.alloc (.cells #[.int .i64 x1, .int .i64 x2] 3)) (some ⟨v5.heap.size, 0, none⟩) 2 [x1, x2]) := hI
  have F6 : Below v5.heap.size v5 (v5.alloc (.cells #[.int .i64 x1, .int .i64 x2] 3)) := ext_alloc _ _
  clear hx1 hx2 hi1 hi2 hI
  refine ⟨Or.inr ⟨⟨_, F6⟩, rfl⟩, ?_⟩
  refine z_one 19 (by kernel_rfl) ?_
  refine wpOp_at rfl rfl ?_
  go_simp
  refine (cmpOr_any _ 2 2 [x1, x2] _ HI.out).mono ?_
  rintro e v7 ⟨rfl, rfl⟩
  rw [HX.out]
  have HF := Lib.hid (ext_trans HB.out (ext_trans F5 F6))
  refine ⟨Or.inr ⟨⟨_, F6⟩, rfl⟩, ?_⟩
  refine z_reads 20 1 (by kernel_rfl) ⟨⟨_, F6⟩, rfl⟩ ?_
  simp only [List.take_succ_cons, List.take_zero, List.drop_succ_cons, List.drop_zero]
  repeat (go_big_quiet_step (fail))
  refine wpQuiet_nil ?_
  refine z_done (by kernel_rfl) ?_
  go_wp2
  go_ret
  exact ⟨rfl, HF.out⟩
end

section
open Go.RowKit Go.Shelf
attribute [local go_sem] Oper.semAt_some wide_fn wide_depth wide_fnR wide_depthR
theorem each_iterC (f : Nat → Bool) (G S : Nat) : IterI Tryz.prog 139 #[.pointer (some ⟨G, 0, none⟩)] encN (listS f) (fun W => W.cell? ⟨G, 0, none⟩ = some (.pointer (some ⟨S, 0, none⟩)) ∧ ∀ k, k < 200 → W.cell? ⟨S, k, none⟩ = some (.bool (f k))) := by
  intro l K Kx W hK hKx hInv hY h0
  refine callsIn_of_wp Tryz.func139 rfl trivial ?_ rfl
  simp only [Tryz.ntmps139, List.size_toArray, List.length_cons, List.length_nil, Nat.reduceAdd, Nat.reduceSub, Array.replicate_succ, Array.replicate_zero, List.push_toArray, List.append_toArray, List.nil_append, List.cons_append]
  have HY := Lib.hid hY
  have HI := Lib.hid hInv
  have HK0 := Lib.hid hK
  have H0 : Hid (K (restL f 0) W) := by rw [Hid, restL_zero]; exact h0
  have hg0 : W.cell? ⟨G, 0, none⟩ = some (.pointer (some ⟨S, 0, none⟩)) := (hInv _ _ h0).1
  clear hY hInv hK hKx h0
  gi_wp2
  gi_loopw [6] (fun i wr => ∃ k : Nat, i = .int .i64 k ∧ k ≤ 200 ∧ Hid (K (restL f k) wr)) (fun i _ => 200 - (intOf i).toNat)
  case atStart => exact ⟨0, rfl, by omega, H0.out⟩
  case round =>
    obtain ⟨k, rfl, hk, HK⟩ := hrel
    clear hg0
    have hSr := (HI.out _ _ HK.out).2
    have hn : ∀ q, (wr.drewN q).cell? ⟨S, 0, none⟩ = some (.bool (f 0)) := fun q => hSr 0 (by omega)
    have hne : wr.cell? ⟨S, 0, none⟩ = some (.bool (f 0)) := hn 0
    by_cases hlt : k < 200
    · have hc : wr.cell? ⟨S, k, none⟩ = some (.bool (f k)) := hSr k hlt
      have HST := Lib.hid (restL_step f k hlt)
      have hlt' : (k : Int) < 200 := by omega
      clear hSr hn
      by_cases hf : f k = true
      · rw [hf] at hc
        have HR : Hid (restL f k = k :: restL f (k + 1)) := by rw [Hid, HST.out, if_pos hf]
        clear hf HST
        gi_wp2
        refine wide_quiet_lit (by kernel_rfl) (by kernel_rfl) ?_
        repeat (go_big_quiet_step (fail))
        refine wpQuiet_nil ?_
        rintro _ ⟨nq, rfl⟩
        have HKq : Hid (K (restL f k) (wr.drewN nq)) := HK0.out _ _ _ HK.out (ext_drewN (Below.refl _ _) nq)
        obtain ⟨fn, tmps, assign, body, hy, hR⟩ := HY.out (restL f k) k (wr.drewN nq) (by rw [HR.out]; rfl) HKq.out
        unfold encN at hy
        have hT : nxL (restL f k) k = restL f (k + 1) := by rw [HR.out]; rfl
        rw [hT] at hR
        have HR2 := Lib.hid hR
        clear hT hR HKq
        gi_wp2
        refine HR2.out.mono ?_
        rintro e W' (⟨rfl, hJ'⟩ | ⟨rfl, hX'⟩)
        · have HK1 := Lib.hid hJ'
          clear hJ' hy HR2
          gi_wp2
          go_roundw
          case rel => exact ⟨k + 1, by go_num, by omega, HK1.out⟩
          case measure => simp [intOf]; omega
        · have HX := Lib.hid hX'
          clear hX' hy HR2
          gi_wp2
          exact bodyPost_ret (v := .tuple #[]) (by simp [results, Tryz.results139, go_sem]) rfl ⟨⟨_, rfl⟩, Or.inr HX.out⟩
      · have hf' : f k = false := by simpa using hf
        rw [hf'] at hc
        have HR : Hid (restL f k = restL f (k + 1)) := by rw [Hid, HST.out, if_neg hf]
        clear hf hf' HST
        gi_wp2
        refine wide_quiet_lit (by kernel_rfl) (by kernel_rfl) ?_
        repeat (go_big_quiet_step (fail))
        refine wpQuiet_nil ?_
        rintro _ ⟨nq, rfl⟩
        have HKq : Hid (K (restL f (k + 1)) (wr.drewN nq)) := by rw [← HR.out]; exact HK0.out _ _ _ HK.out (ext_drewN (Below.refl _ _) nq)
        gi_wp2
        go_roundw
        case rel => exact ⟨k + 1, by go_num, by omega, HKq.out⟩
        case measure => simp [intOf]; omega
    · obtain rfl : k = 200 := by omega
      clear hSr hn
      gi_wp2
      go_end0
      exact ⟨⟨_, rfl⟩, Or.inl ⟨_, restL_end f, HK.out⟩⟩
abbrev bsV (t : TileR) : Value := .slice t.ba t.bn t.bc
structure TilesIn (W : World) (base : Nat) (v : Value) (ls : List TileR) : Prop where
  own : OwnR 76 3 tileC W base v ls
  each : ∀ t ∈ ls, OwnI W base (bsV t) t.d.blocks ∧ I64 t.d.kind ∧ I64 t.d.parent
  sepv : ∀ t ∈ ls, Sep (bsV t) v
  pw : ls.Pairwise fun s t => Sep (bsV s) (bsV t)
section
variable {W W' W3 : World} {base base' : Nat} {v : Value} {ls : List TileR}
theorem TilesIn.grown {row : Option Nat} (h : TilesIn W base v ls) (hg : W.grownBy W' row) (hr : ∀ q, row = some q → q < base ∨ W.heap.size ≤ q) : TilesIn W' base v ls where
  own := h.own.kept hg (by
    cases e : v.ownBlock with
    | none => exact .inl rfl
    | some q => exact .inr fun e2 => by have := h.own.low e; have := hr q e2.symm; omega)
  each := fun t ht => ⟨(h.each t ht).1.kept hg (by
    cases e : (bsV t).ownBlock with
    | none => exact .inl rfl
    | some q => exact .inr fun e2 => by have := (h.each t ht).1.1.lt q e; have := hr q e2.symm; omega), (h.each t ht).2⟩
  sepv := h.sepv
  pw := h.pw
theorem TilesIn.ext (h : TilesIn W base v ls) (hb : Below W.heap.size W W') : TilesIn W' base v ls :=
  h.grown (row := none) ⟨hb.os, hb.tape, hb.output, hb.size, fun k hk _ => hb.block k hk⟩ fun q e => by cases e
theorem TilesIn.mono (h : TilesIn W base v ls) (hb : base' ≤ base) : TilesIn W base' v ls := ⟨h.own.mono hb, fun t ht => ⟨(h.each t ht).1.mono hb, (h.each t ht).2⟩, h.sepv, h.pw⟩
theorem TilesIn.steady {D : Nat} : Steady D (fun W => TilesIn W base v ls) := fun W W' row h hg hr =>
  ⟨(Steady.ownR D base v ls) W W' row h.own hg hr, fun t ht => ⟨(Steady.ownI D base (bsV t) t.d.blocks) W W' row (h.each t ht).1 hg hr, (h.each t ht).2⟩, h.sepv, h.pw⟩
theorem own_le {w : World} {base : Nat} {a : Option Addr} {n c : Nat} {xs : List Int} (h : OwnI w base (.slice a n c) xs) : n ≤ c := by
  rcases h.1.2 with ⟨e, _⟩ | ⟨g, cap, cur, e, _, _, hc, _⟩
  · injection e with _ e1 e2; omega
  · injection e with _ e1 e2; omega
theorem TilesIn.ok {a : Option Addr} {n c : Nat} (h : TilesIn W base (.slice a n c) ls) : TilesOK W a n ls :=
  ⟨h.own.recs tileC_len, fun t ht => ⟨(h.each t ht).1.ints, own_le (h.each t ht).1, (h.each t ht).2⟩⟩
theorem tiles_one (W : World) (B : Nat) (t : TileR) (h : W.heap[B]? = some (.cells (tileC t).toArray 76 (0, 0))) (base : Nat) (hb : base ≤ B) (ho : OwnI W base (bsV t) t.d.blocks) (hk : I64 t.d.kind ∧ I64 t.d.parent) (hn : (bsV t).ownBlock ≠ some B) : TilesIn W base (.slice (some ⟨B, 0, none⟩) 1 1) [t] where
  own := by
    refine ⟨⟨by simp [tileC], .inr ⟨B, 1, (tileC t).toArray, rfl, hb, h, by simp, by simp [maxLen], by simp [tileC], ?_⟩⟩, by simp⟩
    simp [tileC]
  each := fun s hs => by
    have : s = t := by simpa using hs
    subst this
    exact ⟨ho, hk⟩
  sepv := fun s hs g hg e => by
    have : s = t := by simpa using hs
    subst this
    simp only [Value.ownBlock, Option.some.injEq] at e
    subst e
    exact hn hg
  pw := List.pairwise_singleton _ _
theorem TilesIn.add {v' : Value} (h : TilesIn W base v ls) (x : TileR) (hx : x.ba = none) (hx2 : x.bn = 0) (hx3 : x.bc = 0) (hx4 : x.d.blocks = []) (hk : I64 x.d.kind ∧ I64 x.d.parent) (hg : W.grownBy W3 v.ownBlock)
    (ho : W3.ownsRow base 76 3 v' (ls.length + 1) (ls.flatMap tileC ++ tileC x)) (hat : v'.ownBlock = v.ownBlock ∨ ∃ q, v'.ownBlock = some q ∧ W.heap.size ≤ q) (hn : ls.length ≤ 1000) : TilesIn W3 base v' (ls ++ [x]) where
  own := by
    refine ⟨?_, by simp; omega⟩
    rw [List.length_append, List.flatMap_append]
    simpa using ho
  each := fun t ht => by
    rcases List.mem_append.1 ht with ht | ht
    · refine ⟨(h.each t ht).1.kept hg ?_, (h.each t ht).2⟩
      cases e : (bsV t).ownBlock with
      | none => exact .inl rfl
      | some q => exact .inr fun e2 => h.sepv t ht q e e2.symm
    · have : t = x := by simpa using ht
      subst this
      refine ⟨?_, hk⟩
      rw [bsV, hx, hx2, hx3, hx4]
      exact OwnI.nil _ _
  sepv := fun t ht g hg1 hg2 => by
    rcases List.mem_append.1 ht with ht | ht
    · rcases hat with e | ⟨q, e, hq⟩
      · rw [e] at hg2; exact h.sepv t ht g hg1 hg2
      · rw [e] at hg2
        injection hg2 with hg2
        have := ((h.each t ht).1.1.lt g hg1).2
        omega
    · have : t = x := by simpa using ht
      subst this
      rw [bsV, hx] at hg1
      cases hg1
  pw := by
    rw [List.pairwise_append]
    refine ⟨h.pw, List.pairwise_singleton _ _, fun s _ t ht g _ hg2 => ?_⟩
    have : t = x := by simpa using ht
    subst this
    rw [bsV, hx] at hg2
    cases hg2
theorem flat_set3 : ∀ (ls : List TileR) (k : Nat) (t t' : TileR), ls[k]? = some t → t'.d.kind = t.d.kind ∧ t'.d.parent = t.d.parent → (ls.flatMap tileC).set (k * 3 + 2) (bsV t') = (ls.set k t').flatMap tileC
  | x :: ls, 0, t, t', h, he => by
    simp only [List.getElem?_cons_zero, Option.some.injEq] at h
    subst h
    simp [tileC, he.1, he.2]
  | x :: ls, k + 1, t, t', h, he => by
    have ih := flat_set3 ls k t t' (by simpa using h) he
    rw [List.flatMap_cons, List.set_cons_succ, List.flatMap_cons, ← ih]
    have e : (k + 1) * 3 + 2 = (tileC x).length + (k * 3 + 2) := by rw [tileC_len]; omega
    rw [e, List.set_append_right _ _ (by omega)]
    congr 2
    omega
theorem TilesIn.turn {g n c : Nat} (h : TilesIn W base (.slice (some ⟨g, 0, none⟩) n c) ls) {k : Nat} {t t' : TileR} (hk : ls[k]? = some t) (hg : W.grownBy W3 (bsV t).ownBlock) (ho : OwnI W3 base (bsV t') t'.d.blocks) (he : t'.d.kind = t.d.kind ∧ t'.d.parent = t.d.parent)
    (hat : (bsV t').ownBlock = (bsV t).ownBlock ∨ ∃ q, (bsV t').ownBlock = some q ∧ W.heap.size ≤ q) : TilesIn (W3.setCell ⟨g, k * 3 + 2, none⟩ (bsV t')) base (.slice (some ⟨g, 0, none⟩) n c) (ls.set k t') := by
  have hlt := (List.getElem?_eq_some_iff.1 hk).1
  have htm := List.mem_of_getElem? hk
  have hlen : ls.length = n := by obtain ⟨a, c', e⟩ := h.own.form; injection e with _ e _; exact e.symm
  have hgb := h.own.low (k := g) rfl
  have g2 := grown_setCell W3 g (k * 3 + 2) (bsV t')
  have hne : ∀ s ∈ ls, (bsV s).ownBlock ≠ some g := fun s hs e => h.sepv s hs g e rfl
  have keep : ∀ s, OwnI W base (bsV s) s.d.blocks → Sep (bsV t) (bsV s) → (bsV s).ownBlock ≠ some g → OwnI (W3.setCell ⟨g, k * 3 + 2, none⟩ (bsV t')) base (bsV s) s.d.blocks := fun s hs hsep hng => by
    refine (hs.kept hg ?_).kept g2 ?_
    · cases e : (bsV s).ownBlock with
      | none => exact .inl rfl
      | some q => exact .inr fun e2 => hsep q e2.symm e
    · cases e : (bsV s).ownBlock with
      | none => exact .inl rfl
      | some q => exact .inr fun e2 => hng (e.trans e2)
  have sepT : ∀ s, OwnI W base (bsV s) s.d.blocks → Sep (bsV t) (bsV s) → Sep (bsV t') (bsV s) := fun s hs hsep q e1 e2 => by
    rcases hat with e | ⟨q', e, hq⟩
    · rw [e] at e1; exact hsep q e1 e2
    · rw [e] at e1
      injection e1 with e1
      have := (hs.1.lt q e2).2
      omega
  have sepg : (bsV t').ownBlock ≠ some g := fun e => by
    rcases hat with e1 | ⟨q', e1, hq⟩
    · rw [e1] at e; exact hne t htm e
    · rw [e1] at e; injection e with e; omega
  have hpw : ∀ i s, ls[i]? = some s → i ≠ k → Sep (bsV t) (bsV s) := fun i s hi hik => by
    have hil := (List.getElem?_eq_some_iff.1 hi).1
    have e1 := (List.getElem?_eq_some_iff.1 hi).2
    have e2 := (List.getElem?_eq_some_iff.1 hk).2
    rcases Nat.lt_or_ge i k with hl | hl
    · have := (List.pairwise_iff_getElem.1 h.pw) i k hil hlt hl
      rw [e1, e2] at this
      exact this.symm
    · have := (List.pairwise_iff_getElem.1 h.pw) k i hlt hil (by omega)
      rw [e1, e2] at this
      exact this
  refine ⟨?_, fun s hs => ?_, fun s hs => ?_, ?_⟩
  · have h3 : OwnR 76 3 tileC W3 base (.slice (some ⟨g, 0, none⟩) n c) ls := h.own.kept hg (.inr fun e => hne t htm e.symm)
    have h4 : OwnR 76 3 tileC (W3.setCell ⟨g, k * 3 + 2, none⟩ (bsV t')) base (.slice (some ⟨g, 0, none⟩) n c) (ls.set k t') := by
      refine ⟨?_, by rw [List.length_set]; exact h.own.2⟩
      have h6 := h3.1
      rw [hlen] at h6
      have h5 := (h6.stored (k * 3 + 2) (bsV t')).1
      rw [List.length_set, hlen]
      have e : (ls.flatMap tileC).set (k * 3 + 2) (bsV t') = (ls.set k t').flatMap tileC := flat_set3 ls k t t' hk he
      rw [← e]
      exact h5
    exact h4
  · obtain ⟨i, hi, e⟩ := List.mem_iff_getElem.1 hs
    rw [List.getElem_set] at e
    split at e
    · rename_i hki
      subst e
      refine ⟨ho.kept g2 ?_, by rw [he.1, he.2]; exact (h.each t htm).2⟩
      cases e : (bsV t').ownBlock with
      | none => exact .inl rfl
      | some q => exact .inr fun e2 => sepg (e.trans e2)
    · rename_i hki
      have hi' : i < ls.length := by simpa using hi
      have hsm : s ∈ ls := by rw [← e]; exact List.getElem_mem hi'
      exact ⟨keep s (h.each s hsm).1 (hpw i s (by rw [List.getElem?_eq_getElem hi', e]) (fun e => hki e.symm)) (hne s hsm), (h.each s hsm).2⟩
  · obtain ⟨i, hi, e⟩ := List.mem_iff_getElem.1 hs
    rw [List.getElem_set] at e
    split at e
    · subst e
      intro q e1 e2
      simp only [Value.ownBlock, Option.some.injEq] at e2
      subst e2
      exact sepg e1
    · have hi' : i < ls.length := by simpa using hi
      exact h.sepv s (by rw [← e]; exact List.getElem_mem hi')
  · rw [List.pairwise_iff_getElem]
    intro i j hi hj hij
    have hi' : i < ls.length := by simpa using hi
    have hj' : j < ls.length := by simpa using hj
    rw [List.getElem_set, List.getElem_set]
    by_cases e1 : k = i
    · subst e1
      rw [if_pos rfl, if_neg (by omega)]
      exact sepT _ (h.each _ (List.getElem_mem hj')).1 (hpw j _ (List.getElem?_eq_getElem hj') (by omega))
    · rw [if_neg e1]
      by_cases e2 : k = j
      · subst e2
        rw [if_pos rfl]
        exact (sepT _ (h.each _ (List.getElem_mem hi')).1 (hpw i _ (List.getElem?_eq_getElem hi') (by omega))).symm
      · rw [if_neg e2]
        exact (List.pairwise_iff_getElem.1 h.pw) i j hi' hj' hij
end
end

section
open Go.RowKit Go.Shelf
theorem rotate_any (g n c a m b base : Nat) (fv : Value) (L : List PartD) (w : World) (h : PartsIn w base (.slice (some ⟨g, 0, none⟩) n c) L) (hn : n ≤ 1000000) (ham : a < m) (hmb : m < b) (hbn : b ≤ n) :
    Calls Tryz.prog 212 #[.slice (some ⟨g, 0, none⟩) n c, .int .i64 (a : Int), .int .i64 (m : Int), .int .i64 (b : Int), fv] w fun e w' => e = .returned (.tuple #[]) ∧
      ∃ L', PartsIn w' base (.slice (some ⟨g, 0, none⟩) n c) L' ∧ Sh zPart L L' a b ∧ (∀ k, L'.getD k zPart = rotR (fun k => L.getD k zPart) a m b k) ∧ Chg (fun k => k = g) w w' := by
  have H := Lib.hid h
  clear h
  go_enter Tryz.func212, Tryz.ntmps212
  go_wp2
  go_loopw [10, 11] (fun s10 s11 wr => ∃ (i j : Nat) (L1 : List PartD), s10 = .int .i64 (i : Int) ∧ s11 = .int .i64 (j : Int) ∧ 0 < i ∧ 0 < j ∧ a + i ≤ m ∧ m + j ≤ b ∧ Hid (PartsIn wr base (.slice (some ⟨g, 0, none⟩) n c) L1 ∧ Sh zPart L L1 a b ∧ rotR (fun k => L1.getD k zPart) (m - i) m (m + j) = rotR (fun k => L.getD k zPart) a m b ∧ Chg (fun k => k = g) w wr)) (fun s10 s11 _ => (intOf s10).toNat + (intOf s11).toNat)
  case atStart => exact ⟨m - a, b - m, L, by go_num, by go_num, by omega, by omega, by omega, by omega, H.out, Sh.refl _ _ _, by rw [show m - (m - a) = a by omega, show m + (b - m) = b by omega], Chg.refl _ _⟩
  case round =>
    obtain ⟨i, j, L1, rfl, rfl, hi, hj, him, hjb, HJ⟩ := hrel
    have z1 : (i : Int) ≤ (m : Int) := by omega
    have z2 : (m : Int) + (j : Int) ≤ 1000000 := by omega
    by_cases hij : i = j
    · subst hij
      go_wp2_with (
        (go_at_call 220
         refine (swapRange_anyZ g n c (m - i) m i base _ _ _ fv L1 wr HJ.out.1 hn (by omega) (by omega) (by omega) (by omega) (by omega)).mono ?_
         rintro e w2 ⟨rfl, L2, q1, q2, q3, q4⟩
         have HJ2 : Hid (PartsIn w2 base (.slice (some ⟨g, 0, none⟩) n c) L2 ∧ Sh zPart L L2 a b ∧ (∀ k, L2.getD k zPart = rotR (fun k => L.getD k zPart) a m b k) ∧ Chg (fun k => k = g) w w2) :=
           ⟨q1, HJ.out.2.1.trans (q2.mono (by omega) (by omega)), fun k => by rw [q3, rot_last _ (by omega), HJ.out.2.2.1], HJ.out.2.2.2.trans q4⟩
         clear q1 q2 q3 q4))
      go_end0
      exact ⟨rfl, L2, HJ2.out⟩
    · have dne : ((i : Int) != (j : Int)) = true := by simp; omega
      by_cases hlt : j < i
      · have dgt : decide ((i : Int) > (j : Int)) = true := by simp; omega
        have dgt2 : decide ((j : Int) < (i : Int)) = true := by simp; omega
        have dgt3 : decide (j < i) = true := by simp; omega
        clear hij
        go_wp2_with (
          (go_at_call 220
           refine (swapRange_anyZ g n c (m - i) m j base _ _ _ fv L1 wr HJ.out.1 hn (by omega) (by omega) (by omega) (by omega) (by omega)).mono ?_
           rintro e w2 ⟨rfl, L2, q1, q2, q3, q4⟩
           have HJ2 : Hid (PartsIn w2 base (.slice (some ⟨g, 0, none⟩) n c) L2 ∧ Sh zPart L L2 a b ∧ rotR (fun k => L2.getD k zPart) (m - (i - j)) m (m + j) = rotR (fun k => L.getD k zPart) a m b ∧ Chg (fun k => k = g) w w2) :=
             ⟨q1, HJ.out.2.1.trans (q2.mono (by omega) (by omega)), by rw [← HJ.out.2.2.1, ← rot_step1 _ (by omega) hlt]; congr 1; funext k; exact q3 k, HJ.out.2.2.2.trans q4⟩
           clear q1 q2 q3 q4))
        go_roundw
        case rel => exact ⟨i - j, j, L2, by go_num, rfl, by omega, hj, by omega, hjb, HJ2⟩
        case measure => simp [intOf]; omega
      · have dgt : decide ((i : Int) > (j : Int)) = false := by simp; omega
        have dgt2 : decide ((j : Int) < (i : Int)) = false := by simp; omega
        have dgt3 : decide (j < i) = false := by simp; omega
        have hlt2 : i < j := by omega
        clear hij
        go_wp2_with (
          (go_at_call 220
           refine (swapRange_anyZ g n c (m - i) (m + j - i) i base _ _ _ fv L1 wr HJ.out.1 hn (by omega) (by omega) (by omega) (by omega) (by omega)).mono ?_
           rintro e w2 ⟨rfl, L2, q1, q2, q3, q4⟩
           have HJ2 : Hid (PartsIn w2 base (.slice (some ⟨g, 0, none⟩) n c) L2 ∧ Sh zPart L L2 a b ∧ rotR (fun k => L2.getD k zPart) (m - i) m (m + (j - i)) = rotR (fun k => L.getD k zPart) a m b ∧ Chg (fun k => k = g) w w2) :=
             ⟨q1, HJ.out.2.1.trans (q2.mono (by omega) (by omega)), by rw [← HJ.out.2.2.1, ← rot_step2 _ (by omega) hlt2]; congr 1; funext k; exact q3 k, HJ.out.2.2.2.trans q4⟩
           clear q1 q2 q3 q4))
        go_roundw
        case rel => exact ⟨i, j - i, L2, rfl, by go_num, hi, by omega, him, by omega, HJ2⟩
        case measure => simp [intOf]; omega
structure SortJ (af : Nat) (cb : Array Value) (cf : PartD → PartD → Int) (key : PartD → Nat) (base g n c : Nat) (J : List PartD → World → Prop) : Prop where
  enter : ∀ args w, (callFunc af args).run Tryz.prog w = .ok (.enter af args) w
  cmp : ∀ L W, J L W → ∀ p q, p ∈ L → q ∈ L → Calls Tryz.prog af (#[partV p, partV q] ++ cb) W fun e W' => e = .returned (.int .i64 (cf p q)) ∧ Below W.heap.size W W'
  less : ∀ L W, J L W → ∀ p q, p ∈ L → q ∈ L → (cf p q < 0 ↔ key p < key q)
  parts : ∀ L W, J L W → PartsIn W base (.slice (some ⟨g, 0, none⟩) n c) L
  turn : ∀ L L' W W', J L W → L'.Perm L → PartsIn W' base (.slice (some ⟨g, 0, none⟩) n c) L' → Chg (fun k => k = g) W W' → J L' W'
theorem SortJ.ext {af : Nat} {cb : Array Value} {cf : PartD → PartD → Int} {key : PartD → Nat} {base g n c : Nat} {J : List PartD → World → Prop} (S : SortJ af cb cf key base g n c J) {L : List PartD} {W W' : World} (h : J L W) (hb : Below W.heap.size W W') : J L W' :=
  S.turn L L W W' h (List.Perm.refl _) ((S.parts L W h).ext hb) ((chg_below hb).mono fun k hk => hk.elim)
theorem getD_memQ {L : List PartD} {k : Nat} (h : k < L.length) : L.getD k zPart ∈ L := by
  rw [List.getD_eq_getElem?_getD, List.getElem?_eq_getElem h]; exact List.getElem_mem _
theorem insertion_any (af : Nat) (cb : Array Value) (cf : PartD → PartD → Int) (key : PartD → Nat) (base g n c : Nat) (J : List PartD → World → Prop) (S : SortJ af cb cf key base g n c J) (a b : Nat) (L : List PartD) (w : World) (h : J L w) (hn : n ≤ 1000000) (hab : a ≤ b) (hbn : b ≤ n) :
    Calls Tryz.prog 177 #[.slice (some ⟨g, 0, none⟩) n c, .int .i64 (a : Int), .int .i64 (b : Int), .func (.func af) #[] cb] w fun e w' => e = .returned (.tuple #[]) ∧
      ∃ L', J L' w' ∧ Sh zPart L L' a b ∧ Srt zPart key L' a b := by
  have H := Lib.hid h
  have HS := Lib.hid S
  have eF := S.enter
  clear h S
  have S := HS
  clear HS
  go_enter Tryz.func177, Tryz.ntmps177
  go_wp2
  go_loopw [8, 9] (fun s8 _ wr => ∃ (i : Nat) (L1 : List PartD), a + 1 ≤ i ∧ (i ≤ b ∨ i = a + 1) ∧ s8 = .int .i64 (i : Int) ∧ Hid (Srt zPart key L1 a i) ∧ Hid (Sh zPart L L1 a b) ∧ Hid (J L1 wr)) (fun s8 _ _ => b + 1 - (intOf s8).toNat)
  case atStart => exact ⟨a + 1, L, by omega, .inr rfl, by go_num, Srt.one key _ (by omega), Sh.refl _ _ _, H⟩
  case round =>
    obtain ⟨i, L1, hi1, hi2, rfl, HSR, HSH1, HJ1⟩ := hrel
    by_cases hlt : i < b
    · have hlt' : (i : Int) < (b : Int) := by omega
      go_wp2
      go_loopw [9] (fun s9 wi => ∃ (j : Nat) (L2 : List PartD), j ≤ i ∧ s9 = .int .i64 (j : Int) ∧ Hid (InsJ zPart key L2 a i j) ∧ Hid (Sh zPart L L2 a b) ∧ Hid (J L2 wi)) (fun s9 _ => (intOf s9).toNat)
      case atStart => exact ⟨i, L1, by omega, rfl, InsJ.start key HSR.out (by omega), HSH1, HJ1⟩
      case round =>
        obtain ⟨j, L2, hj, rfl, HIJ0, HSH0, HJ⟩ := hrel
        clear HSR HSH1 HJ1
        have haj := HIJ0.out.low.1
        by_cases hja : a < j
        · have dj : decide ((j : Int) > (a : Int)) = true := by simp; omega
          have dj2 : decide ((a : Int) < (j : Int)) = true := by simp; omega
          have dj3 : decide (a < j) = true := by simp; omega
          by_cases hcv : True
          · skip
            have h0 := S.out.parts _ _ HJ.out
            have hL2 := h0.len
            have hp1 : ∀ w', (∃ m : ExtW wr, w' = m.val) → w'.rangeAt g (j * 202) (partC (L2.getD j zPart)) := fun w' ⟨m, e⟩ => by rw [e]; exact part_range (h0.ext m.ext) (by omega)
            have hp2 : ∀ w', (∃ m : ExtW wr, w' = m.val) → w'.rangeAt g ((j - 1) * 202) (partC (L2.getD (j - 1) zPart)) := fun w' ⟨m, e⟩ => by rw [e]; exact part_range (h0.ext m.ext) (by omega)
            have HCM : Hid (∀ m : ExtW wr, Calls Tryz.prog af (#[partV (L2.getD j zPart), partV (L2.getD (j - 1) zPart)] ++ cb) m.val fun e w'' => e = .returned (.int .i64 (cf (L2.getD j zPart) (L2.getD (j - 1) zPart))) ∧ ∃ q : ExtW wr, w'' = q.val) := fun m => quiet_ext (S.out.cmp _ _ (S.out.ext HJ.out m.ext) _ _ (getD_memQ (by omega)) (getD_memQ (by omega)))
            have HLS := Lib.hid (S.out.less _ _ HJ.out _ _ (getD_memQ (L := L2) (k := j) (by omega)) (getD_memQ (L := L2) (k := j - 1) (by omega)))
            obtain ⟨cc, hcc⟩ : ∃ cc, cc = cf (L2.getD j zPart) (L2.getD (j - 1) zPart) := ⟨_, rfl⟩
            rw [← hcc] at HCM HLS
            obtain ⟨xj, hxj⟩ : ∃ xj, xj = L2.getD j zPart := ⟨_, rfl⟩
            obtain ⟨xp, hxp⟩ : ∃ xp, xp = L2.getD (j - 1) zPart := ⟨_, rfl⟩
            rw [← hxj] at hp1 HCM
            rw [← hxp] at hp2 HCM
            have hji : ((j : Int) - 1).toNat = j - 1 := by omega
            have hjj : (0 : Int) ≤ (j : Int) - 1 := by omega
            have hjk : (j : Int) - 1 < (n : Int) := by omega
            have hjl : (j : Int) < (n : Int) := by omega
            clear hcc hxj hxp h0
            go_wp2
            refine region_ext (by kernel_rfl) (by kernel_rfl) ?_
            repeat (first
              | go_big_quiet_skip
              | (refine wpQuiet_load_mid (o := ⟨some 26, .load 128 _, _, _, _, _⟩) (by rfl) 128 _ rfl g (j * 202) rfl (partC xj) _ hp1 Tryz.underlying128 rfl (size_partC _) ?_; simp only [zJ,zG,zH,zI])
              | (refine wpQuiet_load_mid (o := ⟨some 31, .load 128 _, _, _, _, _⟩) (by rfl) 128 _ rfl g ((j - 1) * 202) rfl (partC xp) _ hp2 Tryz.underlying128 rfl (size_partC _) ?_; simp only [zJ,zG,zH,zI])
              | go_big_quiet_step (first | (go_at_fn af; exact HCM.out _)))
            refine wpQuiet_nil ?_
            intro _ hw'
            obtain ⟨n', rfl⟩ := hw'
            have HJ1 := Lib.hid (S.out.ext HJ.out n'.ext)
            generalize n'.val = W8 at *
            clear hp1 hp2 HCM
            by_cases hlv : cc < 0
            · have dcc : decide (cc < 0) = true := by simpa using hlv
              have hkk := HLS.out.1 hlv
              have HIJ : Hid (InsJ zPart key (swapL zPart L2 j (j - 1)) a i (j - 1)) := HIJ0.out.step key hja (by omega) (Nat.le_of_lt hkk)
              have HSH : Hid (Sh zPart L (swapL zPart L2 j (j - 1)) a b) := HSH0.out.trans (Sh.swap L2 (by omega) (by omega) (by omega))
              have h9 := S.out.parts _ _ HJ1.out
              clear hkk HLS
              go_wp2
              have h1 := PartsIn.drew h9
              have hr1 := part_range h1 (k := j) (by omega)
              have hr2 := part_range h1 (k := j - 1) (by omega)
              have ht1 := part_there h1 (k := j) (by omega) (L2.getD (j - 1) zPart)
              have h2 := part_set h1 (k := j) (by omega) (L2.getD (j - 1) zPart)
              have ht2 := part_there h2 (k := j - 1) (by omega) (L2.getD (j) zPart)
              have h3 := part_set h2 (k := j - 1) (by omega) (L2.getD (j) zPart)
              obtain ⟨w8, hw8⟩ : ∃ w8, w8 = W8.drew.setCells g ((j) * 202) (partC (L2.getD (j - 1) zPart)) := ⟨_, rfl⟩
              rw [← hw8] at ht2 h3
              obtain ⟨w9, hw9⟩ : ∃ w9, w9 = w8.setCells g ((j - 1) * 202) (partC (L2.getD (j) zPart)) := ⟨_, rfl⟩
              rw [← hw9] at h3
              have HSW : Hid (PartsIn w9 base (.slice (some ⟨g, 0, none⟩) n c) (swapL zPart L2 (j) (j - 1))) := h3
              have HCW : Hid (Chg (fun k => k = g) W8 w9) := by
                rw [Hid, hw9, hw8]
                exact chg_setCells (S := fun k => k = g) rfl _ _ _ (chg_setCells (S := fun k => k = g) rfl _ _ _ ((Chg.refl _ _).drewN 1))
              clear h1 h2 h3
              generalize L2.getD (j) zPart = xp at *
              generalize L2.getD (j - 1) zPart = xq at *
              refine z_start (fun _ => True) (by kernel_rfl) ?_
              refine z_reads 0 9 (by kernel_rfl) trivial ?_
              simp only [List.take_succ_cons, List.take_zero, List.drop_succ_cons, List.drop_zero]
              repeat (go_big_quiet_step (fail))
              refine wpQuiet_nil ?_
              refine z_reads 10 3 (by kernel_rfl) trivial ?_
              simp only [List.take_succ_cons, List.take_zero, List.drop_succ_cons, List.drop_zero]
              repeat (go_big_quiet_step (fail))
              refine wpQuiet_nil ?_
              refine z_two 9 13 (by kernel_rfl) ?_ ?_
              · refine wpOp_atK rfl rfl ?_
                refine wp_load_mid 128 _ rfl g ((j - 1) * 202) rfl (partC xq) _ hr2 Tryz.underlying128 rfl (size_partC _) ?_
                refine ⟨Or.inr trivial, ?_⟩
                simp only [zJ,zG,zH,zI]
                refine z_one 13 (by kernel_rfl) ?_
                refine wpOp_atK rfl rfl ?_
                refine wp_load_mid 128 _ rfl g ((j) * 202) rfl (partC xp) _ hr1 Tryz.underlying128 rfl (size_partC _) ?_
                refine ⟨Or.inr trivial, ?_⟩
                simp only [zJ,zG,zH,zI]
                refine z_reads 14 1 (by kernel_rfl) trivial ?_
                simp only [List.take_succ_cons, List.take_zero, List.drop_succ_cons, List.drop_zero]
                repeat (go_big_quiet_step (fail))
                refine wpQuiet_nil ?_
                refine z_one 15 (by kernel_rfl) ?_
                refine wpOp_atK rfl rfl ?_
                refine wp_store_mid 128 _ _ rfl g ((j) * 202) (partC xq).toArray rfl rfl ht1 (size_partA _) (all_oneCell_toArray (partC_one _)) ?_
                simp only [put_none, toArr_toList]
                rw [← hw8]
                refine ⟨Or.inr trivial, ?_⟩
                refine z_reads 16 1 (by kernel_rfl) trivial ?_
                simp only [List.take_succ_cons, List.take_zero, List.drop_succ_cons, List.drop_zero]
                repeat (go_big_quiet_step (fail))
                refine wpQuiet_nil ?_
                refine z_one 17 (by kernel_rfl) ?_
                refine wpOp_atK rfl rfl ?_
                refine wp_store_mid 128 _ _ rfl g ((j - 1) * 202) (partC xp).toArray rfl rfl ht2 (size_partA _) (all_oneCell_toArray (partC_one _)) ?_
                simp only [put_none, toArr_toList]
                rw [← hw9]
                refine ⟨Or.inr trivial, ?_⟩
                refine z_done (by kernel_rfl) ?_
                clear hw9 hw8
                have HJW : Hid (J (swapL zPart L2 j (j - 1)) w9) := S.out.turn _ _ _ _ HJ1.out (swapL_perm zPart L2 (by omega) (by omega)) HSW.out HCW.out
                go_wp2
                go_roundw
                case rel => exact ⟨j - 1, _, by omega, by go_num, HIJ, HSH, HJW⟩
                case measure => simp [intOf]; omega
              · refine wpOp_atK rfl rfl ?_
                refine wp_load_mid 128 _ rfl g ((j) * 202) rfl (partC xp) _ hr1 Tryz.underlying128 rfl (size_partC _) ?_
                refine ⟨Or.inr trivial, ?_⟩
                simp only [zJ,zG,zH,zI]
                refine z_one 9 (by kernel_rfl) ?_
                refine wpOp_atK rfl rfl ?_
                refine wp_load_mid 128 _ rfl g ((j - 1) * 202) rfl (partC xq) _ hr2 Tryz.underlying128 rfl (size_partC _) ?_
                refine ⟨Or.inr trivial, ?_⟩
                simp only [zJ,zG,zH,zI]
                refine z_reads 14 1 (by kernel_rfl) trivial ?_
                simp only [List.take_succ_cons, List.take_zero, List.drop_succ_cons, List.drop_zero]
                repeat (go_big_quiet_step (fail))
                refine wpQuiet_nil ?_
                refine z_one 15 (by kernel_rfl) ?_
                refine wpOp_atK rfl rfl ?_
                refine wp_store_mid 128 _ _ rfl g ((j) * 202) (partC xq).toArray rfl rfl ht1 (size_partA _) (all_oneCell_toArray (partC_one _)) ?_
                simp only [put_none, toArr_toList]
                rw [← hw8]
                refine ⟨Or.inr trivial, ?_⟩
                refine z_reads 16 1 (by kernel_rfl) trivial ?_
                simp only [List.take_succ_cons, List.take_zero, List.drop_succ_cons, List.drop_zero]
                repeat (go_big_quiet_step (fail))
                refine wpQuiet_nil ?_
                refine z_one 17 (by kernel_rfl) ?_
                refine wpOp_atK rfl rfl ?_
                refine wp_store_mid 128 _ _ rfl g ((j - 1) * 202) (partC xp).toArray rfl rfl ht2 (size_partA _) (all_oneCell_toArray (partC_one _)) ?_
                simp only [put_none, toArr_toList]
                rw [← hw9]
                refine ⟨Or.inr trivial, ?_⟩
                refine z_done (by kernel_rfl) ?_
                clear hw9 hw8
                have HJW : Hid (J (swapL zPart L2 j (j - 1)) w9) := S.out.turn _ _ _ _ HJ1.out (swapL_perm zPart L2 (by omega) (by omega)) HSW.out HCW.out
                go_wp2
                go_roundw
                case rel => exact ⟨j - 1, _, by omega, by go_num, HIJ, HSH, HJW⟩
                case measure => simp [intOf]; omega
            · have dcc : decide (cc < 0) = false := by simpa using hlv
              have HSR2 : Hid (Srt zPart key L2 a (i + 1)) := HIJ0.out.fin key (.inr (Nat.le_of_not_lt fun h => hlv (HLS.out.2 h)))
              clear HLS
              go_wp2
              go_roundw
              case rel => exact ⟨i + 1, L2, by omega, .inl (by omega), by go_num, HSR2, HSH0, HJ1⟩
              case measure => simp [intOf]; omega
          · exact absurd trivial hcv
        · have dj : decide ((j : Int) > (a : Int)) = false := by simp; omega
          have dj2 : decide ((a : Int) < (j : Int)) = false := by simp; omega
          have dj3 : decide (a < j) = false := by simp; omega
          have HSR2 : Hid (Srt zPart key L2 a (i + 1)) := HIJ0.out.fin key (.inl (by omega))
          go_wp2
          refine region_ext (by kernel_rfl) (by kernel_rfl) ?_
          repeat (first
            | go_big_quiet_skip
            | go_big_quiet_step (fail))
          refine wpQuiet_nil ?_
          intro _ hw'
          obtain ⟨n', rfl⟩ := hw'
          have HJ1 := Lib.hid (S.out.ext HJ.out n'.ext)
          generalize n'.val = W8 at *
          go_wp2
          go_roundw
          case rel => exact ⟨i + 1, L2, by omega, .inl (by omega), by go_num, HSR2, HSH0, HJ1⟩
          case measure => simp [intOf]; omega
    · have hlt' : ¬ (i : Int) < (b : Int) := by omega
      have HF : Hid (Srt zPart key L1 a b) := by
        by_cases e : i = b
        · subst e; exact HSR.out
        · exact Srt.one key _ (by omega)
      go_wp2
      go_end0
      exact ⟨rfl, L1, HJ1.out, HSH1.out, HF.out⟩
end

section
open Go.RowKit Go.Shelf
theorem symLeft_any (af : Nat) (cb : Array Value) (cf : PartD → PartD → Int) (key : PartD → Nat) (base g n c : Nat) (J : List PartD → World → Prop) (S : SortJ af cb cf key base g n c J) (hn : n ≤ 1000000) (a m b : Nat) (L : List PartD) (w : World) (h : J L w) (ham : a < m) (hmb : m < b) (hbn : b ≤ n) (hs1 : Srt zPart key L a m) (hs2 : Srt zPart key L m b) (h1 : m = a + 1) :
    Calls Tryz.prog 178 #[.slice (some ⟨g, 0, none⟩) n c, .int .i64 (a : Int), .int .i64 (m : Int), .int .i64 (b : Int), .func (.func af) #[] cb] w fun e w' => e = .returned (.tuple #[]) ∧
      ∃ L', J L' w' ∧ Sh zPart L L' a b ∧ Srt zPart key L' a b := by
  have H := Lib.hid h
  have HS := Lib.hid S
  have eF := S.enter
  have HS1 := Lib.hid hs1
  have HS2 := Lib.hid hs2
  have hlen := (S.parts _ _ h).len
  have zab : (a : Int) < (m : Int) := by omega
  have zmb : (m : Int) < (b : Int) := by omega
  have zbn : (b : Int) ≤ 1000000 := by omega
  clear h S hs1 hs2
  have S := HS
  clear HS
  have d1 : ((m : Int) - (a : Int) == 1) = true := by simp; omega
  go_enter Tryz.func178, Tryz.ntmps178
  go_wp2
  go_loopw [10, 11, 12] (fun s10 s11 _ wr => ∃ i j : Nat, m ≤ i ∧ i ≤ j ∧ j ≤ b ∧ s10 = .int .i64 (i : Int) ∧ s11 = .int .i64 (j : Int) ∧ Hid (i = m ∨ kAt zPart key L (i - 1) ≤ kAt zPart key L a) ∧ Hid (j = b ∨ kAt zPart key L a ≤ kAt zPart key L j) ∧ Hid (J L wr)) (fun s10 s11 _ _ => (intOf s11).toNat - (intOf s10).toNat)
  case atStart => exact ⟨m, b, by omega, by omega, by omega, rfl, rfl, .inl rfl, .inl rfl, H⟩
  case round =>
    obtain ⟨i, j, hi1, hij, hjb, rfl, rfl, HI, HJJ, HJ⟩ := hrel
    by_cases hlt : i < j
    · have hlt' : (i : Int) < (j : Int) := by omega
      obtain ⟨q, hq⟩ : ∃ q : Nat, q = (i + j) / 2 := ⟨_, rfl⟩
      have hmid : ((i : Int) + (j : Int)) / 2 = (q : Int) := by omega
      have hq1 : i ≤ q := by omega
      have hq2 : q < j := by omega
      have hqn : (q : Int) < (n : Int) := by omega
      have han : (a : Int) < (n : Int) := by omega
      have zij : (i : Int) + (j : Int) ≤ 2000000 := by omega
      clear hq
      have h0 := S.out.parts _ _ HJ.out
      have hL2 := h0.len
      have hp1 : ∀ w', (∃ nn : ExtW wr, w' = nn.val) → w'.rangeAt g (q * 202) (partC (L.getD q zPart)) := fun w' ⟨nn, e⟩ => by rw [e]; exact part_range (h0.ext nn.ext) (by omega)
      have hp2 : ∀ w', (∃ nn : ExtW wr, w' = nn.val) → w'.rangeAt g (a * 202) (partC (L.getD a zPart)) := fun w' ⟨nn, e⟩ => by rw [e]; exact part_range (h0.ext nn.ext) (by omega)
      have HCM : Hid (∀ nn : ExtW wr, Calls Tryz.prog af (#[partV (L.getD q zPart), partV (L.getD a zPart)] ++ cb) nn.val fun e w'' => e = .returned (.int .i64 (cf (L.getD q zPart) (L.getD a zPart))) ∧ ∃ q : ExtW wr, w'' = q.val) := fun nn => quiet_ext (S.out.cmp _ _ (S.out.ext HJ.out nn.ext) _ _ (getD_memQ (by omega)) (getD_memQ (by omega)))
      have HLS := Lib.hid (S.out.less _ _ HJ.out _ _ (getD_memQ (L := L) (k := q) (by omega)) (getD_memQ (L := L) (k := a) (by omega)))
      obtain ⟨cc, hcc⟩ : ∃ cc, cc = cf (L.getD q zPart) (L.getD a zPart) := ⟨_, rfl⟩
      rw [← hcc] at HCM HLS
      obtain ⟨xj, hxj⟩ : ∃ xj, xj = L.getD q zPart := ⟨_, rfl⟩
      obtain ⟨xp, hxp⟩ : ∃ xp, xp = L.getD a zPart := ⟨_, rfl⟩
      rw [← hxj] at hp1 HCM
      rw [← hxp] at hp2 HCM
      clear hcc hxj hxp h0
      go_wp2
      refine region_ext (by kernel_rfl) (by kernel_rfl) ?_
      repeat (first
        | go_big_quiet_skip
        | (refine wpQuiet_load_mid (o := ⟨some 44, .load 128 _, _, _, _, _⟩) (by rfl) 128 _ rfl g (q * 202) rfl (partC xj) _ hp1 Tryz.underlying128 rfl (size_partC _) ?_; simp only [zJ,zG,zH,zI])
        | (refine wpQuiet_load_mid (o := ⟨some 48, .load 128 _, _, _, _, _⟩) (by rfl) 128 _ rfl g (a * 202) rfl (partC xp) _ hp2 Tryz.underlying128 rfl (size_partC _) ?_; simp only [zJ,zG,zH,zI])
        | go_big_quiet_step (first | (go_at_fn af; exact HCM.out _)))
      refine wpQuiet_nil ?_
      intro _ hw'
      obtain ⟨n', rfl⟩ := hw'
      have HJ1 := Lib.hid (S.out.ext HJ.out n'.ext)
      generalize n'.val = W8 at *
      clear hp1 hp2 HCM
      by_cases hlv : cc < 0
      · have dcc : decide (cc < 0) = true := by simpa using hlv
        have HI2 : Hid (q + 1 = m ∨ kAt zPart key L (q + 1 - 1) ≤ kAt zPart key L a) := .inr (Nat.le_of_lt (HLS.out.1 hlv))
        clear HLS
        go_wp2
        go_roundw
        case rel => exact ⟨q + 1, j, by omega, by omega, hjb, by go_num, rfl, HI2, HJJ, HJ1⟩
        case measure => simp [intOf]; omega
      · have dcc : decide (cc < 0) = false := by simpa using hlv
        have HJ2 : Hid (q = b ∨ kAt zPart key L a ≤ kAt zPart key L q) := .inr (Nat.le_of_not_lt fun h => hlv (HLS.out.2 h))
        clear HLS
        go_wp2
        go_roundw
        case rel => exact ⟨i, q, hi1, hq1, by omega, rfl, rfl, HI, HJ2, HJ1⟩
        case measure => simp [intOf]; omega
    · obtain rfl : i = j := by omega
      have hlt' : ¬ (i : Int) < (i : Int) := by omega
      clear hlt
      go_wp2
      go_loopw [13] (fun s13 wi => ∃ (k : Nat) (L2 : List PartD), a ≤ k ∧ k + 1 ≤ i ∧ s13 = .int .i64 (k : Int) ∧ Hid (∀ x, L2.getD x zPart = rotR (fun x => L.getD x zPart) a (a + 1) (k + 1) x) ∧ Hid (Sh zPart L L2 a b) ∧ Hid (J L2 wi)) (fun s13 _ => i - (intOf s13).toNat)
      case atStart => exact ⟨a, L, by omega, by omega, rfl, fun x => by rw [bub_zero], Sh.refl _ _ _, HJ⟩
      case round =>
        obtain ⟨k, L2, hk1, hk2, rfl, HRT, HSH, HJ2⟩ := hrel
        by_cases hki : k + 1 < i
        · have hki' : (k : Int) < (i : Int) - 1 := by omega
          have h9 := S.out.parts _ _ HJ2.out
          have hL2 := h9.len
          have HRT2 : Hid (∀ x, (swapL zPart L2 k (k + 1)).getD x zPart = rotR (fun x => L.getD x zPart) a (a + 1) (k + 1 + 1) x) := fun x => by
            rw [swapL_at zPart L2 (by omega) (by omega), ← bub_up _ hk1, HRT.out, HRT.out, HRT.out]
          have HSH2 : Hid (Sh zPart L (swapL zPart L2 k (k + 1)) a b) := HSH.out.trans (Sh.swap L2 (by omega) (by omega) (by omega))
          have zk1 : (k : Int) + 1 < (n : Int) := by omega
          have zk2 : (k : Int) < (n : Int) := by omega
          go_wp2
          have h1 := PartsIn.drew h9
          have hr1 := part_range h1 (k := k) (by omega)
          have hr2 := part_range h1 (k := k + 1) (by omega)
          have ht1 := part_there h1 (k := k) (by omega) (L2.getD (k + 1) zPart)
          have h2 := part_set h1 (k := k) (by omega) (L2.getD (k + 1) zPart)
          have ht2 := part_there h2 (k := k + 1) (by omega) (L2.getD (k) zPart)
          have h3 := part_set h2 (k := k + 1) (by omega) (L2.getD (k) zPart)
          obtain ⟨w8, hw8⟩ : ∃ w8, w8 = wr.drew.setCells g ((k) * 202) (partC (L2.getD (k + 1) zPart)) := ⟨_, rfl⟩
          rw [← hw8] at ht2 h3
          obtain ⟨w9, hw9⟩ : ∃ w9, w9 = w8.setCells g ((k + 1) * 202) (partC (L2.getD (k) zPart)) := ⟨_, rfl⟩
          rw [← hw9] at h3
          have HSW : Hid (PartsIn w9 base (.slice (some ⟨g, 0, none⟩) n c) (swapL zPart L2 (k) (k + 1))) := h3
          have HCW : Hid (Chg (fun k => k = g) wr w9) := by
            rw [Hid, hw9, hw8]
            exact chg_setCells (S := fun k => k = g) rfl _ _ _ (chg_setCells (S := fun k => k = g) rfl _ _ _ ((Chg.refl _ _).drewN 1))
          clear h1 h2 h3
          generalize L2.getD (k) zPart = xp at *
          generalize L2.getD (k + 1) zPart = xq at *
          refine z_start (fun _ => True) (by kernel_rfl) ?_
          refine z_reads 0 9 (by kernel_rfl) trivial ?_
          simp only [List.take_succ_cons, List.take_zero, List.drop_succ_cons, List.drop_zero]
          repeat (go_big_quiet_step (fail))
          refine wpQuiet_nil ?_
          refine z_reads 10 3 (by kernel_rfl) trivial ?_
          simp only [List.take_succ_cons, List.take_zero, List.drop_succ_cons, List.drop_zero]
          repeat (go_big_quiet_step (fail))
          refine wpQuiet_nil ?_
          refine z_two 9 13 (by kernel_rfl) ?_ ?_
          · refine wpOp_atK rfl rfl ?_
            refine wp_load_mid 128 _ rfl g ((k + 1) * 202) rfl (partC xq) _ hr2 Tryz.underlying128 rfl (size_partC _) ?_
            refine ⟨Or.inr trivial, ?_⟩
            simp only [zJ,zG,zH,zI]
            refine z_one 13 (by kernel_rfl) ?_
            refine wpOp_atK rfl rfl ?_
            refine wp_load_mid 128 _ rfl g ((k) * 202) rfl (partC xp) _ hr1 Tryz.underlying128 rfl (size_partC _) ?_
            refine ⟨Or.inr trivial, ?_⟩
            simp only [zJ,zG,zH,zI]
            refine z_reads 14 1 (by kernel_rfl) trivial ?_
            simp only [List.take_succ_cons, List.take_zero, List.drop_succ_cons, List.drop_zero]
            repeat (go_big_quiet_step (fail))
            refine wpQuiet_nil ?_
            refine z_one 15 (by kernel_rfl) ?_
            refine wpOp_atK rfl rfl ?_
            refine wp_store_mid 128 _ _ rfl g ((k) * 202) (partC xq).toArray rfl rfl ht1 (size_partA _) (all_oneCell_toArray (partC_one _)) ?_
            simp only [put_none, toArr_toList]
            rw [← hw8]
            refine ⟨Or.inr trivial, ?_⟩
            refine z_reads 16 1 (by kernel_rfl) trivial ?_
            simp only [List.take_succ_cons, List.take_zero, List.drop_succ_cons, List.drop_zero]
            repeat (go_big_quiet_step (fail))
            refine wpQuiet_nil ?_
            refine z_one 17 (by kernel_rfl) ?_
            refine wpOp_atK rfl rfl ?_
            refine wp_store_mid 128 _ _ rfl g ((k + 1) * 202) (partC xp).toArray rfl rfl ht2 (size_partA _) (all_oneCell_toArray (partC_one _)) ?_
            simp only [put_none, toArr_toList]
            rw [← hw9]
            refine ⟨Or.inr trivial, ?_⟩
            refine z_done (by kernel_rfl) ?_
            clear hw9 hw8
            have HJW : Hid (J (swapL zPart L2 k (k + 1)) w9) := S.out.turn _ _ _ _ HJ2.out (swapL_perm zPart L2 (by omega) (by omega)) HSW.out HCW.out
            go_wp2
            go_roundw
            case rel => exact ⟨k + 1, _, by omega, by omega, by go_num, HRT2, HSH2, HJW⟩
            case measure => simp [intOf]; omega
          · refine wpOp_atK rfl rfl ?_
            refine wp_load_mid 128 _ rfl g ((k) * 202) rfl (partC xp) _ hr1 Tryz.underlying128 rfl (size_partC _) ?_
            refine ⟨Or.inr trivial, ?_⟩
            simp only [zJ,zG,zH,zI]
            refine z_one 9 (by kernel_rfl) ?_
            refine wpOp_atK rfl rfl ?_
            refine wp_load_mid 128 _ rfl g ((k + 1) * 202) rfl (partC xq) _ hr2 Tryz.underlying128 rfl (size_partC _) ?_
            refine ⟨Or.inr trivial, ?_⟩
            simp only [zJ,zG,zH,zI]
            refine z_reads 14 1 (by kernel_rfl) trivial ?_
            simp only [List.take_succ_cons, List.take_zero, List.drop_succ_cons, List.drop_zero]
            repeat (go_big_quiet_step (fail))
            refine wpQuiet_nil ?_
            refine z_one 15 (by kernel_rfl) ?_
            refine wpOp_atK rfl rfl ?_
            refine wp_store_mid 128 _ _ rfl g ((k) * 202) (partC xq).toArray rfl rfl ht1 (size_partA _) (all_oneCell_toArray (partC_one _)) ?_
            simp only [put_none, toArr_toList]
            rw [← hw8]
            refine ⟨Or.inr trivial, ?_⟩
            refine z_reads 16 1 (by kernel_rfl) trivial ?_
            simp only [List.take_succ_cons, List.take_zero, List.drop_succ_cons, List.drop_zero]
            repeat (go_big_quiet_step (fail))
            refine wpQuiet_nil ?_
            refine z_one 17 (by kernel_rfl) ?_
            refine wpOp_atK rfl rfl ?_
            refine wp_store_mid 128 _ _ rfl g ((k + 1) * 202) (partC xp).toArray rfl rfl ht2 (size_partA _) (all_oneCell_toArray (partC_one _)) ?_
            simp only [put_none, toArr_toList]
            rw [← hw9]
            refine ⟨Or.inr trivial, ?_⟩
            refine z_done (by kernel_rfl) ?_
            clear hw9 hw8
            have HJW : Hid (J (swapL zPart L2 k (k + 1)) w9) := S.out.turn _ _ _ _ HJ2.out (swapL_perm zPart L2 (by omega) (by omega)) HSW.out HCW.out
            go_wp2
            go_roundw
            case rel => exact ⟨k + 1, _, by omega, by omega, by go_num, HRT2, HSH2, HJW⟩
            case measure => simp [intOf]; omega
        · have hki' : ¬ (k : Int) < (i : Int) - 1 := by omega
          have hik : i = k + 1 := by omega
          have HF : Hid (Srt zPart key L2 a b) := by
            subst hik
            refine put_left (L := L) (i := k + 1) (by rw [← h1]; exact HS2.out) (by omega) hjb (HI.out.imp (fun h => by omega) id) HJJ.out HRT.out
          go_wp2
          (try simp only [Exit.inBlock, Exit.then])
          refine bodyPost_ret (results_none rfl _ _ _) rfl ?_
          exact ⟨rfl, L2, HJ2.out, HSH.out, HF.out⟩
theorem symRight_any (af : Nat) (cb : Array Value) (cf : PartD → PartD → Int) (key : PartD → Nat) (base g n c : Nat) (J : List PartD → World → Prop) (S : SortJ af cb cf key base g n c J) (hn : n ≤ 1000000) (a m b : Nat) (L : List PartD) (w : World) (h : J L w) (ham : a < m) (hmb : m < b) (hbn : b ≤ n) (hs1 : Srt zPart key L a m) (hs2 : Srt zPart key L m b) (h1 : m ≠ a + 1) (h2 : b = m + 1) :
    Calls Tryz.prog 178 #[.slice (some ⟨g, 0, none⟩) n c, .int .i64 (a : Int), .int .i64 (m : Int), .int .i64 (b : Int), .func (.func af) #[] cb] w fun e w' => e = .returned (.tuple #[]) ∧
      ∃ L', J L' w' ∧ Sh zPart L L' a b ∧ Srt zPart key L' a b := by
  have H := Lib.hid h
  have HS := Lib.hid S
  have eF := S.enter
  have HS1 := Lib.hid hs1
  have HS2 := Lib.hid hs2
  have hlen := (S.parts _ _ h).len
  have zab : (a : Int) < (m : Int) := by omega
  have zmb : (m : Int) < (b : Int) := by omega
  have zbn : (b : Int) ≤ 1000000 := by omega
  clear h S hs1 hs2
  have S := HS
  clear HS
  have d1 : ((m : Int) - (a : Int) == 1) = false := by simp; omega
  have d2 : ((b : Int) - (m : Int) == 1) = true := by simp; omega
  clear h1
  go_enter Tryz.func178, Tryz.ntmps178
  go_wp2
  go_loopw [14, 15, 16] (fun s14 s15 _ wr => ∃ i j : Nat, a ≤ i ∧ i ≤ j ∧ j ≤ m ∧ s14 = .int .i64 (i : Int) ∧ s15 = .int .i64 (j : Int) ∧ Hid (i = a ∨ kAt zPart key L (i - 1) ≤ kAt zPart key L m) ∧ Hid (j = m ∨ kAt zPart key L m ≤ kAt zPart key L j) ∧ Hid (J L wr)) (fun s14 s15 _ _ => (intOf s15).toNat - (intOf s14).toNat)
  case atStart => exact ⟨a, m, by omega, by omega, by omega, rfl, rfl, .inl rfl, .inl rfl, H⟩
  case round =>
    obtain ⟨i, j, hi1, hij, hjb, rfl, rfl, HI, HJJ, HJ⟩ := hrel
    by_cases hlt : i < j
    · have hlt' : (i : Int) < (j : Int) := by omega
      obtain ⟨q, hq⟩ : ∃ q : Nat, q = (i + j) / 2 := ⟨_, rfl⟩
      have hmid : ((i : Int) + (j : Int)) / 2 = (q : Int) := by omega
      have hq1 : i ≤ q := by omega
      have hq2 : q < j := by omega
      have hqn : (q : Int) < (n : Int) := by omega
      have han : (m : Int) < (n : Int) := by omega
      have zij : (i : Int) + (j : Int) ≤ 2000000 := by omega
      clear hq
      have h0 := S.out.parts _ _ HJ.out
      have hL2 := h0.len
      have hp1 : ∀ w', (∃ nn : ExtW wr, w' = nn.val) → w'.rangeAt g (m * 202) (partC (L.getD m zPart)) := fun w' ⟨nn, e⟩ => by rw [e]; exact part_range (h0.ext nn.ext) (by omega)
      have hp2 : ∀ w', (∃ nn : ExtW wr, w' = nn.val) → w'.rangeAt g (q * 202) (partC (L.getD q zPart)) := fun w' ⟨nn, e⟩ => by rw [e]; exact part_range (h0.ext nn.ext) (by omega)
      have HCM : Hid (∀ nn : ExtW wr, Calls Tryz.prog af (#[partV (L.getD m zPart), partV (L.getD q zPart)] ++ cb) nn.val fun e w'' => e = .returned (.int .i64 (cf (L.getD m zPart) (L.getD q zPart))) ∧ ∃ q : ExtW wr, w'' = q.val) := fun nn => quiet_ext (S.out.cmp _ _ (S.out.ext HJ.out nn.ext) _ _ (getD_memQ (by omega)) (getD_memQ (by omega)))
      have HLS := Lib.hid (S.out.less _ _ HJ.out _ _ (getD_memQ (L := L) (k := m) (by omega)) (getD_memQ (L := L) (k := q) (by omega)))
      obtain ⟨cc, hcc⟩ : ∃ cc, cc = cf (L.getD m zPart) (L.getD q zPart) := ⟨_, rfl⟩
      rw [← hcc] at HCM HLS
      obtain ⟨xj, hxj⟩ : ∃ xj, xj = L.getD m zPart := ⟨_, rfl⟩
      obtain ⟨xp, hxp⟩ : ∃ xp, xp = L.getD q zPart := ⟨_, rfl⟩
      rw [← hxj] at hp1 HCM
      rw [← hxp] at hp2 HCM
      clear hcc hxj hxp h0
      go_wp2
      refine region_ext (by kernel_rfl) (by kernel_rfl) ?_
      repeat (first
        | go_big_quiet_skip
        | (refine wpQuiet_load_mid (o := ⟨some 96, .load 128 _, _, _, _, _⟩) (by rfl) 128 _ rfl g (m * 202) rfl (partC xj) _ hp1 Tryz.underlying128 rfl (size_partC _) ?_; simp only [zJ,zG,zH,zI])
        | (refine wpQuiet_load_mid (o := ⟨some 100, .load 128 _, _, _, _, _⟩) (by rfl) 128 _ rfl g (q * 202) rfl (partC xp) _ hp2 Tryz.underlying128 rfl (size_partC _) ?_; simp only [zJ,zG,zH,zI])
        | go_big_quiet_step (first | (go_at_fn af; exact HCM.out _)))
      refine wpQuiet_nil ?_
      intro _ hw'
      obtain ⟨n', rfl⟩ := hw'
      have HJ1 := Lib.hid (S.out.ext HJ.out n'.ext)
      generalize n'.val = W8 at *
      clear hp1 hp2 HCM
      by_cases hlv : cc < 0
      · have dcc : decide (cc < 0) = true := by simpa using hlv
        simp only [dcc, Bool.not_true]
        have HJ2 : Hid (q = m ∨ kAt zPart key L m ≤ kAt zPart key L q) := .inr (Nat.le_of_lt (HLS.out.1 hlv))
        clear HLS
        go_wp2
        go_roundw
        case rel => exact ⟨i, q, hi1, hq1, by omega, rfl, rfl, HI, HJ2, HJ1⟩
        case measure => simp [intOf]; omega
      · have dcc : decide (cc < 0) = false := by simpa using hlv
        simp only [dcc, Bool.not_false]
        have HI2 : Hid (q + 1 = a ∨ kAt zPart key L (q + 1 - 1) ≤ kAt zPart key L m) := .inr (Nat.le_of_not_lt fun h => hlv (HLS.out.2 h))
        clear HLS
        go_wp2
        go_roundw
        case rel => exact ⟨q + 1, j, by omega, by omega, hjb, by go_num, rfl, HI2, HJJ, HJ1⟩
        case measure => simp [intOf]; omega
    · obtain rfl : i = j := by omega
      have hlt' : ¬ (i : Int) < (i : Int) := by omega
      clear hlt
      go_wp2
      go_loopw [17] (fun s17 wi => ∃ (k : Nat) (L2 : List PartD), i ≤ k ∧ k ≤ m ∧ s17 = .int .i64 (k : Int) ∧ Hid (∀ x, L2.getD x zPart = rotR (fun x => L.getD x zPart) k m (m + 1) x) ∧ Hid (Sh zPart L L2 a b) ∧ Hid (J L2 wi)) (fun s17 _ => (intOf s17).toNat)
      case atStart => exact ⟨m, L, by omega, by omega, rfl, fun x => by rw [bub_zero2], Sh.refl _ _ _, HJ⟩
      case round =>
        obtain ⟨k, L2, hk1, hk2, rfl, HRT, HSH, HJ2⟩ := hrel
        by_cases hki : i < k
        · have hki' : (k : Int) > (i : Int) := by omega
          have hki2 : (i : Int) < (k : Int) := by omega
          obtain ⟨kp, hkp⟩ : ∃ kp, k = kp + 1 := ⟨k - 1, by omega⟩
          have h9 := S.out.parts _ _ HJ2.out
          have hL2 := h9.len
          have HRT2 : Hid (∀ x, (swapL zPart L2 k (k - 1)).getD x zPart = rotR (fun x => L.getD x zPart) (k - 1) m (m + 1) x) := fun x => by
            rw [swapL_at zPart L2 (by omega) (by omega), hkp, Nat.add_sub_cancel, ← bub_down _ (show kp + 1 ≤ m by omega), HRT.out, HRT.out, HRT.out, hkp]
          have HSH2 : Hid (Sh zPart L (swapL zPart L2 k (k - 1)) a b) := HSH.out.trans (Sh.swap L2 (by omega) (by omega) (by omega))
          have hji : ((k : Int) - 1).toNat = k - 1 := by omega
          have hjj : (0 : Int) ≤ (k : Int) - 1 := by omega
          have hjk : (k : Int) - 1 < (n : Int) := by omega
          have hjl : (k : Int) < (n : Int) := by omega
          clear hkp
          go_wp2
          have h1 := PartsIn.drew h9
          have hr1 := part_range h1 (k := k) (by omega)
          have hr2 := part_range h1 (k := k - 1) (by omega)
          have ht1 := part_there h1 (k := k) (by omega) (L2.getD (k - 1) zPart)
          have h2 := part_set h1 (k := k) (by omega) (L2.getD (k - 1) zPart)
          have ht2 := part_there h2 (k := k - 1) (by omega) (L2.getD (k) zPart)
          have h3 := part_set h2 (k := k - 1) (by omega) (L2.getD (k) zPart)
          obtain ⟨w8, hw8⟩ : ∃ w8, w8 = wr.drew.setCells g ((k) * 202) (partC (L2.getD (k - 1) zPart)) := ⟨_, rfl⟩
          rw [← hw8] at ht2 h3
          obtain ⟨w9, hw9⟩ : ∃ w9, w9 = w8.setCells g ((k - 1) * 202) (partC (L2.getD (k) zPart)) := ⟨_, rfl⟩
          rw [← hw9] at h3
          have HSW : Hid (PartsIn w9 base (.slice (some ⟨g, 0, none⟩) n c) (swapL zPart L2 (k) (k - 1))) := h3
          have HCW : Hid (Chg (fun k => k = g) wr w9) := by
            rw [Hid, hw9, hw8]
            exact chg_setCells (S := fun k => k = g) rfl _ _ _ (chg_setCells (S := fun k => k = g) rfl _ _ _ ((Chg.refl _ _).drewN 1))
          clear h1 h2 h3
          generalize L2.getD (k) zPart = xp at *
          generalize L2.getD (k - 1) zPart = xq at *
          refine z_start (fun _ => True) (by kernel_rfl) ?_
          refine z_reads 0 9 (by kernel_rfl) trivial ?_
          simp only [List.take_succ_cons, List.take_zero, List.drop_succ_cons, List.drop_zero]
          repeat (go_big_quiet_step (fail))
          refine wpQuiet_nil ?_
          refine z_reads 10 3 (by kernel_rfl) trivial ?_
          simp only [List.take_succ_cons, List.take_zero, List.drop_succ_cons, List.drop_zero]
          repeat (go_big_quiet_step (fail))
          refine wpQuiet_nil ?_
          refine z_two 9 13 (by kernel_rfl) ?_ ?_
          · refine wpOp_atK rfl rfl ?_
            refine wp_load_mid 128 _ rfl g ((k - 1) * 202) rfl (partC xq) _ hr2 Tryz.underlying128 rfl (size_partC _) ?_
            refine ⟨Or.inr trivial, ?_⟩
            simp only [zJ,zG,zH,zI]
            refine z_one 13 (by kernel_rfl) ?_
            refine wpOp_atK rfl rfl ?_
            refine wp_load_mid 128 _ rfl g ((k) * 202) rfl (partC xp) _ hr1 Tryz.underlying128 rfl (size_partC _) ?_
            refine ⟨Or.inr trivial, ?_⟩
            simp only [zJ,zG,zH,zI]
            refine z_reads 14 1 (by kernel_rfl) trivial ?_
            simp only [List.take_succ_cons, List.take_zero, List.drop_succ_cons, List.drop_zero]
            repeat (go_big_quiet_step (fail))
            refine wpQuiet_nil ?_
            refine z_one 15 (by kernel_rfl) ?_
            refine wpOp_atK rfl rfl ?_
            refine wp_store_mid 128 _ _ rfl g ((k) * 202) (partC xq).toArray rfl rfl ht1 (size_partA _) (all_oneCell_toArray (partC_one _)) ?_
            simp only [put_none, toArr_toList]
            rw [← hw8]
            refine ⟨Or.inr trivial, ?_⟩
            refine z_reads 16 1 (by kernel_rfl) trivial ?_
            simp only [List.take_succ_cons, List.take_zero, List.drop_succ_cons, List.drop_zero]
            repeat (go_big_quiet_step (fail))
            refine wpQuiet_nil ?_
            refine z_one 17 (by kernel_rfl) ?_
            refine wpOp_atK rfl rfl ?_
            refine wp_store_mid 128 _ _ rfl g ((k - 1) * 202) (partC xp).toArray rfl rfl ht2 (size_partA _) (all_oneCell_toArray (partC_one _)) ?_
            simp only [put_none, toArr_toList]
            rw [← hw9]
            refine ⟨Or.inr trivial, ?_⟩
            refine z_done (by kernel_rfl) ?_
            clear hw9 hw8
            have HJW : Hid (J (swapL zPart L2 k (k - 1)) w9) := S.out.turn _ _ _ _ HJ2.out (swapL_perm zPart L2 (by omega) (by omega)) HSW.out HCW.out
            go_wp2
            go_roundw
            case rel => exact ⟨k - 1, _, by omega, by omega, by go_num, HRT2, HSH2, HJW⟩
            case measure => simp [intOf]; omega
          · refine wpOp_atK rfl rfl ?_
            refine wp_load_mid 128 _ rfl g ((k) * 202) rfl (partC xp) _ hr1 Tryz.underlying128 rfl (size_partC _) ?_
            refine ⟨Or.inr trivial, ?_⟩
            simp only [zJ,zG,zH,zI]
            refine z_one 9 (by kernel_rfl) ?_
            refine wpOp_atK rfl rfl ?_
            refine wp_load_mid 128 _ rfl g ((k - 1) * 202) rfl (partC xq) _ hr2 Tryz.underlying128 rfl (size_partC _) ?_
            refine ⟨Or.inr trivial, ?_⟩
            simp only [zJ,zG,zH,zI]
            refine z_reads 14 1 (by kernel_rfl) trivial ?_
            simp only [List.take_succ_cons, List.take_zero, List.drop_succ_cons, List.drop_zero]
            repeat (go_big_quiet_step (fail))
            refine wpQuiet_nil ?_
            refine z_one 15 (by kernel_rfl) ?_
            refine wpOp_atK rfl rfl ?_
            refine wp_store_mid 128 _ _ rfl g ((k) * 202) (partC xq).toArray rfl rfl ht1 (size_partA _) (all_oneCell_toArray (partC_one _)) ?_
            simp only [put_none, toArr_toList]
            rw [← hw8]
            refine ⟨Or.inr trivial, ?_⟩
            refine z_reads 16 1 (by kernel_rfl) trivial ?_
            simp only [List.take_succ_cons, List.take_zero, List.drop_succ_cons, List.drop_zero]
            repeat (go_big_quiet_step (fail))
            refine wpQuiet_nil ?_
            refine z_one 17 (by kernel_rfl) ?_
            refine wpOp_atK rfl rfl ?_
            refine wp_store_mid 128 _ _ rfl g ((k - 1) * 202) (partC xp).toArray rfl rfl ht2 (size_partA _) (all_oneCell_toArray (partC_one _)) ?_
            simp only [put_none, toArr_toList]
            rw [← hw9]
            refine ⟨Or.inr trivial, ?_⟩
            refine z_done (by kernel_rfl) ?_
            clear hw9 hw8
            have HJW : Hid (J (swapL zPart L2 k (k - 1)) w9) := S.out.turn _ _ _ _ HJ2.out (swapL_perm zPart L2 (by omega) (by omega)) HSW.out HCW.out
            go_wp2
            go_roundw
            case rel => exact ⟨k - 1, _, by omega, by omega, by go_num, HRT2, HSH2, HJW⟩
            case measure => simp [intOf]; omega
        · have hki' : ¬ (k : Int) > (i : Int) := by omega
          have hki2 : ¬ (i : Int) < (k : Int) := by omega
          have hik : k = i := by omega
          have HF : Hid (Srt zPart key L2 a b) := by
            subst hik
            rw [h2]
            exact put_right (L := L) HS1.out hi1 hjb HI.out HJJ.out HRT.out
          go_wp2
          (try simp only [Exit.inBlock, Exit.then])
          refine bodyPost_ret (results_none rfl _ _ _) rfl ?_
          exact ⟨rfl, L2, HJ2.out, by first | exact HSH.out | (rw [← h2]; exact HSH.out), by first | exact HF.out | (rw [← h2]; exact HF.out)⟩
end
end Go.Proofs.YtblhmdhfhaencaaGreat
