/-
 The class of worlds of a region that draws its order may be made narrower on the way. No program in sight.
-/
import Derived.Test.YtblhmdhfhaencaaZed
import Derived.Test.YtblhmdhfhaencaaQL
import Derived.Test.YtblhmdhfhaencaaTL
namespace Go.Proofs.Ytblhmdhfhaencaa
set_option linter.unusedSimpArgs false
set_option linter.unusedVariables false
set_option linter.unusedSectionVars false
set_option maxRecDepth 100000
set_option maxHeartbeats 40000000
section
open Go.RowKit
section
variable {P : Program} {l : List Oper} {S S' : World → Prop} {Q : Exit → Act → World → Prop}
theorem z_mono (h : ∀ w, S' w → S w) : ∀ {fuel : Nat} {listed : Array Bool} {a : Act} {w : World}, wpAnyZ P l Q S' fuel listed a w → wpAnyZ P l Q S fuel listed a w
 | 0, _, _, _, hz => hz
 | _ + 1, _, _, _, hz => ⟨hz.1, fun i hi => wpOp_mono (fun _ _ h' => ⟨h'.1.imp id (h _), z_mono h h'.2⟩) (hz.2 i hi)⟩
/-- from the worlds grown out of one to those grown out of a later one -/
theorem z_later {W W' : World} (h : Below W.heap.size W W') {fuel : Nat} {listed : Array Bool} {a : Act} {w : World} (hz : wpAnyZ P l Q (fun w' => ∃ n : ExtW W', w' = n.val) fuel listed a w) : wpAnyZ P l Q (fun w' => ∃ n : ExtW W, w' = n.val) fuel listed a w :=
 z_mono (fun _ hn => by obtain ⟨n, rfl⟩ := hn; exact ⟨⟨n.val, ext_trans h n.ext⟩, rfl⟩) hz
end
end

section
open Go.RowKit Go.Shelf

def cfP (L : List PartD) (p q : PartD) : Int := orV [cmpV (aroundP L p : Int) (aroundP L q : Int), cmpV (firstP p : Int) (firstP q : Int)]
def keyP (L : List PartD) (p : PartD) : Nat := 300 * aroundP L p + firstP p
theorem cf_less (L : List PartD) (p q : PartD) (hp : firstP p < 300) (hq : firstP q < 300) : cfP L p q < 0 ↔ keyP L p < keyP L q := by
 rw [cfP, or_cmp, keyP, keyP]
 omega
theorem cmpV_i64 (x y : Int) : I64 (cmpV x y) := by
 unfold cmpV I64
 split
 · omega
 · split <;> omega
theorem own_head {w : World} {base : Nat} {v : Value} {l : List Nat} (h : OwnI w base v (intsN l)) (hl : l ≠ []) : ∃ g n c, v = .slice (some ⟨g, 0, none⟩) n c ∧ 0 < n ∧ w.cell? ⟨g, 0, none⟩ = some (.int .i64 ((l.headD 0 : Nat) : Int)) := by
 cases l with
 | nil => exact absurd rfl hl
 | cons x l =>
   rcases h.1.2 with ⟨_, h0⟩ | ⟨g, cap, cur, hv, _, hg, hc1, _, hcs, htk⟩
   · simp [intsN] at h0
   · refine ⟨g, _, cap, hv, by simp [intsN], ?_⟩
     rw [cell_of_row _ _ _ _ _ _ hg]
     have : (cur.toList.take ((intsN (x :: l)).length * 1))[0]? = some (.int .i64 (x : Int)) := by rw [htk]; rfl
     rw [List.getElem?_take] at this
     simpa [intsN] using this
theorem cmp_any (P base bv : Nat) (a : Option Addr) (n c : Nat) (d : WalkD) (L : List PartD) (p q : PartD) (w : World) (hV : w.heap[bv]? = some (.cells #[.pointer (some ⟨P, 0, none⟩)] 91 (0, 0))) (hB : w.heap[P]? = some (bldO d (.slice a n c))) (hL : PartsIn w base (.slice a n c) L) (hn : n ≤ 1000000) (hp : listS p.s ≠ []) (hq : listS q.s ≠ []) :
  Calls Try.prog 54 (#[partV p, partV q] ++ #[.pointer (some ⟨bv, 0, none⟩)]) w fun e w' => e = .returned (.int .i64 (cfP L p q)) ∧ Below w.heap.size w w' := by
 have HBL := Lib.hid hB
 have HL := Lib.hid hL
 have HP := Lib.hid hp
 have HQ := Lib.hid hq
 have HV := Lib.hid hV
 clear hB hL hp hq hV
 go_enter Try.func54, Try.ntmps54
 go_upto_region 1 with (fail)
 obtain ⟨W, hW⟩ : ∃ W, W = (w.alloc (partO p)).alloc (partO q) := ⟨_, rfl⟩
 rw [← hW]
 have hb : Below w.heap.size w W := by rw [hW]; exact ext_trans (ext_alloc _ _) (ext_alloc _ _)
 have h3 : W.heap[w.heap.size]? = some (partO p) := by rw [hW]; exact block_ext (ext_alloc _ _) (heap_alloc_new _ _)
 have h4 : W.heap[w.heap.size + 1]? = some (partO q) := by rw [hW]; exact heap_at _ _ _ (by simp)
 have HB := Lib.hid hb
 have HBW := Lib.hid (block_ext hb HBL.out)
 have HLW : Hid (PartsIn W base (.slice a n c) L) := PartsIn.ext HL.out hb
 have g0 : ∀ n : ExtW W, n.val.cell? ⟨bv, 0, none⟩ = some (.pointer (some ⟨P, 0, none⟩)) := ExtW.cell (by rw [cell_of_row _ _ _ _ _ _ (block_ext hb HV.out)]; rfl)
 have g3 : ∀ w', (∃ n : ExtW W, w' = n.val) → w'.heap[w.heap.size]? = some (partO p) := fun w' ⟨n, e⟩ => by rw [e]; exact block_ext n.ext h3
 have g4 : ∀ w', (∃ n : ExtW W, w' = n.val) → w'.heap[w.heap.size + 1]? = some (partO q) := fun w' ⟨n, e⟩ => by rw [e]; exact block_ext n.ext h4
 have s3 : ∀ w', (∃ n : ExtW W, w' = n.val) → w'.rangeAt w.heap.size 0 (setA p.s).toList := fun w' h => part_set0 (g3 w' h)
 have s4 : ∀ w', (∃ n : ExtW W, w' = n.val) → w'.rangeAt (w.heap.size + 1) 0 (setA q.s).toList := fun w' h => part_set0 (g4 w' h)
 clear hW hb h3 h4 HBL HL HV
 refine z_start (fun w' => ∃ n : ExtW W, w' = n.val) (by kernel_rfl) ?_
 obtain ⟨v0, F0, hv0⟩ : ∃ v0, Below W.heap.size W v0 ∧ W.drew = v0 := ⟨_, ext_drewN (Below.refl _ _) 1, rfl⟩
 rw [hv0]
 clear hv0
 refine z_reads 0 2 (by kernel_rfl) ⟨⟨_, F0⟩, rfl⟩ ?_
 simp only [List.take_succ_cons, List.take_zero, List.drop_succ_cons, List.drop_zero]
 repeat (first
  | (refine wpQuiet_load_row (o := ⟨some 7, .load 99 _, _, _, _, _⟩) (by rfl) 99 _ rfl w.heap.size rfl 99 (partC p).toArray (0, 0) _ g3 Try.underlying99 rfl (size_partA _) ?_; simp only [put_some, List.setIfInBounds_toArray, List.set_cons_succ, List.set_cons_zero])
  | go_big_quiet_step (fail))
 refine wpQuiet_nil ?_
 refine z_reads 3 2 (by kernel_rfl) ⟨⟨_, F0⟩, rfl⟩ ?_
 simp only [List.take_succ_cons, List.take_zero, List.drop_succ_cons, List.drop_zero]
 repeat (first
  | (refine wpQuiet_load_row (o := ⟨some 10, .load 99 _, _, _, _, _⟩) (by rfl) 99 _ rfl (w.heap.size + 1) rfl 99 (partC q).toArray (0, 0) _ g4 Try.underlying99 rfl (size_partA _) ?_; simp only [put_some, List.setIfInBounds_toArray, List.set_cons_succ, List.set_cons_zero])
  | go_big_quiet_step (fail))
 refine wpQuiet_nil ?_
 refine z_reads 7 2 (by kernel_rfl) ⟨⟨_, F0⟩, rfl⟩ ?_
 simp only [List.take_succ_cons, List.take_zero, List.drop_succ_cons, List.drop_zero]
 repeat (first
  | (refine wpQuiet_load_mid (o := ⟨some 14, .load 78 _, _, _, _, _⟩) (by rfl) 78 _ rfl w.heap.size 0 rfl (setA p.s).toList _ s3 Try.underlying78 rfl (by rw [Array.length_toList, setA_size]; exact size_set) ?_; simp only [put_some, List.setIfInBounds_toArray, List.set_cons_succ, List.set_cons_zero])
  | go_big_quiet_step (fail))
 refine wpQuiet_nil ?_
 refine z_reads 12 2 (by kernel_rfl) ⟨⟨_, F0⟩, rfl⟩ ?_
 simp only [List.take_succ_cons, List.take_zero, List.drop_succ_cons, List.drop_zero]
 repeat (first
  | (refine wpQuiet_load_mid (o := ⟨some 19, .load 78 _, _, _, _, _⟩) (by rfl) 78 _ rfl (w.heap.size + 1) 0 rfl (setA q.s).toList _ s4 Try.underlying78 rfl (by rw [Array.length_toList, setA_size]; exact size_set) ?_; simp only [put_some, List.setIfInBounds_toArray, List.set_cons_succ, List.set_cons_zero])
  | go_big_quiet_step (fail))
 refine wpQuiet_nil ?_
 clear g0 g3 g4 s3 s4
 refine z_one 2 (by kernel_rfl) ?_
 refine wpOp_at rfl rfl ?_
 go_simp
 refine (around_any P base a n c d L p v0 (block_ext F0 HBW.out) (PartsIn.ext HLW.out F0) hn).mono ?_
 rintro e v1 ⟨rfl, hb⟩
 have F1 := ext_trans F0 hb
 clear hb
 refine ⟨Or.inr ⟨⟨_, F1⟩, rfl⟩, ?_⟩
 refine z_one 5 (by kernel_rfl) ?_
 refine wpOp_at rfl rfl ?_
 go_simp
 refine (around_any P base a n c d L q v1 (block_ext F1 HBW.out) (PartsIn.ext HLW.out F1) hn).mono ?_
 rintro e v2 ⟨rfl, hb⟩
 have F2 := ext_trans F1 hb
 clear hb F0 F1
 refine ⟨Or.inr ⟨⟨_, F2⟩, rfl⟩, ?_⟩
 refine z_one 6 (by kernel_rfl) ?_
 refine wpOp_at rfl rfl ?_
 go_simp
 refine (compare_any _ _ v2).mono ?_
 rintro e v3 ⟨rfl, rfl⟩
 refine ⟨Or.inr ⟨⟨_, F2⟩, rfl⟩, ?_⟩
 refine z_one 9 (by kernel_rfl) ?_
 refine wpOp_at rfl rfl ?_
 go_simp
 refine (list_any p.s v2).mono ?_
 rintro e v4 ⟨vl, rfl, ho, hb⟩
 have F4 := ext_trans F2 hb
 obtain ⟨g5, n5, c5, rfl, hn5, hcell⟩ := own_head ho HP.out
 have hn5' : (0 : Int) < (n5 : Int) := by omega
 obtain ⟨y1, hy1⟩ : ∃ y, y = (listS p.s).headD 0 := ⟨_, rfl⟩
 rw [← hy1] at hcell
 have HY1 := Lib.hid hy1
 clear hy1
 refine ⟨Or.inr ⟨⟨_, F4⟩, rfl⟩, ?_⟩
 clear ho hb
 refine z_later F4 ?_
 have g5' : ∀ n : ExtW v4, n.val.cell? ⟨g5, 0, none⟩ = some (.int .i64 (y1 : Int)) := ExtW.cell hcell
 refine z_reads 10 2 (by kernel_rfl) ⟨⟨_, Below.refl _ _⟩, rfl⟩ ?_
 simp only [List.take_succ_cons, List.take_zero, List.drop_succ_cons, List.drop_zero]
 repeat (go_big_quiet_step (fail))
 refine wpQuiet_nil ?_
 clear g5' hcell hn5'
 refine z_one 14 (by kernel_rfl) ?_
 refine wpOp_at rfl rfl ?_
 go_simp
 refine (list_any q.s v4).mono ?_
 rintro e v5 ⟨vl, rfl, ho, hb⟩
 obtain ⟨g6, n6, c6, rfl, hn6, hcell⟩ := own_head ho HQ.out
 have hn6' : (0 : Int) < (n6 : Int) := by omega
 obtain ⟨y2, hy2⟩ : ∃ y, y = (listS q.s).headD 0 := ⟨_, rfl⟩
 rw [← hy2] at hcell
 have HY2 := Lib.hid hy2
 clear hy2
 refine ⟨Or.inr ⟨⟨_, hb⟩, rfl⟩, ?_⟩
 have F5 := ext_trans F4 hb
 refine z_later hb ?_
 clear ho hb
 have g6' : ∀ n : ExtW v5, n.val.cell? ⟨g6, 0, none⟩ = some (.int .i64 (y2 : Int)) := ExtW.cell hcell
 refine z_reads 15 2 (by kernel_rfl) ⟨⟨_, Below.refl _ _⟩, rfl⟩ ?_
 simp only [List.take_succ_cons, List.take_zero, List.drop_succ_cons, List.drop_zero]
 repeat (go_big_quiet_step (fail))
 refine wpQuiet_nil ?_
 clear g6' hcell hn6'
 refine z_one 17 (by kernel_rfl) ?_
 refine wpOp_at rfl rfl ?_
 go_simp
 refine (compare_any _ _ v5).mono ?_
 rintro e v6 ⟨rfl, rfl⟩
 refine ⟨Or.inr ⟨⟨_, Below.refl _ _⟩, rfl⟩, ?_⟩
 refine z_one 18 (by kernel_rfl) ?_
 refine wpOp_at rfl rfl ?_
 go_simp
 obtain ⟨x1, hx1⟩ : ∃ x, x = cmpV (aroundP L p : Int) (aroundP L q : Int) := ⟨_, rfl⟩
 obtain ⟨x2, hx2⟩ : ∃ x, x = cmpV (y1 : Int) (y2 : Int) := ⟨_, rfl⟩
 rw [← hx1, ← hx2]
 have hi1 : I64 x1 := by rw [hx1]; exact cmpV_i64 _ _
 have hi2 : I64 x2 := by rw [hx2]; exact cmpV_i64 _ _
 have HX : Hid (orV [x1, x2] = cfP L p q) := by rw [Hid, hx1, hx2, HY1.out, HY2.out]; rfl
 have hI := (ownI_lit (W := v5) (xs := [x1, x2]) rfl 0 (Nat.zero_le _) (fun x hx => by simp at hx; rcases hx with rfl | rfl <;> assumption) (by simp)).ints
 have HI : Hid (Ints (v5.alloc (.cells #[.int .i64 x1, .int .i64 x2] 3)) (some ⟨v5.heap.size, 0, none⟩) 2 [x1, x2]) := hI
 have F6 : Below v5.heap.size v5 (v5.alloc (.cells #[.int .i64 x1, .int .i64 x2] 3)) := ext_alloc _ _
 clear hx1 hx2 hi1 hi2 hI
 refine ⟨Or.inr ⟨⟨_, F6⟩, rfl⟩, ?_⟩
 refine z_one 19 (by kernel_rfl) ?_
 refine wpOp_at rfl rfl ?_
 go_simp
 refine (cmpOr_any _ 2 2 [x1, x2] _ HI.out).mono ?_
 rintro e v7 ⟨rfl, rfl⟩
 rw [HX.out]
 have HF := Lib.hid (ext_trans HB.out (ext_trans F5 F6))
 refine ⟨Or.inr ⟨⟨_, F6⟩, rfl⟩, ?_⟩
 refine z_reads 20 1 (by kernel_rfl) ⟨⟨_, F6⟩, rfl⟩ ?_
 simp only [List.take_succ_cons, List.take_zero, List.drop_succ_cons, List.drop_zero]
 repeat (go_big_quiet_step (fail))
 refine wpQuiet_nil ?_
 refine z_done (by kernel_rfl) ?_
 go_wp2
 go_ret
 exact ⟨rfl, HF.out⟩
end

section
open Go.RowKit Go.Shelf

attribute [local go_sem] Oper.semAt_some wide_fn wide_depth wide_fnR wide_depthR
/-! ### a set gone through, wherever its cells lie -/
theorem each_iterC (f : Nat → Bool) (G S : Nat) : IterI Try.prog 89 #[.pointer (some ⟨G, 0, none⟩)] encN (listS f) (fun W => W.cell? ⟨G, 0, none⟩ = some (.pointer (some ⟨S, 0, none⟩)) ∧ ∀ k, k < 200 → W.cell? ⟨S, k, none⟩ = some (.bool (f k))) := by
 intro l K Kx W hK hKx hInv hY h0
 refine callsIn_of_wp Try.func89 rfl trivial ?_ rfl
 simp only [Try.ntmps89, List.size_toArray, List.length_cons, List.length_nil, Nat.reduceAdd, Nat.reduceSub, Array.replicate_succ, Array.replicate_zero, List.push_toArray, List.append_toArray, List.nil_append, List.cons_append]
 have HY := Lib.hid hY
 have HI := Lib.hid hInv
 have HK0 := Lib.hid hK
 have H0 : Hid (K (restL f 0) W) := by rw [Hid, restL_zero]; exact h0
 have hg0 : W.cell? ⟨G, 0, none⟩ = some (.pointer (some ⟨S, 0, none⟩)) := (hInv _ _ h0).1
 clear hY hInv hK hKx h0
 gi_wp2
 gi_loopw [6] (fun i wr => ∃ k : Nat, i = .int .i64 k ∧ k ≤ 200 ∧ Hid (K (restL f k) wr)) (fun i _ => 200 - (intOf i).toNat)
 case atStart => exact ⟨0, rfl, by omega, H0.out⟩
 case round =>
  obtain ⟨k, rfl, hk, HK⟩ := hrel
  clear hg0
  have hSr := (HI.out _ _ HK.out).2
  have hn : ∀ q, (wr.drewN q).cell? ⟨S, 0, none⟩ = some (.bool (f 0)) := fun q => hSr 0 (by omega)
  have hne : wr.cell? ⟨S, 0, none⟩ = some (.bool (f 0)) := hn 0
  by_cases hlt : k < 200
  · have hc : wr.cell? ⟨S, k, none⟩ = some (.bool (f k)) := hSr k hlt
    have HST := Lib.hid (restL_step f k hlt)
    have hlt' : (k : Int) < 200 := by omega
    clear hSr hn
    by_cases hf : f k = true
    · rw [hf] at hc
      have HR : Hid (restL f k = k :: restL f (k + 1)) := by rw [Hid, HST.out, if_pos hf]
      clear hf HST
      gi_wp2
      refine wide_quiet_lit (by kernel_rfl) (by kernel_rfl) ?_
      repeat (go_big_quiet_step (fail))
      refine wpQuiet_nil ?_
      rintro _ ⟨nq, rfl⟩
      have HKq : Hid (K (restL f k) (wr.drewN nq)) := HK0.out _ _ _ HK.out (ext_drewN (Below.refl _ _) nq)
      obtain ⟨fn, tmps, assign, body, hy, hR⟩ := HY.out (restL f k) k (wr.drewN nq) (by rw [HR.out]; rfl) HKq.out
      unfold encN at hy
      have hT : nxL (restL f k) k = restL f (k + 1) := by rw [HR.out]; rfl
      rw [hT] at hR
      have HR2 := Lib.hid hR
      clear hT hR HKq
      gi_wp2
      refine HR2.out.mono ?_
      rintro e W' (⟨rfl, hJ'⟩ | ⟨rfl, hX'⟩)
      · have HK1 := Lib.hid hJ'
        clear hJ' hy HR2
        gi_wp2
        go_roundw
        case rel => exact ⟨k + 1, by go_num, by omega, HK1.out⟩
        case measure => simp [intOf]; omega
      · have HX := Lib.hid hX'
        clear hX' hy HR2
        gi_wp2
        exact bodyPost_ret (v := .tuple #[]) (by simp [results, Try.results89, go_sem]) rfl ⟨⟨_, rfl⟩, Or.inr HX.out⟩
    · have hf' : f k = false := by simpa using hf
      rw [hf'] at hc
      have HR : Hid (restL f k = restL f (k + 1)) := by rw [Hid, HST.out, if_neg hf]
      clear hf hf' HST
      gi_wp2
      refine wide_quiet_lit (by kernel_rfl) (by kernel_rfl) ?_
      repeat (go_big_quiet_step (fail))
      refine wpQuiet_nil ?_
      rintro _ ⟨nq, rfl⟩
      have HKq : Hid (K (restL f (k + 1)) (wr.drewN nq)) := by rw [← HR.out]; exact HK0.out _ _ _ HK.out (ext_drewN (Below.refl _ _) nq)
      gi_wp2
      go_roundw
      case rel => exact ⟨k + 1, by go_num, by omega, HKq.out⟩
      case measure => simp [intOf]; omega
  · obtain rfl : k = 200 := by omega
    clear hSr hn
    gi_wp2
    go_end0
    exact ⟨⟨_, rfl⟩, Or.inl ⟨_, restL_end f, HK.out⟩⟩
/-! ### tiles of the call's own -/
abbrev bsV (t : TileR) : Value := .slice t.ba t.bn t.bc
structure TilesIn (W : World) (base : Nat) (v : Value) (ls : List TileR) : Prop where
 own : OwnR 53 3 tileC W base v ls
 each : ∀ t ∈ ls, OwnI W base (bsV t) t.d.blocks ∧ I64 t.d.kind ∧ I64 t.d.parent
 sepv : ∀ t ∈ ls, Sep (bsV t) v
 pw : ls.Pairwise fun s t => Sep (bsV s) (bsV t)
section
variable {W W' W3 : World} {base base' : Nat} {v : Value} {ls : List TileR}
theorem TilesIn.grown {row : Option Nat} (h : TilesIn W base v ls) (hg : W.grownBy W' row) (hr : ∀ q, row = some q → q < base ∨ W.heap.size ≤ q) : TilesIn W' base v ls where
 own := h.own.kept hg (by
  cases e : v.ownBlock with
  | none => exact .inl rfl
  | some q => exact .inr fun e2 => by have := h.own.low e; have := hr q e2.symm; omega)
 each := fun t ht => ⟨(h.each t ht).1.kept hg (by
  cases e : (bsV t).ownBlock with
  | none => exact .inl rfl
  | some q => exact .inr fun e2 => by have := (h.each t ht).1.1.lt q e; have := hr q e2.symm; omega), (h.each t ht).2⟩
 sepv := h.sepv
 pw := h.pw
theorem TilesIn.ext (h : TilesIn W base v ls) (hb : Below W.heap.size W W') : TilesIn W' base v ls :=
 h.grown (row := none) ⟨hb.os, hb.tape, hb.output, hb.size, fun k hk _ => hb.block k hk⟩ fun q e => by cases e
theorem TilesIn.mono (h : TilesIn W base v ls) (hb : base' ≤ base) : TilesIn W base' v ls := ⟨h.own.mono hb, fun t ht => ⟨(h.each t ht).1.mono hb, (h.each t ht).2⟩, h.sepv, h.pw⟩
theorem TilesIn.steady {D : Nat} : Steady D (fun W => TilesIn W base v ls) := fun W W' row h hg hr =>
 ⟨(Steady.ownR D base v ls) W W' row h.own hg hr, fun t ht => ⟨(Steady.ownI D base (bsV t) t.d.blocks) W W' row (h.each t ht).1 hg hr, (h.each t ht).2⟩, h.sepv, h.pw⟩
theorem own_le {w : World} {base : Nat} {a : Option Addr} {n c : Nat} {xs : List Int} (h : OwnI w base (.slice a n c) xs) : n ≤ c := by
 rcases h.1.2 with ⟨e, _⟩ | ⟨g, cap, cur, e, _, _, hc, _⟩
 · injection e with _ e1 e2; omega
 · injection e with _ e1 e2; omega
theorem TilesIn.ok {a : Option Addr} {n c : Nat} (h : TilesIn W base (.slice a n c) ls) : TilesOK W a n ls :=
 ⟨h.own.recs tileC_len, fun t ht => ⟨(h.each t ht).1.ints, own_le (h.each t ht).1, (h.each t ht).2⟩⟩
theorem tiles_one (W : World) (B : Nat) (t : TileR) (h : W.heap[B]? = some (.cells (tileC t).toArray 53 (0, 0))) (base : Nat) (hb : base ≤ B) (ho : OwnI W base (bsV t) t.d.blocks) (hk : I64 t.d.kind ∧ I64 t.d.parent) (hn : (bsV t).ownBlock ≠ some B) : TilesIn W base (.slice (some ⟨B, 0, none⟩) 1 1) [t] where
 own := by
  refine ⟨⟨by simp [tileC], .inr ⟨B, 1, (tileC t).toArray, rfl, hb, h, by simp, by simp [maxLen], by simp [tileC], ?_⟩⟩, by simp⟩
  simp [tileC]
 each := fun s hs => by
  have : s = t := by simpa using hs
  subst this
  exact ⟨ho, hk⟩
 sepv := fun s hs g hg e => by
  have : s = t := by simpa using hs
  subst this
  simp only [Value.ownBlock, Option.some.injEq] at e
  subst e
  exact hn hg
 pw := List.pairwise_singleton _ _
/-- one more tile, without blocks, behind -/
theorem TilesIn.add {v' : Value} (h : TilesIn W base v ls) (x : TileR) (hx : x.ba = none) (hx2 : x.bn = 0) (hx3 : x.bc = 0) (hx4 : x.d.blocks = []) (hk : I64 x.d.kind ∧ I64 x.d.parent) (hg : W.grownBy W3 v.ownBlock)
  (ho : W3.ownsRow base 53 3 v' (ls.length + 1) (ls.flatMap tileC ++ tileC x)) (hat : v'.ownBlock = v.ownBlock ∨ ∃ q, v'.ownBlock = some q ∧ W.heap.size ≤ q) (hn : ls.length ≤ 1000) : TilesIn W3 base v' (ls ++ [x]) where
 own := by
  refine ⟨?_, by simp; omega⟩
  rw [List.length_append, List.flatMap_append]
  simpa using ho
 each := fun t ht => by
  rcases List.mem_append.1 ht with ht | ht
  · refine ⟨(h.each t ht).1.kept hg ?_, (h.each t ht).2⟩
    cases e : (bsV t).ownBlock with
    | none => exact .inl rfl
    | some q => exact .inr fun e2 => h.sepv t ht q e e2.symm
  · have : t = x := by simpa using ht
    subst this
    refine ⟨?_, hk⟩
    rw [bsV, hx, hx2, hx3, hx4]
    exact OwnI.nil _ _
 sepv := fun t ht g hg1 hg2 => by
  rcases List.mem_append.1 ht with ht | ht
  · rcases hat with e | ⟨q, e, hq⟩
    · rw [e] at hg2; exact h.sepv t ht g hg1 hg2
    · rw [e] at hg2
      injection hg2 with hg2
      have := ((h.each t ht).1.1.lt g hg1).2
      omega
  · have : t = x := by simpa using ht
    subst this
    rw [bsV, hx] at hg1
    cases hg1
 pw := by
  rw [List.pairwise_append]
  refine ⟨h.pw, List.pairwise_singleton _ _, fun s _ t ht g _ hg2 => ?_⟩
  have : t = x := by simpa using ht
  subst this
  rw [bsV, hx] at hg2
  cases hg2
theorem flat_set3 : ∀ (ls : List TileR) (k : Nat) (t t' : TileR), ls[k]? = some t → t'.d.kind = t.d.kind ∧ t'.d.parent = t.d.parent → (ls.flatMap tileC).set (k * 3 + 2) (bsV t') = (ls.set k t').flatMap tileC
 | x :: ls, 0, t, t', h, he => by
   simp only [List.getElem?_cons_zero, Option.some.injEq] at h
   subst h
   simp [tileC, he.1, he.2]
 | x :: ls, k + 1, t, t', h, he => by
   have ih := flat_set3 ls k t t' (by simpa using h) he
   rw [List.flatMap_cons, List.set_cons_succ, List.flatMap_cons, ← ih]
   have e : (k + 1) * 3 + 2 = (tileC x).length + (k * 3 + 2) := by rw [tileC_len]; omega
   rw [e, List.set_append_right _ _ (by omega)]
   congr 2
   omega
/-- one tile's blocks are turned -/
theorem TilesIn.turn {g n c : Nat} (h : TilesIn W base (.slice (some ⟨g, 0, none⟩) n c) ls) {k : Nat} {t t' : TileR} (hk : ls[k]? = some t) (hg : W.grownBy W3 (bsV t).ownBlock) (ho : OwnI W3 base (bsV t') t'.d.blocks) (he : t'.d.kind = t.d.kind ∧ t'.d.parent = t.d.parent)
  (hat : (bsV t').ownBlock = (bsV t).ownBlock ∨ ∃ q, (bsV t').ownBlock = some q ∧ W.heap.size ≤ q) : TilesIn (W3.setCell ⟨g, k * 3 + 2, none⟩ (bsV t')) base (.slice (some ⟨g, 0, none⟩) n c) (ls.set k t') := by
 have hlt := (List.getElem?_eq_some_iff.1 hk).1
 have htm := List.mem_of_getElem? hk
 have hlen : ls.length = n := by obtain ⟨a, c', e⟩ := h.own.form; injection e with _ e _; exact e.symm
 have hgb := h.own.low (k := g) rfl
 have g2 := grown_setCell W3 g (k * 3 + 2) (bsV t')
 have hne : ∀ s ∈ ls, (bsV s).ownBlock ≠ some g := fun s hs e => h.sepv s hs g e rfl
 -- the others' blocks stay
 have keep : ∀ s, OwnI W base (bsV s) s.d.blocks → Sep (bsV t) (bsV s) → (bsV s).ownBlock ≠ some g → OwnI (W3.setCell ⟨g, k * 3 + 2, none⟩ (bsV t')) base (bsV s) s.d.blocks := fun s hs hsep hng => by
  refine (hs.kept hg ?_).kept g2 ?_
  · cases e : (bsV s).ownBlock with
    | none => exact .inl rfl
    | some q => exact .inr fun e2 => hsep q e2.symm e
  · cases e : (bsV s).ownBlock with
    | none => exact .inl rfl
    | some q => exact .inr fun e2 => hng (e.trans e2)
 have sepT : ∀ s, OwnI W base (bsV s) s.d.blocks → Sep (bsV t) (bsV s) → Sep (bsV t') (bsV s) := fun s hs hsep q e1 e2 => by
  rcases hat with e | ⟨q', e, hq⟩
  · rw [e] at e1; exact hsep q e1 e2
  · rw [e] at e1
    injection e1 with e1
    have := (hs.1.lt q e2).2
    omega
 have sepg : (bsV t').ownBlock ≠ some g := fun e => by
  rcases hat with e1 | ⟨q', e1, hq⟩
  · rw [e1] at e; exact hne t htm e
  · rw [e1] at e; injection e with e; omega
 have hpw : ∀ i s, ls[i]? = some s → i ≠ k → Sep (bsV t) (bsV s) := fun i s hi hik => by
  have hil := (List.getElem?_eq_some_iff.1 hi).1
  have e1 := (List.getElem?_eq_some_iff.1 hi).2
  have e2 := (List.getElem?_eq_some_iff.1 hk).2
  rcases Nat.lt_or_ge i k with hl | hl
  · have := (List.pairwise_iff_getElem.1 h.pw) i k hil hlt hl
    rw [e1, e2] at this
    exact this.symm
  · have := (List.pairwise_iff_getElem.1 h.pw) k i hlt hil (by omega)
    rw [e1, e2] at this
    exact this
 refine ⟨?_, fun s hs => ?_, fun s hs => ?_, ?_⟩
 · have h3 : OwnR 53 3 tileC W3 base (.slice (some ⟨g, 0, none⟩) n c) ls := h.own.kept hg (.inr fun e => hne t htm e.symm)
   have h4 : OwnR 53 3 tileC (W3.setCell ⟨g, k * 3 + 2, none⟩ (bsV t')) base (.slice (some ⟨g, 0, none⟩) n c) (ls.set k t') := by
    refine ⟨?_, by rw [List.length_set]; exact h.own.2⟩
    have h6 := h3.1
    rw [hlen] at h6
    have h5 := (h6.stored (k * 3 + 2) (bsV t')).1
    rw [List.length_set, hlen]
    have e : (ls.flatMap tileC).set (k * 3 + 2) (bsV t') = (ls.set k t').flatMap tileC := flat_set3 ls k t t' hk he
    rw [← e]
    exact h5
   exact h4
 · obtain ⟨i, hi, e⟩ := List.mem_iff_getElem.1 hs
   rw [List.getElem_set] at e
   split at e
   · rename_i hki
     subst e
     refine ⟨ho.kept g2 ?_, by rw [he.1, he.2]; exact (h.each t htm).2⟩
     cases e : (bsV t').ownBlock with
     | none => exact .inl rfl
     | some q => exact .inr fun e2 => sepg (e.trans e2)
   · rename_i hki
     have hi' : i < ls.length := by simpa using hi
     have hsm : s ∈ ls := by rw [← e]; exact List.getElem_mem hi'
     exact ⟨keep s (h.each s hsm).1 (hpw i s (by rw [List.getElem?_eq_getElem hi', e]) (fun e => hki e.symm)) (hne s hsm), (h.each s hsm).2⟩
 · obtain ⟨i, hi, e⟩ := List.mem_iff_getElem.1 hs
   rw [List.getElem_set] at e
   split at e
   · subst e
     intro q e1 e2
     simp only [Value.ownBlock, Option.some.injEq] at e2
     subst e2
     exact sepg e1
   · have hi' : i < ls.length := by simpa using hi
     exact h.sepv s (by rw [← e]; exact List.getElem_mem hi')
 · rw [List.pairwise_iff_getElem]
   intro i j hi hj hij
   have hi' : i < ls.length := by simpa using hi
   have hj' : j < ls.length := by simpa using hj
   rw [List.getElem_set, List.getElem_set]
   by_cases e1 : k = i
   · subst e1
     rw [if_pos rfl, if_neg (by omega)]
     exact sepT _ (h.each _ (List.getElem_mem hj')).1 (hpw j _ (List.getElem?_eq_getElem hj') (by omega))
   · rw [if_neg e1]
     by_cases e2 : k = j
     · subst e2
       rw [if_pos rfl]
       exact (sepT _ (h.each _ (List.getElem_mem hi')).1 (hpw i _ (List.getElem?_eq_getElem hi') (by omega))).symm
     · rw [if_neg e2]
       exact (List.pairwise_iff_getElem.1 h.pw) i j hi' hj' hij
end
end
end Go.Proofs.Ytblhmdhfhaencaa
