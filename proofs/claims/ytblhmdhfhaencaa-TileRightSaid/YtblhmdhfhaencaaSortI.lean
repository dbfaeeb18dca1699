/-
  The class of worlds of a region that draws its order may be made narrower on the way. No program in sight.
-/
import Derived.Test.YtblhmdhfhaencaaQA
import Derived.Test.YtblhmdhfhaencaaQL
import Derived.Shelf.Sort.Plain
import Derived.Shelf.Slices.Reverse
import Derived.Ground.Names2Prog
import Derived.Shelf.Slices.Clone
import Derived.Shelf.Slices.CompactI
import Derived.Shelf.Slices.In.SortNone
import Derived.Shelf.SlicesE.Reverse
import Derived.Test.YtblhmdhfhaencaaProg
import Derived.Test.YtblhmdhfhaencaaSeq
namespace Go.Proofs.Ytblhmdhfhaencaa
set_option linter.unusedSimpArgs false
set_option linter.unusedVariables false
set_option linter.unusedSectionVars false
section
open Go.RowKit
section
variable {P : Program} {l : List Oper} {S S' : World → Prop} {Q : Exit → Act → World → Prop}
theorem z_mono (h : ∀ w, S' w → S w) : ∀ {fuel : Nat} {listed : Array Bool} {a : Act} {w : World}, wpAnyZ P l Q S' fuel listed a w → wpAnyZ P l Q S fuel listed a w
  | 0, _, _, _, hz => hz
  | _ + 1, _, _, _, hz => ⟨hz.1, fun i hi => wpOp_mono (fun _ _ h' => ⟨h'.1.imp id (h _), z_mono h h'.2⟩) (hz.2 i hi)⟩
/-- from the worlds grown out of one to those grown out of a later one -/
theorem z_later {W W' : World} (h : Below W.heap.size W W') {fuel : Nat} {listed : Array Bool} {a : Act} {w : World} (hz : wpAnyZ P l Q (fun w' => ∃ n : ExtW W', w' = n.val) fuel listed a w) : wpAnyZ P l Q (fun w' => ∃ n : ExtW W, w' = n.val) fuel listed a w :=
  z_mono (fun _ hn => by obtain ⟨n, rfl⟩ := hn; exact ⟨⟨n.val, ext_trans h n.ext⟩, rfl⟩) hz
end
end

section
open Go.RowKit Go.Shelf

def cfP (L : List PartD) (p q : PartD) : Int := orV [cmpV (aroundP L p : Int) (aroundP L q : Int), cmpV (firstP p : Int) (firstP q : Int)]
def keyP (L : List PartD) (p : PartD) : Nat := 300 * aroundP L p + firstP p
theorem cf_less (L : List PartD) (p q : PartD) (hp : firstP p < 300) (hq : firstP q < 300) : cfP L p q < 0 ↔ keyP L p < keyP L q := by
  rw [cfP, or_cmp, keyP, keyP]
  omega
theorem cmpV_i64 (x y : Int) : I64 (cmpV x y) := by
  unfold cmpV I64
  split
  · omega
  · split <;> omega
theorem own_head {w : World} {base : Nat} {v : Value} {l : List Nat} (h : OwnI w base v (intsN l)) (hl : l ≠ []) : ∃ g n c, v = .slice (some ⟨g, 0, none⟩) n c ∧ 0 < n ∧ w.cell? ⟨g, 0, none⟩ = some (.int .i64 ((l.headD 0 : Nat) : Int)) := by
  cases l with
  | nil => exact absurd rfl hl
  | cons x l =>
    rcases h.1.2 with ⟨_, h0⟩ | ⟨g, cap, cur, hv, _, hg, hc1, _, hcs, htk⟩
    · simp [intsN] at h0
    · refine ⟨g, _, cap, hv, by simp [intsN], ?_⟩
      rw [cell_of_row _ _ _ _ _ _ hg]
      have : (cur.toList.take ((intsN (x :: l)).length * 1))[0]? = some (.int .i64 (x : Int)) := by rw [htk]; rfl
      rw [List.getElem?_take] at this
      simpa [intsN] using this
set_option maxRecDepth 100000 in
set_option maxHeartbeats 4000000 in
theorem cmp_any (P base bv : Nat) (a : Option Addr) (n c : Nat) (d : WalkD) (L : List PartD) (p q : PartD) (w : World) (hV : w.heap[bv]? = some (.cells #[.pointer (some ⟨P, 0, none⟩)] 91 (0, 0))) (hB : w.heap[P]? = some (bldO d (.slice a n c))) (hL : PartsIn w base (.slice a n c) L) (hn : n ≤ 1000000) (hp : listS p.s ≠ []) (hq : listS q.s ≠ []) :
    Calls Try.prog 54 (#[partV p, partV q] ++ #[.pointer (some ⟨bv, 0, none⟩)]) w fun e w' => e = .returned (.int .i64 (cfP L p q)) ∧ Below w.heap.size w w' := by
  have HBL := Lib.hid hB
  have HL := Lib.hid hL
  have HP := Lib.hid hp
  have HQ := Lib.hid hq
  have HV := Lib.hid hV
  clear hB hL hp hq hV
  go_enter Try.func54, Try.ntmps54
  go_upto_region 1 with (fail)
  obtain ⟨W, hW⟩ : ∃ W, W = (w.alloc (partO p)).alloc (partO q) := ⟨_, rfl⟩
  rw [← hW]
  have hb : Below w.heap.size w W := by rw [hW]; exact ext_trans (ext_alloc _ _) (ext_alloc _ _)
  have h3 : W.heap[w.heap.size]? = some (partO p) := by rw [hW]; exact block_ext (ext_alloc _ _) (heap_alloc_new _ _)
  have h4 : W.heap[w.heap.size + 1]? = some (partO q) := by rw [hW]; exact heap_at _ _ _ (by simp)
  have HB := Lib.hid hb
  have HBW := Lib.hid (block_ext hb HBL.out)
  have HLW : Hid (PartsIn W base (.slice a n c) L) := PartsIn.ext HL.out hb
  have g0 : ∀ n : ExtW W, n.val.cell? ⟨bv, 0, none⟩ = some (.pointer (some ⟨P, 0, none⟩)) := ExtW.cell (by rw [cell_of_row _ _ _ _ _ _ (block_ext hb HV.out)]; rfl)
  have g3 : ∀ w', (∃ n : ExtW W, w' = n.val) → w'.heap[w.heap.size]? = some (partO p) := fun w' ⟨n, e⟩ => by rw [e]; exact block_ext n.ext h3
  have g4 : ∀ w', (∃ n : ExtW W, w' = n.val) → w'.heap[w.heap.size + 1]? = some (partO q) := fun w' ⟨n, e⟩ => by rw [e]; exact block_ext n.ext h4
  have s3 : ∀ w', (∃ n : ExtW W, w' = n.val) → w'.rangeAt w.heap.size 0 (setA p.s).toList := fun w' h => part_set0 (g3 w' h)
  have s4 : ∀ w', (∃ n : ExtW W, w' = n.val) → w'.rangeAt (w.heap.size + 1) 0 (setA q.s).toList := fun w' h => part_set0 (g4 w' h)
  clear hW hb h3 h4 HBL HL HV
  refine z_start (fun w' => ∃ n : ExtW W, w' = n.val) (by kernel_rfl) ?_
  obtain ⟨v0, F0, hv0⟩ : ∃ v0, Below W.heap.size W v0 ∧ W.drew = v0 := ⟨_, ext_drewN (Below.refl _ _) 1, rfl⟩
  rw [hv0]
  clear hv0
  refine z_reads 0 2 (by kernel_rfl) ⟨⟨_, F0⟩, rfl⟩ ?_
  simp only [List.take_succ_cons, List.take_zero, List.drop_succ_cons, List.drop_zero]
  repeat (first
    | (refine wpQuiet_load_row (o := ⟨some 7, .load 99 _, _, _, _, _⟩) (by rfl) 99 _ rfl w.heap.size rfl 99 (partC p).toArray (0, 0) _ g3 Try.underlying99 rfl (size_partA _) ?_; simp only [put_some, List.setIfInBounds_toArray, List.set_cons_succ, List.set_cons_zero])
    | go_big_quiet_step (fail))
  refine wpQuiet_nil ?_
  refine z_reads 3 2 (by kernel_rfl) ⟨⟨_, F0⟩, rfl⟩ ?_
  simp only [List.take_succ_cons, List.take_zero, List.drop_succ_cons, List.drop_zero]
  repeat (first
    | (refine wpQuiet_load_row (o := ⟨some 10, .load 99 _, _, _, _, _⟩) (by rfl) 99 _ rfl (w.heap.size + 1) rfl 99 (partC q).toArray (0, 0) _ g4 Try.underlying99 rfl (size_partA _) ?_; simp only [put_some, List.setIfInBounds_toArray, List.set_cons_succ, List.set_cons_zero])
    | go_big_quiet_step (fail))
  refine wpQuiet_nil ?_
  refine z_reads 7 2 (by kernel_rfl) ⟨⟨_, F0⟩, rfl⟩ ?_
  simp only [List.take_succ_cons, List.take_zero, List.drop_succ_cons, List.drop_zero]
  repeat (first
    | (refine wpQuiet_load_mid (o := ⟨some 14, .load 78 _, _, _, _, _⟩) (by rfl) 78 _ rfl w.heap.size 0 rfl (setA p.s).toList _ s3 Try.underlying78 rfl (by rw [Array.length_toList, setA_size]; exact size_set) ?_; simp only [put_some, List.setIfInBounds_toArray, List.set_cons_succ, List.set_cons_zero])
    | go_big_quiet_step (fail))
  refine wpQuiet_nil ?_
  refine z_reads 12 2 (by kernel_rfl) ⟨⟨_, F0⟩, rfl⟩ ?_
  simp only [List.take_succ_cons, List.take_zero, List.drop_succ_cons, List.drop_zero]
  repeat (first
    | (refine wpQuiet_load_mid (o := ⟨some 19, .load 78 _, _, _, _, _⟩) (by rfl) 78 _ rfl (w.heap.size + 1) 0 rfl (setA q.s).toList _ s4 Try.underlying78 rfl (by rw [Array.length_toList, setA_size]; exact size_set) ?_; simp only [put_some, List.setIfInBounds_toArray, List.set_cons_succ, List.set_cons_zero])
    | go_big_quiet_step (fail))
  refine wpQuiet_nil ?_
  clear g0 g3 g4 s3 s4
  refine z_one 2 (by kernel_rfl) ?_
  refine wpOp_at rfl rfl ?_
  go_simp
  refine (around_any P base a n c d L p v0 (block_ext F0 HBW.out) (PartsIn.ext HLW.out F0) hn).mono ?_
  rintro e v1 ⟨rfl, hb⟩
  have F1 := ext_trans F0 hb
  clear hb
  refine ⟨Or.inr ⟨⟨_, F1⟩, rfl⟩, ?_⟩
  refine z_one 5 (by kernel_rfl) ?_
  refine wpOp_at rfl rfl ?_
  go_simp
  refine (around_any P base a n c d L q v1 (block_ext F1 HBW.out) (PartsIn.ext HLW.out F1) hn).mono ?_
  rintro e v2 ⟨rfl, hb⟩
  have F2 := ext_trans F1 hb
  clear hb F0 F1
  refine ⟨Or.inr ⟨⟨_, F2⟩, rfl⟩, ?_⟩
  refine z_one 6 (by kernel_rfl) ?_
  refine wpOp_at rfl rfl ?_
  go_simp
  refine (compare_any _ _ v2).mono ?_
  rintro e v3 ⟨rfl, rfl⟩
  refine ⟨Or.inr ⟨⟨_, F2⟩, rfl⟩, ?_⟩
  refine z_one 9 (by kernel_rfl) ?_
  refine wpOp_at rfl rfl ?_
  go_simp
  refine (list_any p.s v2).mono ?_
  rintro e v4 ⟨vl, rfl, ho, hb⟩
  have F4 := ext_trans F2 hb
  obtain ⟨g5, n5, c5, rfl, hn5, hcell⟩ := own_head ho HP.out
  have hn5' : (0 : Int) < (n5 : Int) := by omega
  obtain ⟨y1, hy1⟩ : ∃ y, y = (listS p.s).headD 0 := ⟨_, rfl⟩
  rw [← hy1] at hcell
  have HY1 := Lib.hid hy1
  clear hy1
  refine ⟨Or.inr ⟨⟨_, F4⟩, rfl⟩, ?_⟩
  clear ho hb
  refine z_later F4 ?_
  have g5' : ∀ n : ExtW v4, n.val.cell? ⟨g5, 0, none⟩ = some (.int .i64 (y1 : Int)) := ExtW.cell hcell
  refine z_reads 10 2 (by kernel_rfl) ⟨⟨_, Below.refl _ _⟩, rfl⟩ ?_
  simp only [List.take_succ_cons, List.take_zero, List.drop_succ_cons, List.drop_zero]
  repeat (go_big_quiet_step (fail))
  refine wpQuiet_nil ?_
  clear g5' hcell hn5'
  refine z_one 14 (by kernel_rfl) ?_
  refine wpOp_at rfl rfl ?_
  go_simp
  refine (list_any q.s v4).mono ?_
  rintro e v5 ⟨vl, rfl, ho, hb⟩
  obtain ⟨g6, n6, c6, rfl, hn6, hcell⟩ := own_head ho HQ.out
  have hn6' : (0 : Int) < (n6 : Int) := by omega
  obtain ⟨y2, hy2⟩ : ∃ y, y = (listS q.s).headD 0 := ⟨_, rfl⟩
  rw [← hy2] at hcell
  have HY2 := Lib.hid hy2
  clear hy2
  refine ⟨Or.inr ⟨⟨_, hb⟩, rfl⟩, ?_⟩
  have F5 := ext_trans F4 hb
  refine z_later hb ?_
  clear ho hb
  have g6' : ∀ n : ExtW v5, n.val.cell? ⟨g6, 0, none⟩ = some (.int .i64 (y2 : Int)) := ExtW.cell hcell
  refine z_reads 15 2 (by kernel_rfl) ⟨⟨_, Below.refl _ _⟩, rfl⟩ ?_
  simp only [List.take_succ_cons, List.take_zero, List.drop_succ_cons, List.drop_zero]
  repeat (go_big_quiet_step (fail))
  refine wpQuiet_nil ?_
  clear g6' hcell hn6'
  refine z_one 17 (by kernel_rfl) ?_
  refine wpOp_at rfl rfl ?_
  go_simp
  refine (compare_any _ _ v5).mono ?_
  rintro e v6 ⟨rfl, rfl⟩
  refine ⟨Or.inr ⟨⟨_, Below.refl _ _⟩, rfl⟩, ?_⟩
  refine z_one 18 (by kernel_rfl) ?_
  refine wpOp_at rfl rfl ?_
  go_simp
  obtain ⟨x1, hx1⟩ : ∃ x, x = cmpV (aroundP L p : Int) (aroundP L q : Int) := ⟨_, rfl⟩
  obtain ⟨x2, hx2⟩ : ∃ x, x = cmpV (y1 : Int) (y2 : Int) := ⟨_, rfl⟩
  rw [← hx1, ← hx2]
  have hi1 : I64 x1 := by rw [hx1]; exact cmpV_i64 _ _
  have hi2 : I64 x2 := by rw [hx2]; exact cmpV_i64 _ _
  have HX : Hid (orV [x1, x2] = cfP L p q) := by rw [Hid, hx1, hx2, HY1.out, HY2.out]; rfl
  have hI := (ownI_lit (W := v5) (xs := [x1, x2]) rfl 0 (Nat.zero_le _) (fun x hx => by simp at hx; rcases hx with rfl | rfl <;> assumption) (by simp)).ints
  have HI : Hid (Ints (v5.alloc (.cells #[.int .i64 x1, .int .i64 x2] 3)) (some ⟨v5.heap.size, 0, none⟩) 2 [x1, x2]) := hI
  have F6 : Below v5.heap.size v5 (v5.alloc (.cells #[.int .i64 x1, .int .i64 x2] 3)) := ext_alloc _ _
  clear hx1 hx2 hi1 hi2 hI
  refine ⟨Or.inr ⟨⟨_, F6⟩, rfl⟩, ?_⟩
  refine z_one 19 (by kernel_rfl) ?_
  refine wpOp_at rfl rfl ?_
  go_simp
  refine (cmpOr_any _ 2 2 [x1, x2] _ HI.out).mono ?_
  rintro e v7 ⟨rfl, rfl⟩
  rw [HX.out]
  have HF := Lib.hid (ext_trans HB.out (ext_trans F5 F6))
  refine ⟨Or.inr ⟨⟨_, F6⟩, rfl⟩, ?_⟩
  refine z_reads 20 1 (by kernel_rfl) ⟨⟨_, F6⟩, rfl⟩ ?_
  simp only [List.take_succ_cons, List.take_zero, List.drop_succ_cons, List.drop_zero]
  repeat (go_big_quiet_step (fail))
  refine wpQuiet_nil ?_
  refine z_done (by kernel_rfl) ?_
  go_wp2
  go_ret
  exact ⟨rfl, HF.out⟩
end

section
open Go.Shelf
def lays189_ren : Go.Shelf.Ren := ⟨fun | 189 => 48 | 125 => 80 | 257 => 79 | 128 => 108 | 129 => 109 | 294 => 99 | 295 => 100 | 296 => 101 | 297 => 102 | 298 => 103 | 299 => 104 | 216 => 105 | 300 => 106 | 301 => 107 | 328 => 117 | 329 => 118 | 330 => 119 | 331 => 120 | 332 => 121 | 215 => 86 | 343 => 123 | n => n, fun | 28 => 22 | 3 => 3 | 46 => 134 | 0 => 0 | 51 => 162 | 53 => 164 | 4 => 4 | 183 => 154 | 182 => 153 | 131 => 159 | 5 => 5 | 9 => 9 | 218 => 173 | 222 => 177 | 228 => 179 | 229 => 85 | n => n, fun | n => n⟩
theorem lays189 : Go.Proofs.Lays.n189 Try.prog lays189_ren := {
  mixed := by kernel_rfl
  f125 := Try.func80.trans (congrArg some (by kernel_rfl))
  f128 := Try.func108.trans (congrArg some (by kernel_rfl))
  f129 := Try.func109.trans (congrArg some (by kernel_rfl))
  f189 := Try.func48.trans (congrArg some (by kernel_rfl))
  f215 := Try.func86.trans (congrArg some (by kernel_rfl))
  f216 := Try.func105.trans (congrArg some (by kernel_rfl))
  f257 := Try.func79.trans (congrArg some (by kernel_rfl))
  f294 := Try.func99.trans (congrArg some (by kernel_rfl))
  f295 := Try.func100.trans (congrArg some (by kernel_rfl))
  f296 := Try.func101.trans (congrArg some (by kernel_rfl))
  f297 := Try.func102.trans (congrArg some (by kernel_rfl))
  f298 := Try.func103.trans (congrArg some (by kernel_rfl))
  f299 := Try.func104.trans (congrArg some (by kernel_rfl))
  f300 := Try.func106.trans (congrArg some (by kernel_rfl))
  f301 := Try.func107.trans (congrArg some (by kernel_rfl))
  f328 := Try.func117.trans (congrArg some (by kernel_rfl))
  f329 := Try.func118.trans (congrArg some (by kernel_rfl))
  f330 := Try.func119.trans (congrArg some (by kernel_rfl))
  f331 := Try.func120.trans (congrArg some (by kernel_rfl))
  f332 := Try.func121.trans (congrArg some (by kernel_rfl))
  f343 := Try.func123.trans (congrArg some (by kernel_rfl))
  t0 := Try.underlying0
  a0 := Try.isAgg0
  z0 := Try.sizeOf0
  v0 := Try.zeroValue0
  t3 := Try.underlying3
  a3 := Try.isAgg3
  z3 := Try.sizeOf3
  v3 := Try.zeroValue3
  t4 := Try.underlying4
  a4 := Try.isAgg4
  z4 := Try.sizeOf4
  v4 := Try.zeroValue4
  t5 := Try.underlying5
  a5 := Try.isAgg5
  z5 := Try.sizeOf5
  v5 := Try.zeroValue5
  t9 := Try.underlying9
  a9 := Try.isAgg9
  z9 := Try.sizeOf9
  v9 := Try.zeroValue9
  t28 := Try.underlying22
  a28 := Try.isAgg22
  z28 := Try.sizeOf22
  v28 := Try.zeroValue22
  t46 := Try.underlying134
  a46 := Try.isAgg134
  z46 := Try.sizeOf134
  v46 := Try.zeroValue134
  t51 := Try.underlying162
  a51 := Try.isAgg162
  z51 := Try.sizeOf162
  v51 := Try.zeroValue162
  t53 := Try.underlying164
  a53 := Try.isAgg164
  z53 := Try.sizeOf164
  v53 := Try.zeroValue164
  t131 := Try.underlying159
  a131 := Try.isAgg159
  z131 := Try.sizeOf159
  v131 := Try.zeroValue159
  t182 := Try.underlying153
  a182 := Try.isAgg153
  z182 := Try.sizeOf153
  v182 := Try.zeroValue153
  t183 := Try.underlying154
  a183 := Try.isAgg154
  z183 := Try.sizeOf154
  v183 := Try.zeroValue154
  t218 := Try.underlying173
  a218 := Try.isAgg173
  z218 := Try.sizeOf173
  v218 := Try.zeroValue173
  t222 := Try.underlying177
  a222 := Try.isAgg177
  z222 := Try.sizeOf177
  v222 := Try.zeroValue177
  t228 := Try.underlying179
  a228 := Try.isAgg179
  z228 := Try.sizeOf179
  v228 := Try.zeroValue179
  t229 := Try.underlying85
  a229 := Try.isAgg85
  z229 := Try.sizeOf85
  v229 := Try.zeroValue85 }
open Go.Sort Go.RowKit in
theorem slices_Sort_int (blk off cap : Nat) (zs : List Int) (w : World) (hH : Holds (Value.int .i64) w blk off zs.toArray) (hblk : blk < w.heap.size) (hsz : zs.length < 4611686018427387904) :
    Calls Try.prog 48 #[.slice (some ⟨blk, off, none⟩) zs.length cap] w fun e w' =>
      e = .returned (.tuple #[]) ∧ ∃ n os, w' = grow (putRow (Value.int .i64) (Sort.ahead w n) blk off (zs.mergeSort fun x y => decide (x ≤ y)).toArray) os := Any.slices_Sort_int lays189 blk off cap zs w hH hblk hsz
def lays112_ren : Go.Shelf.Ren := ⟨fun | 112 => 65 | n => n, fun | 28 => 22 | 3 => 3 | 4 => 4 | 0 => 0 | n => n, fun | n => n⟩
theorem lays112 : Go.Proofs.Lays.n112 Try.prog lays112_ren := {
  mixed := by kernel_rfl
  f112 := Try.func65.trans (congrArg some (by kernel_rfl))
  t0 := Try.underlying0
  a0 := Try.isAgg0
  z0 := Try.sizeOf0
  v0 := Try.zeroValue0
  t3 := Try.underlying3
  a3 := Try.isAgg3
  z3 := Try.sizeOf3
  v3 := Try.zeroValue3
  t4 := Try.underlying4
  a4 := Try.isAgg4
  z4 := Try.sizeOf4
  v4 := Try.zeroValue4
  t28 := Try.underlying22
  a28 := Try.isAgg22
  z28 := Try.sizeOf22
  v28 := Try.zeroValue22 }
open Go.RowKit Go.Lib Go.Sort in
/-- slices.Reverse at []int: "Reverse reverses the elements of the slice in place.": THE SLICE's CELLS HOLD 'zs.reverse' BEHIND THE CALL; all else is as it was, but for the count of draws (the exchange 's[i], s[j] = s[j], s[i]' draws its order, once a round). IN THE WORDS OF slices.Sort's CONTRACT: 'Holds': the cells hold zs and none is frozen; 'putRow': the world with those cells holding another array. A slice of length 0 that is not nil is among them ('zs = []'); nil: '.._nil'. (LAID: no walk: one application.) -/
theorem slices_Reverse_int (blk off cap : Nat) (zs : List Int) (w : World) (hH : Holds (Value.int .i64) w blk off zs.toArray) (hsz : zs.length ≤ 9223372036854775807) :
    Calls Try.prog 65 #[.slice (some ⟨blk, off, none⟩) zs.length cap] w fun e w' => e = .returned (.tuple #[]) ∧ ∃ n, w' = putRow (Value.int .i64) (Sort.ahead w n) blk off zs.reverse.toArray := Any.slices_Reverse_int lays112 blk off cap zs w hH hsz
open Go.RowKit Go.Lib Go.Sort in
/-- The same at a slice of length 0, a nil one too: nothing is read, nothing written, nothing drawn. (LAID: no walk: one application.) -/
theorem slices_Reverse_int_empty (a : Option Addr) (cap : Nat) (w : World) :
    Calls Try.prog 65 #[.slice a 0 cap] w fun e w' => e = .returned (.tuple #[]) ∧ w' = w := Any.slices_Reverse_int_empty lays112 a cap w
def laysNm220_ren : Go.Shelf.Ren := ⟨fun | 20 => 49 | n => n, fun | 22 => 22 | 3 => 3 | 4 => 4 | 0 => 0 | n => n, fun | n => n⟩
theorem laysNm220 : Go.Proofs.Lays2.n20 Try.prog laysNm220_ren := {
  mixed := by kernel_rfl
  f20 := Try.func49.trans (congrArg some (by kernel_rfl))
  t0 := Try.underlying0
  a0 := Try.isAgg0
  z0 := Try.sizeOf0
  v0 := Try.zeroValue0
  t3 := Try.underlying3
  a3 := Try.isAgg3
  z3 := Try.sizeOf3
  v3 := Try.zeroValue3
  t4 := Try.underlying4
  a4 := Try.isAgg4
  z4 := Try.sizeOf4
  v4 := Try.zeroValue4
  t22 := Try.underlying22
  a22 := Try.isAgg22
  z22 := Try.sizeOf22
  v22 := Try.zeroValue22
  i3 := by kernel_rfl }
open Go.RowKit Go.Lib Go.Sort in
/-- slices.Compact at []int: "Compact replaces consecutive runs of equal elements with a single copy. This is like the uniq command found on Unix. Compact modifies the contents of the slice s and returns the modified slice, which may have a smaller length. Compact zeroes the elements between the new length and the original length. The result preserves the nilness of s.": IT RETURNS THE SLICE CUT TO 'Lib.compact zs'; ITS CELLS HOLD 'Lib.compact zs', THEN ZERO VALUES up to the old length; all else is as it was, but for the count of draws. IN THE WORDS OF slices.Sort's CONTRACT ('Holds', 'putRow'): so the everyday 'slices.Sort(xs); xs = slices.Compact(xs)' goes from the one contract to the other. It asks 'zs.length ≤ cap' (every slice's: the reslicing 's[:k]' looks at it). Length 0, nil: '.._empty'. (LAID: no walk: one application.) -/
theorem slices_Compact_int (blk off cap : Nat) (zs : List Int) (w : World) (hH : Holds (Value.int .i64) w blk off zs.toArray) (hsz : zs.length ≤ 9223372036854775807) (hcap : zs.length ≤ cap) :
    Calls Try.prog 49 #[.slice (some ⟨blk, off, none⟩) zs.length cap] w fun e w' => e = .returned (.slice (some ⟨blk, off, none⟩) (Lib.compact zs).length cap) ∧ ∃ q, w' = putRow (Value.int .i64) (Sort.ahead w q) blk off (Lib.compact zs ++ List.replicate (zs.length - (Lib.compact zs).length) 0).toArray := Any.slices_Compact_int laysNm220 blk off cap zs w hH hsz hcap
open Go.RowKit Go.Lib Go.Sort in
/-- The same at a slice of length 0, a nil one too: it comes back as it is. (LAID: no walk: one application.) -/
theorem slices_Compact_int_empty (a : Option Addr) (cap : Nat) (w : World) :
    Calls Try.prog 49 #[.slice a 0 cap] w fun e w' => e = .returned (.slice a 0 cap) ∧ w' = w := Any.slices_Compact_int_empty laysNm220 a cap w
open Go.RowKit Go.Sort in
/-- .. and plain. (LAID: no walk: one application.) -/
theorem slices_Sort_int_none (p : Option Addr) (cap : Nat) (w : World) :
    Calls Try.prog 48 #[.slice p 0 cap] w fun e w' => e = .returned (.tuple #[]) ∧ w' = w := Any.slices_Sort_int_none lays189 p cap w
end

section
open Go.RowKit Go.Sort

theorem heap_mapBlock (w : World) (g k : Nat) (f : Array Value → Array Value) : (mapBlock w g f).heap[k]? = if g = k then (w.heap[k]?).map (onCells f) else w.heap[k]? := by
  show (w.heap.modify g (onCells f))[k]? = _
  rw [Array.getElem?_modify]
theorem grown_putRow (w : World) (g q : Nat) (ys : List Int) : w.grownBy (putRow (Value.int .i64) (Sort.ahead w q) g 0 ys.toArray) (some g) := by
  refine ⟨rfl, rfl, rfl, by simp [Sort.ahead], fun k _ hne => ?_⟩
  unfold putRow
  rw [heap_mapBlock, if_neg (fun e => hne (by rw [e]))]
  rfl
theorem grown_grow {w w' : World} {row : Option Nat} (h : w.grownBy w' row) (os : Array Obj) : w.grownBy (grow w' os) row := by
  refine ⟨h.os, h.tape, h.output, ?_, fun k hk hne => ?_⟩
  · have := h.size
    simp [grow]
    omega
  · rw [heap_grow_old w' os (Nat.lt_of_lt_of_le hk h.size)]
    exact h.block k hk hne
theorem own_holds {w : World} {base g n c : Nat} {xs : List Int} (h : OwnI w base (.slice (some ⟨g, 0, none⟩) n c) xs) : Holds (Value.int .i64) w g 0 xs.toArray := by
  intro j hj
  have hj' : j < xs.length := by simpa using hj
  have hn := h.cap.2.2
  obtain ⟨b, o, e, hc, _⟩ := h.ints.2.2 j (by omega)
  injection e with e
  injection e with e1 e2
  subst e1 e2
  refine ⟨?_, ?_⟩
  · rw [hc]
    simp [List.getD_eq_getElem?_getD, hj']
  · rcases h.1.2 with ⟨hv, _⟩ | ⟨g', cap, cur, hv, _, hh, _⟩
    · cases hv
    · injection hv with e1 _ _
      injection e1 with e1
      injection e1 with e1 _ _
      subst e1
      exact frozen_of_row _ _ _ _ _ hh
theorem own_putRow {w : World} {base g n c : Nat} {xs : List Int} (h : OwnI w base (.slice (some ⟨g, 0, none⟩) n c) xs) (q : Nat) (ys : List Int) (hl : ys.length = xs.length) (hy : ∀ y ∈ ys, I64 y) :
    OwnI (putRow (Value.int .i64) (Sort.ahead w q) g 0 ys.toArray) base (.slice (some ⟨g, 0, none⟩) n c) ys := by
  have hn := h.cap.2.2
  refine ⟨⟨by simp [intVals], ?_⟩, hy, by have := h.2.2; omega⟩
  rcases h.1.2 with ⟨hv, _⟩ | ⟨g', cap, cur, hv, hb, hh, h1, h2, h3, h4⟩
  · cases hv
  · injection hv with e1 e2 e3
    injection e1 with e1
    injection e1 with e1 _ _
    subst e1 e3
    refine .inr ⟨g, c, putCells (Value.int .i64) 0 ys.toArray cur, by rw [hn, hl], hb, ?_, by omega, h2, by simp [putCells, h3], ?_⟩
    · unfold putRow
      rw [heap_mapBlock, if_pos rfl]
      show (w.heap[g]?).map _ = _
      rw [hh]
      rfl
    · apply List.ext_getElem?
      intro k
      rw [List.getElem?_take]
      by_cases hk : k < ys.length
      · have hkc : k < cur.size := by omega
        rw [if_pos (by omega)]
        simp [putCells, intVals, hk, hkc]
      · rw [if_neg (by omega), List.getElem?_eq_none (by simp [intVals]; omega)]
theorem own_ahead {w : World} {base : Nat} {v : Value} {xs : List Int} (h : OwnI w base v xs) (os : Array Obj) : OwnI (grow w os) base v xs :=
  h.ext ⟨rfl, rfl, rfl, by simp [grow], fun k hk => heap_grow_old w os hk⟩
def TurnPost (w : World) (base : Nat) (v : Value) (ys : List Int) (e : Ending) (w' : World) : Prop := e = .returned (.tuple #[]) ∧ OwnI w' base v ys ∧ w.grownBy w' v.ownBlock
theorem grown_refl (w : World) (row : Option Nat) : w.grownBy w row := ⟨rfl, rfl, rfl, Nat.le_refl _, fun _ _ _ => rfl⟩
theorem sortI_any (base : Nat) (v : Value) (xs : List Int) (w : World) (h : OwnI w base v xs) :
    Calls Try.prog 48 #[v] w (TurnPost w base v (xs.mergeSort fun x y => decide (x ≤ y))) := by
  rcases id h.1.2 with ⟨rfl, h0⟩ | ⟨g, cap, cur, rfl, hb, hh, _⟩
  · have h0 : xs = [] := List.eq_nil_of_length_eq_zero h0
    subst h0
    refine (slices_Sort_int_none none 0 w).mono ?_
    rintro e w' ⟨rfl, rfl⟩
    exact ⟨rfl, by simpa using h, grown_refl _ _⟩
  · refine (slices_Sort_int g 0 cap xs w (own_holds h) (Array.getElem?_eq_some_iff.1 hh).1 (by have := h.2.2; omega)).mono ?_
    rintro e w' ⟨rfl, n, os, rfl⟩
    have hp := List.mergeSort_perm xs fun x y => decide (x ≤ y)
    refine ⟨rfl, own_ahead (own_putRow h n _ (List.length_mergeSort _) (fun y hy => h.2.1 y (hp.mem_iff.1 hy))) os, ?_⟩
    exact grown_grow (grown_putRow w g n _) os
theorem reverseI_any (base : Nat) (v : Value) (xs : List Int) (w : World) (h : OwnI w base v xs) :
    Calls Try.prog 65 #[v] w (TurnPost w base v xs.reverse) := by
  rcases id h.1.2 with ⟨rfl, h0⟩ | ⟨g, cap, cur, rfl, hb, hh, _⟩
  · have h0 : xs = [] := List.eq_nil_of_length_eq_zero h0
    subst h0
    refine (slices_Reverse_int_empty none 0 w).mono ?_
    rintro e w' ⟨rfl, rfl⟩
    exact ⟨rfl, by simpa using h, grown_refl _ _⟩
  · refine (slices_Reverse_int g 0 cap xs w (own_holds h) (by have := h.2.2; omega)).mono ?_
    rintro e w' ⟨rfl, n, rfl⟩
    exact ⟨rfl, own_putRow h n _ (by simp) (fun y hy => h.2.1 y (by simpa using hy)), grown_putRow w g n _⟩
def CompactPost (w : World) (base : Nat) (v : Value) (ys : List Int) (e : Ending) (w' : World) : Prop := ∃ v', e = .returned v' ∧ OwnI w' base v' ys ∧ w.grownBy w' v.ownBlock
theorem compact_len (xs : List Int) : (Lib.compact xs).length ≤ xs.length := by
  unfold Lib.compact Lib.compactUpTo
  rw [List.length_map]
  have := List.length_filter_le (Lib.keeps xs.toArray) (List.range xs.length)
  simpa using this
theorem compact_mem (xs : List Int) : ∀ y ∈ Lib.compact xs, y ∈ xs := by
  intro y hy
  unfold Lib.compact Lib.compactUpTo at hy
  rw [List.mem_map] at hy
  obtain ⟨k, hk, rfl⟩ := hy
  have := List.mem_range.1 (List.mem_filter.1 hk).1
  simp [this]
theorem ownI_trunc {w : World} {base g c n : Nat} {xs ys : List Int} (h : OwnI w base (.slice (some ⟨g, 0, none⟩) n c) (xs ++ ys)) : OwnI w base (.slice (some ⟨g, 0, none⟩) xs.length c) xs := by
  refine ⟨⟨by simp [intVals], ?_⟩, fun z hz => h.2.1 z (by simp [hz]), by have := h.2.2; simp at this; omega⟩
  rcases h.1.2 with ⟨hv, _⟩ | ⟨g', cap, cur, hv, hb, hh, h1, h2, h3, h4⟩
  · cases hv
  · injection hv with e1 e2 e3
    injection e1 with e1
    injection e1 with e1 _ _
    subst e1 e3
    refine .inr ⟨g, c, cur, rfl, hb, hh, by simp at h1; omega, h2, h3, ?_⟩
    have h5 : (cur.toList.take ((xs ++ ys).length * 1)).take xs.length = (intVals (xs ++ ys)).take xs.length := by rw [h4]
    rw [List.take_take] at h5
    simpa [intVals] using h5
theorem compactI_any (base : Nat) (v : Value) (xs : List Int) (w : World) (h : OwnI w base v xs) :
    Calls Try.prog 49 #[v] w (CompactPost w base v (Lib.compact xs)) := by
  rcases id h.1.2 with ⟨rfl, h0⟩ | ⟨g, cap, cur, rfl, hb, hh, h1, _⟩
  · have h0 : xs = [] := List.eq_nil_of_length_eq_zero h0
    subst h0
    refine (slices_Compact_int_empty none 0 w).mono ?_
    rintro e w' ⟨rfl, rfl⟩
    exact ⟨_, rfl, h, grown_refl _ _⟩
  · refine (slices_Compact_int g 0 cap xs w (own_holds h) (by have := h.2.2; omega) h1).mono ?_
    rintro e w' ⟨rfl, n, rfl⟩
    have hc := compact_len xs
    have h9 := own_putRow h n (Lib.compact xs ++ List.replicate (xs.length - (Lib.compact xs).length) 0) (by simp; omega) (fun y hy => by
      rcases List.mem_append.1 hy with hy | hy
      · exact h.2.1 y (compact_mem xs y hy)
      · have := (List.mem_replicate.1 hy).2
        subst this
        unfold I64; omega)
    exact ⟨_, rfl, ownI_trunc h9, grown_putRow w g n _⟩
end
end Go.Proofs.Ytblhmdhfhaencaa
