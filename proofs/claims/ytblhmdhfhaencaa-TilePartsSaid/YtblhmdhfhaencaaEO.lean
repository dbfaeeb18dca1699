/-
 law18's of: a function of blocks, each of which goes where a row says.
-/
import Derived.Test.YtblhmdhfhaencaaEK
import Derived.Test.YtblhmdhfhaencaaEL
namespace Go.Proofs.Ytblhmdhfhaencaa
set_option linter.unusedSimpArgs false
set_option linter.unusedVariables false
set_option linter.unusedSectionVars false
set_option maxRecDepth 100000
set_option maxHeartbeats 40000000
section
open Go.RowKit
attribute [local go_sem] Oper.semAt_some wide_fn wide_depth wide_fnR wide_depthR

/-- rows of numbers as they lie in memory -/
structure SlR where
 xs : List Int
 sa : Option Addr
 sc : Nat
def csL (r : SlR) : List Value := [.slice r.sa r.xs.length r.sc]
theorem csL_len (r : SlR) : (csL r).length = 1 := rfl
def LRows (w : World) (a : Option Addr) (n : Nat) (rs : List SlR) : Prop := Recs 1 csL w a n rs ∧ ∀ r ∈ rs, Ints w r.sa r.xs.length r.xs
theorem LRows.ext {w w' : World} {a : Option Addr} {n : Nat} {rs : List SlR} (h : LRows w a n rs) (hb : Below w.heap.size w w') : LRows w' a n rs := ⟨h.1.ext csL_len hb, fun r hr => (h.2 r hr).ext hb⟩
theorem LRows.cells {w : World} {a : Option Addr} {n : Nat} {rs : List SlR} (h : LRows w a n rs) {k : Nat} (hk : k < n) : ∃ r b o, rs[k]? = some r ∧ a = some ⟨b, o, none⟩ ∧ w.cell? ⟨b, o + k, none⟩ = some (.slice r.sa r.xs.length r.sc) ∧ Ints w r.sa r.xs.length r.xs := by
 have hk' : k < rs.length := by rw [h.1.1]; exact hk
 obtain ⟨r, hr⟩ : ∃ r, rs[k]? = some r := ⟨rs[k], List.getElem?_eq_getElem hk'⟩
 obtain ⟨b, o, e, hc⟩ := h.1.2.2 k r hr
 have h0 := hc 0 (by omega)
 rw [Nat.mul_one, Nat.add_zero] at h0
 exact ⟨r, b, o, hr, e, h0, h.2 r (List.mem_of_getElem? hr)⟩
def termL : List Int → TermD
 | [x] => ⟨1, 0, x, 0⟩
 | [x, y] => ⟨2, 1, x, y⟩
 | _ => ⟨3, 0, 0, 0⟩
def blkOf (l : List Int) : BlkH := ⟨none, 0, 0, termL l⟩
theorem infoBlk : (Try.prog.info? 115).map (fun i => (i.zero, i.size, i.bytes)) = some (some (.agg #[.slice none 0 0, .int .i64 0, .int .i64 0, .int .i64 0, .int .i64 0]), 5, 56) := by kernel_rfl
/-- what is told: a function with these ends of blocks, no instructions -/
def OfPost (L : List (List Int)) (w : World) (e : Ending) (w' : World) : Prop :=
 ∃ pa pc ba bc, e = .returned (funcV pa 1 pc ba L.length bc) ∧ OwnR 115 5 blkC w' w.heap.size (.slice ba L.length bc) (L.map blkOf) ∧ OwnI w' w.heap.size (.slice pa 1 pc) [1] ∧ Below w.heap.size w w'
theorem blk_one (l : List BlkH) : ∀ u ∈ l.flatMap blkC, u.oneCell' = true := by
 intro u hu
 simp only [List.mem_flatMap, blkC] at hu
 obtain ⟨x, _, hx⟩ := hu
 simp only [List.mem_cons, List.not_mem_nil, or_false] at hx
 rcases hx with rfl | rfl | rfl | rfl | rfl <;> rfl
theorem size_term : (Try.prog.info? 112).map (·.size) = some 4 := by kernel_rfl
/-- what lies where while blocks are put together -/
def OJ (w : World) (rs : List SlR) (k : Nat) (wr : World) : Prop :=
 ∃ v, wr.heap[w.heap.size]? = some (funcO none 0 0 none 0 0) ∧ wr.heap[w.heap.size + 1 + 1]? = some (.cells #[.slice (some ⟨w.heap.size + 1, 0, none⟩) 1 1, v] 25 (0, 0)) ∧ wr.heap[w.heap.size + 1]? = some (.cells #[.int .i64 1] 3 (0, 0)) ∧
   OwnR 115 5 blkC wr (w.heap.size + 1 + 1 + 1) v ((rs.take k).map fun r => blkOf r.xs) ∧ Below w.heap.size w wr
theorem OJ.grown {w : World} {rs : List SlR} {k : Nat} {wr w' : World} {row : Option Nat} (h : OJ w rs k wr) (hg : wr.grownBy w' row) (hr : ∀ q, row = some q → wr.heap.size ≤ q) : OJ w rs k w' := by
 obtain ⟨v, h1, h2, h3, h4, h5⟩ := h
 have hlt : ∀ {q : Nat} {o : Obj}, wr.heap[q]? = some o → w'.heap[q]? = some o := fun {q o} hq => (hg.block q (Array.getElem?_eq_some_iff.1 hq).1 (fun e => by have := hr q e.symm; have := (Array.getElem?_eq_some_iff.1 hq).1; omega)).trans hq
 exact ⟨v, hlt h1, hlt h2, hlt h3, h4.kept hg (kept_ne fun q hq e => by have := hr q e; have := (h4.low hq).2; omega), h5.grown hg h5.size (fun q e => Nat.le_trans h5.size (hr q e))⟩
theorem OJ.step {w : World} {rs : List SlR} {k : Nat} {W9 w6 : World} {r : SlR} (h : OJ w rs k W9) (hlr : rs[k]? = some r) {av : Option Addr} {cv g2 cap : Nat}
  (hown : w6.ownsRow (w.heap.size + 1 + 1 + 1) 115 5 (.slice (some ⟨g2, 0, none⟩) (k + 1) cap) (k + 1) (((rs.take k).map fun r => blkOf r.xs).flatMap blkC ++ blkC (blkOf r.xs)))
  (hg : W9.grownBy w6 (Value.slice av k cv).ownBlock) (hv : W9.heap[w.heap.size + 1 + 1]? = some (.cells #[.slice (some ⟨w.heap.size + 1, 0, none⟩) 1 1, .slice av k cv] 25 (0, 0))) (hk : k < 1000) (hlk : ((rs.take k).map fun r => blkOf r.xs).length = k) :
  OJ w rs (k + 1) (w6.setCell ⟨w.heap.size + 1 + 1, 1, none⟩ (.slice (some ⟨g2, 0, none⟩) (k + 1) cap)) := by
 obtain ⟨v, h1, h2, h3, h4, h5⟩ := h
 rw [hv] at h2
 simp only [Option.some.injEq, Obj.cells.injEq, Array.mk.injEq, List.cons.injEq, and_true, true_and] at h2
 subst h2
 have hlow : ∀ q, (Value.slice av k cv).ownBlock = some q → w.heap.size + 1 + 1 + 1 ≤ q := fun q hq => (h4.low hq).1
 have hlt : ∀ {q : Nat} {o : Obj}, q < w.heap.size + 1 + 1 + 1 → W9.heap[q]? = some o → w6.heap[q]? = some o := fun {q o} hq9 hq => (hg.block q (Array.getElem?_eq_some_iff.1 hq).1 (fun e => by have := hlow q e.symm; omega)).trans hq
 have hst := heap_setCell_same w6 (w.heap.size + 1 + 1) 1 _ _ (.slice (some ⟨g2, 0, none⟩) (k + 1) cap) (hlt (by omega) hv)
 simp only [List.setIfInBounds_toArray, List.set_cons_succ, List.set_cons_zero] at hst
 have hset := grown_setCell w6 (w.heap.size + 1 + 1) 1 (.slice (some ⟨g2, 0, none⟩) (k + 1) cap)
 have e1 : (rs.take (k + 1)).map (fun r => blkOf r.xs) = ((rs.take k).map fun r => blkOf r.xs) ++ [blkOf r.xs] := by rw [List.take_add_one, hlr]; simp
 have hg2 := (hown.lt g2 rfl).1
 refine ⟨_, (hset.block _ ?_ (fun e => by injection e with e; omega)).trans (hlt (by omega) h1), hst, (hset.block _ ?_ (fun e => by injection e with e; omega)).trans (hlt (by omega) h3), ⟨?_, by simp; omega⟩, (h5.grown hg h5.size (fun q e => by have := hlow q e; omega)).setCell (by show w.heap.size ≤ w.heap.size + 1 + 1; omega) _⟩
 · exact (Array.getElem?_eq_some_iff.1 (hlt (by omega) h1)).1
 · exact (Array.getElem?_eq_some_iff.1 (hlt (by omega) h3)).1
 · rw [e1, List.length_append, hlk]
   have : (((rs.take k).map fun r => blkOf r.xs) ++ [blkOf r.xs]).flatMap blkC = ((rs.take k).map fun r => blkOf r.xs).flatMap blkC ++ blkC (blkOf r.xs) := by simp
   rw [this]
   exact hown.kept hset (.inr (by simp [Value.ownBlock]; omega))
theorem of18_any (a : Option Addr) (n c : Nat) (rs : List SlR) (w : World) (h : LRows w a n rs) (hn : n ≤ 1000) :
  Calls Try.prog 28 #[.slice a n c] w (OfPost (rs.map (·.xs)) w) := by
 have H := Lib.hid h
 have HLN := Lib.hid h.1.1
 clear h
 go_enter Try.func28, Try.ntmps28
 go_wp2
 go_loopw [4] (fun i wr => ∃ k : Nat, i = .int .i64 k ∧ k ≤ n ∧ Hid (OJ w rs k wr)) (fun i _ => n - (intOf i).toNat)
 case atStart =>
  refine ⟨0, rfl, by omega, .slice none 0 0, ?_, ?_, ?_, OwnR.nil _ _ _ _ _, (((Below.refl _ w).alloc (Nat.le_refl _) _).alloc (by simp) _).alloc (by simp; omega) _⟩
  · exact block_ext (ext_trans (ext_alloc _ _) (ext_alloc _ _)) (heap_alloc_new _ _)
  · have := heap_alloc_new ((w.alloc (.cells #[.slice none 0 0, .slice none 0 0] 25)).alloc (.cells #[.int .i64 1] 3)) (.cells #[.slice (some ⟨w.heap.size + 1, 0, none⟩) 1 1, .slice none 0 0] 25)
    simpa using this
  · have := block_ext (ext_alloc _ (.cells #[.slice (some ⟨w.heap.size + 1, 0, none⟩) 1 1, .slice none 0 0] 25)) (heap_alloc_new (w.alloc (.cells #[.slice none 0 0, .slice none 0 0] 25)) (.cells #[.int .i64 1] 3))
    simpa using this
 case round =>
  obtain ⟨k, rfl, hk, HJ⟩ := hrel
  by_cases hlt : k < n
  · have hlt' : (k : Int) < (n : Int) := by omega
    obtain ⟨_, _, _, _, _, hbw0⟩ := HJ.out
    obtain ⟨r, b, o, hlr, rfl, cr, hI⟩ := H.out.cells hlt
    have hb0 : b < w.heap.size := World.block_lt_of_cell? _ _ cr
    have CR := Lib.hid (cell_ext hbw0 cr)
    have cr2 := CR.out
    have HI := Lib.hid (hI.ext hbw0)
    have hbwr := hbw0.size
    have hb1 : b < wr.heap.size := by omega
    obtain ⟨T, hT⟩ : ∃ T, T = wr.heap.size := ⟨_, rfl⟩
    obtain ⟨xs, sa, sc⟩ := r
    dsimp only at cr2 CR HI
    have HLR := Lib.hid hlr
    clear hI cr hbw0 hlr
    rcases xs with _ | ⟨x, _ | ⟨y, _ | ⟨z, xs⟩⟩⟩
    · go_upto_region 11 with (fail)
      obtain ⟨W9, hW9⟩ : ∃ W9, W9 = wr.alloc (.cells #[.int .i64 3, .int .i64 0, .int .i64 0, .int .i64 0] 112) := ⟨_, rfl⟩
      rw [← hW9]
      have ht9 : W9.heap[T]? = some (.cells #[.int .i64 3, .int .i64 0, .int .i64 0, .int .i64 0] 112 (0, 0)) := by rw [hW9, hT]; exact heap_alloc_new _ _
      have hj9 : OJ w rs k W9 := by rw [hW9]; exact HJ.out.grown (grown_below (ext_alloc _ _) none) (fun q e => by cases e)
      rw [← hT]
      clear hW9
      have HT9 := Lib.hid ht9
      have HJ9 := Lib.hid hj9
      clear ht9 hj9 HJ
      obtain ⟨v, hz, hf, hpp, hown, hbw⟩ := HJ9.out
      obtain ⟨av, cv, rfl⟩ := hown.form
      have hlk : ((rs.take k).map fun r => blkOf r.xs).length = k := by simp [HLN.out]; omega
      have hown1 := hown.1
      rw [hlk] at hf hown1
      have hf1 : W9.cell? ⟨w.heap.size + 1 + 1, 1, none⟩ = some (.slice av k cv) := by rw [cell_of_row _ _ _ _ _ _ hf]; rfl
      have hF9 := (Array.getElem?_eq_some_iff.1 hf).1
      have HOWN := Lib.hid hown1
      have HF := Lib.hid hf
      have HLK := Lib.hid hlk
      clear hz hf hpp hown hbw hown1 hlk
      go_wp2_with (first
       | (at_builtin
          refine wpList_append1 rfl W9 (.tmp 47) (.tmp 50) 23 115 rfl (w.heap.size + 1 + 1 + 1) _ 5 56 Try.underlying23 infoBlk rfl (by omega) (.slice av k cv) _ _ (blkC (blkOf [])) rfl HOWN.out W9.heap.size rfl rfl rfl (fun u hu => blk_one [blkOf []] u (by simpa using hu)) (by simp only [maxLen]; omega) (by omega) (by omega) ?_
          intro g2 cap w6 hown6 hg6 hat6
          have hne6 : (Value.slice av k cv).ownBlock ≠ some (w.heap.size + 1 + 1) := (fun e => by have := (HOWN.out.lt _ e).1; omega)
          have hv6 := (hg6.block _ hF9 (fun e => hne6 e.symm)).trans HF.out
          have hcv6 : w6.cell? ⟨w.heap.size + 1 + 1, 1, none⟩ = some (.slice av k cv) := (by rw [cell_of_row _ _ _ _ _ _ hv6]; rfl)
          have hfv6 : w6.frozen? ⟨w.heap.size + 1 + 1, 1, none⟩ = false := frozen_of_row _ _ _ _ _ hv6
          have HOWN6 := Lib.hid hown6
          have HG6 := Lib.hid hg6
          clear hown6 hg6 hat6 hne6 hv6 hf1)
       | (refine wpList_load_row (o := ⟨some 48, .load 112 _, _, _, _, _⟩) rfl 112 _ rfl T rfl 112 _ (0, 0) _ HT9.out Try.underlying112 rfl size_term ?_))
      go_roundw
      case rel => exact ⟨k + 1, by go_num, by omega, OJ.step HJ9.out HLR.out HOWN6.out HG6.out HF.out (by omega) HLK.out⟩
      case measure => simp [intOf]; omega
    · obtain ⟨xb, xo, rfl, cx, _⟩ := HI.out.2.2 0 (by simp)
      simp only [List.getD_cons_zero, Nat.add_zero] at cx
      have hx1 : xb < wr.heap.size := World.block_lt_of_cell? _ _ cx
      go_upto_region 11 with (fail)
      obtain ⟨W9, hW9⟩ : ∃ W9, W9 = wr.alloc (.cells #[.int .i64 1, .int .i64 0, .int .i64 x, .int .i64 0] 112) := ⟨_, rfl⟩
      rw [← hW9]
      have ht9 : W9.heap[T]? = some (.cells #[.int .i64 1, .int .i64 0, .int .i64 x, .int .i64 0] 112 (0, 0)) := by rw [hW9, hT]; exact heap_alloc_new _ _
      have hj9 : OJ w rs k W9 := by rw [hW9]; exact HJ.out.grown (grown_below (ext_alloc _ _) none) (fun q e => by cases e)
      rw [← hT]
      clear hW9
      have HT9 := Lib.hid ht9
      have HJ9 := Lib.hid hj9
      clear ht9 hj9 HJ
      obtain ⟨v, hz, hf, hpp, hown, hbw⟩ := HJ9.out
      obtain ⟨av, cv, rfl⟩ := hown.form
      have hlk : ((rs.take k).map fun r => blkOf r.xs).length = k := by simp [HLN.out]; omega
      have hown1 := hown.1
      rw [hlk] at hf hown1
      have hf1 : W9.cell? ⟨w.heap.size + 1 + 1, 1, none⟩ = some (.slice av k cv) := by rw [cell_of_row _ _ _ _ _ _ hf]; rfl
      have hF9 := (Array.getElem?_eq_some_iff.1 hf).1
      have HOWN := Lib.hid hown1
      have HF := Lib.hid hf
      have HLK := Lib.hid hlk
      clear hz hf hpp hown hbw hown1 hlk
      go_wp2_with (first
       | (at_builtin
          refine wpList_append1 rfl W9 (.tmp 47) (.tmp 50) 23 115 rfl (w.heap.size + 1 + 1 + 1) _ 5 56 Try.underlying23 infoBlk rfl (by omega) (.slice av k cv) _ _ (blkC (blkOf [x])) rfl HOWN.out W9.heap.size rfl rfl rfl (fun u hu => blk_one [blkOf [x]] u (by simpa using hu)) (by simp only [maxLen]; omega) (by omega) (by omega) ?_
          intro g2 cap w6 hown6 hg6 hat6
          have hne6 : (Value.slice av k cv).ownBlock ≠ some (w.heap.size + 1 + 1) := (fun e => by have := (HOWN.out.lt _ e).1; omega)
          have hv6 := (hg6.block _ hF9 (fun e => hne6 e.symm)).trans HF.out
          have hcv6 : w6.cell? ⟨w.heap.size + 1 + 1, 1, none⟩ = some (.slice av k cv) := (by rw [cell_of_row _ _ _ _ _ _ hv6]; rfl)
          have hfv6 : w6.frozen? ⟨w.heap.size + 1 + 1, 1, none⟩ = false := frozen_of_row _ _ _ _ _ hv6
          have HOWN6 := Lib.hid hown6
          have HG6 := Lib.hid hg6
          clear hown6 hg6 hat6 hne6 hv6 hf1)
       | (refine wpList_load_row (o := ⟨some 48, .load 112 _, _, _, _, _⟩) rfl 112 _ rfl T rfl 112 _ (0, 0) _ HT9.out Try.underlying112 rfl size_term ?_))
      go_roundw
      case rel => exact ⟨k + 1, by go_num, by omega, OJ.step HJ9.out HLR.out HOWN6.out HG6.out HF.out (by omega) HLK.out⟩
      case measure => simp [intOf]; omega
    · obtain ⟨xb, xo, rfl, cx, _⟩ := HI.out.2.2 0 (by simp)
      obtain ⟨xb', xo', e1, cy, _⟩ := HI.out.2.2 1 (by simp)
      injection e1 with e1
      injection e1 with e1 e2
      subst e1 e2
      simp only [List.getD_cons_zero, List.getD_cons_succ, Nat.add_zero] at cx cy
      have hx1 : xb < wr.heap.size := World.block_lt_of_cell? _ _ cx
      have CX := Lib.hid cx
      have CY := Lib.hid cy
      go_upto_region 10 with (fail)
      obtain ⟨W8, hW8⟩ : ∃ W8, W8 = wr.alloc (.cells #[.int .i64 3, .int .i64 0, .int .i64 0, .int .i64 0] 112) := ⟨_, rfl⟩
      rw [← hW8]
      have hB8 : Below wr.heap.size wr W8 := by rw [hW8]; exact ext_alloc _ _
      have ht8 : W8.heap[T]? = some (.cells #[.int .i64 3, .int .i64 0, .int .i64 0, .int .i64 0] 112 (0, 0)) := by rw [hW8, hT]; exact heap_alloc_new _ _
      have HT8 := Lib.hid ht8
      have HB8 := Lib.hid hB8
      rw [← hT]
      have HTW := Lib.hid hT
      clear hW8 ht8 hB8 hT
      refine region_free 14 [some 32, some 33, some 34, some 35, some 36, some 37, some 38, some 39, some 40, some 41, some 42, some 43, some 44, some 45] (by kernel_rfl) (by kernel_rfl) (specB [.val (.slice (some ⟨b, o, none⟩) n c), .val (.int .i64 (k : Int)), .val (.pointer (some ⟨b, o + k, none⟩)), .val (.slice (some ⟨xb, xo, none⟩) 2 sc), .val (.pointer (some ⟨xb, xo, none⟩)), .val (.int .i64 x), .val (.slice (some ⟨b, o, none⟩) n c), .val (.int .i64 (k : Int)), .val (.pointer (some ⟨b, o + k, none⟩)), .val (.slice (some ⟨xb, xo, none⟩) 2 sc), .val (.pointer (some ⟨xb, xo + 1, none⟩)), .val (.int .i64 y), .val (.agg #[.int .i64 x, .int .i64 y]), .val (.agg #[.int .i64 2, .int .i64 1, .int .i64 x, .int .i64 y])]) (specB_mono ?_) ?_ ?_
      · intro k hk
        simp only [List.mem_cons, List.not_mem_nil, or_false] at hk
        rcases hk with rfl | rfl | rfl | rfl | rfl | rfl | rfl | rfl | rfl | rfl | rfl | rfl | rfl | rfl
        · exact trivial
        · exact trivial
        · exact trivial
        · exact trivial
        · exact trivial
        · exact trivial
        · exact trivial
        · exact trivial
        · exact trivial
        · exact trivial
        · exact trivial
        · exact trivial
        · exact trivial
        · exact trivial
      · intro i hi ν lo hi' w1 K hB hD hK
        have hcase : i = 0 ∨ i = 1 ∨ i = 2 ∨ i = 3 ∨ i = 4 ∨ i = 5 ∨ i = 6 ∨ i = 7 ∨ i = 8 ∨ i = 9 ∨ i = 10 ∨ i = 11 ∨ i = 12 ∨ i = 13 := by omega
        clear hi
        rcases hcase with rfl | rfl | rfl | rfl | rfl | rfl | rfl | rfl | rfl | rfl | rfl | rfl | rfl | rfl
        · clear hD
          refine wpOp_atK rfl rfl ?_
          simp only [frameOf, frameGo, List.getD_cons_zero, List.getD_cons_succ, put_some, put_none, List.setIfInBounds_toArray, List.set_cons_succ, List.set_cons_zero] at hK ⊢
          go_simp
          exact hK _ _ (Below.refl _ _) rfl
        · clear hD
          refine wpOp_atK rfl rfl ?_
          simp only [frameOf, frameGo, List.getD_cons_zero, List.getD_cons_succ, put_some, put_none, List.setIfInBounds_toArray, List.set_cons_succ, List.set_cons_zero] at hK ⊢
          go_simp
          exact hK _ _ (Below.refl _ _) rfl
        · have e0 := hD 0 (by kernel_rfl)
          replace e0 : ν 0 = (.slice (some ⟨b, o, none⟩) n c) := e0
          have e1 := hD 1 (by kernel_rfl)
          replace e1 : ν 1 = (.int .i64 (k : Int)) := e1
          clear hD
          refine wpOp_atK rfl rfl ?_
          simp only [frameOf, frameGo, List.getD_cons_zero, List.getD_cons_succ, put_some, put_none, List.setIfInBounds_toArray, List.set_cons_succ, List.set_cons_zero, e0, e1] at hK ⊢
          go_simp
          exact hK _ _ (Below.refl _ _) rfl
        · have e2 := hD 2 (by kernel_rfl)
          replace e2 : ν 2 = (.pointer (some ⟨b, o + k, none⟩)) := e2
          clear hD
          refine wpOp_atK rfl rfl ?_
          simp only [frameOf, frameGo, List.getD_cons_zero, List.getD_cons_succ, put_some, put_none, List.setIfInBounds_toArray, List.set_cons_succ, List.set_cons_zero, e2] at hK ⊢
          have hcl := cell_ext (ext_trans HB8.out hB) CR.out
          go_simp
          exact hK _ _ (Below.refl _ _) rfl
        · have e3 := hD 3 (by kernel_rfl)
          replace e3 : ν 3 = (.slice (some ⟨xb, xo, none⟩) 2 sc) := e3
          clear hD
          refine wpOp_atK rfl rfl ?_
          simp only [frameOf, frameGo, List.getD_cons_zero, List.getD_cons_succ, put_some, put_none, List.setIfInBounds_toArray, List.set_cons_succ, List.set_cons_zero, e3] at hK ⊢
          go_simp
          exact hK _ _ (Below.refl _ _) rfl
        · have e4 := hD 4 (by kernel_rfl)
          replace e4 : ν 4 = (.pointer (some ⟨xb, xo, none⟩)) := e4
          clear hD
          refine wpOp_atK rfl rfl ?_
          simp only [frameOf, frameGo, List.getD_cons_zero, List.getD_cons_succ, put_some, put_none, List.setIfInBounds_toArray, List.set_cons_succ, List.set_cons_zero, e4] at hK ⊢
          have hcl := cell_ext (ext_trans HB8.out hB) CX.out
          go_simp
          exact hK _ _ (Below.refl _ _) rfl
        · clear hD
          refine wpOp_atK rfl rfl ?_
          simp only [frameOf, frameGo, List.getD_cons_zero, List.getD_cons_succ, put_some, put_none, List.setIfInBounds_toArray, List.set_cons_succ, List.set_cons_zero] at hK ⊢
          go_simp
          exact hK _ _ (Below.refl _ _) rfl
        · clear hD
          refine wpOp_atK rfl rfl ?_
          simp only [frameOf, frameGo, List.getD_cons_zero, List.getD_cons_succ, put_some, put_none, List.setIfInBounds_toArray, List.set_cons_succ, List.set_cons_zero] at hK ⊢
          go_simp
          exact hK _ _ (Below.refl _ _) rfl
        · have e6 := hD 6 (by kernel_rfl)
          replace e6 : ν 6 = (.slice (some ⟨b, o, none⟩) n c) := e6
          have e7 := hD 7 (by kernel_rfl)
          replace e7 : ν 7 = (.int .i64 (k : Int)) := e7
          clear hD
          refine wpOp_atK rfl rfl ?_
          simp only [frameOf, frameGo, List.getD_cons_zero, List.getD_cons_succ, put_some, put_none, List.setIfInBounds_toArray, List.set_cons_succ, List.set_cons_zero, e6, e7] at hK ⊢
          go_simp
          exact hK _ _ (Below.refl _ _) rfl
        · have e8 := hD 8 (by kernel_rfl)
          replace e8 : ν 8 = (.pointer (some ⟨b, o + k, none⟩)) := e8
          clear hD
          refine wpOp_atK rfl rfl ?_
          simp only [frameOf, frameGo, List.getD_cons_zero, List.getD_cons_succ, put_some, put_none, List.setIfInBounds_toArray, List.set_cons_succ, List.set_cons_zero, e8] at hK ⊢
          have hcl := cell_ext (ext_trans HB8.out hB) CR.out
          go_simp
          exact hK _ _ (Below.refl _ _) rfl
        · have e9 := hD 9 (by kernel_rfl)
          replace e9 : ν 9 = (.slice (some ⟨xb, xo, none⟩) 2 sc) := e9
          clear hD
          refine wpOp_atK rfl rfl ?_
          simp only [frameOf, frameGo, List.getD_cons_zero, List.getD_cons_succ, put_some, put_none, List.setIfInBounds_toArray, List.set_cons_succ, List.set_cons_zero, e9] at hK ⊢
          go_simp
          exact hK _ _ (Below.refl _ _) rfl
        · have e10 := hD 10 (by kernel_rfl)
          replace e10 : ν 10 = (.pointer (some ⟨xb, xo + 1, none⟩)) := e10
          clear hD
          refine wpOp_atK rfl rfl ?_
          simp only [frameOf, frameGo, List.getD_cons_zero, List.getD_cons_succ, put_some, put_none, List.setIfInBounds_toArray, List.set_cons_succ, List.set_cons_zero, e10] at hK ⊢
          have hcl := cell_ext (ext_trans HB8.out hB) CY.out
          go_simp
          exact hK _ _ (Below.refl _ _) rfl
        · have e5 := hD 5 (by kernel_rfl)
          replace e5 : ν 5 = (.int .i64 x) := e5
          have e11 := hD 11 (by kernel_rfl)
          replace e11 : ν 11 = (.int .i64 y) := e11
          clear hD
          refine wpOp_atK rfl rfl ?_
          simp only [frameOf, frameGo, List.getD_cons_zero, List.getD_cons_succ, put_some, put_none, List.setIfInBounds_toArray, List.set_cons_succ, List.set_cons_zero, e5, e11] at hK ⊢
          go_simp
          exact hK _ _ (Below.refl _ _) rfl
        · have e12 := hD 12 (by kernel_rfl)
          replace e12 : ν 12 = (.agg #[.int .i64 x, .int .i64 y]) := e12
          clear hD
          refine wpOp_atK rfl rfl ?_
          simp only [frameOf, frameGo, List.getD_cons_zero, List.getD_cons_succ, put_some, put_none, List.setIfInBounds_toArray, List.set_cons_succ, List.set_cons_zero, e12] at hK ⊢
          go_simp
          exact hK _ _ (Below.refl _ _) rfl
      · intro ν lo hi w1 hB hS hI hD
        have e0 : ν 0 = (.slice (some ⟨b, o, none⟩) n c) := hS 0 (by omega)
        have e1 : ν 1 = (.int .i64 (k : Int)) := hS 1 (by omega)
        have e2 : ν 2 = (.pointer (some ⟨b, o + k, none⟩)) := hS 2 (by omega)
        have e3 : ν 3 = (.slice (some ⟨xb, xo, none⟩) 2 sc) := hS 3 (by omega)
        have e4 : ν 4 = (.pointer (some ⟨xb, xo, none⟩)) := hS 4 (by omega)
        have e5 : ν 5 = (.int .i64 x) := hS 5 (by omega)
        have e6 : ν 6 = (.slice (some ⟨b, o, none⟩) n c) := hS 6 (by omega)
        have e7 : ν 7 = (.int .i64 (k : Int)) := hS 7 (by omega)
        have e8 : ν 8 = (.pointer (some ⟨b, o + k, none⟩)) := hS 8 (by omega)
        have e9 : ν 9 = (.slice (some ⟨xb, xo, none⟩) 2 sc) := hS 9 (by omega)
        have e10 : ν 10 = (.pointer (some ⟨xb, xo + 1, none⟩)) := hS 10 (by omega)
        have e11 : ν 11 = (.int .i64 y) := hS 11 (by omega)
        have e12 : ν 12 = (.agg #[.int .i64 x, .int .i64 y]) := hS 12 (by omega)
        have e13 : ν 13 = (.agg #[.int .i64 2, .int .i64 1, .int .i64 x, .int .i64 y]) := hS 13 (by omega)
        clear hS
        simp only [List.drop_succ_cons, List.drop_zero, frameOf, frameGo, List.getD_cons_zero, List.getD_cons_succ, put_some, put_none, List.setIfInBounds_toArray, List.set_cons_succ, List.set_cons_zero, e0, e1, e2, e3, e4, e5, e6, e7, e8, e9, e10, e11, e12, e13]
        have hB1 := ext_trans HB8.out hB
        have hT1 := block_ext hB HT8.out
        clear hI hD hB e0 e1 e2 e3 e4 e5 e6 e7 e8 e9 e10 e11 e12 e13
        refine wpList_store_row (o := ⟨none, .store 112 _ _, _, _, _, _⟩) rfl 112 _ _ rfl T #[.int .i64 2, .int .i64 1, .int .i64 x, .int .i64 y] rfl rfl 112 _ hT1 size_term rfl (by simp [Value.oneCell']) ?_
        obtain ⟨W9, hW9⟩ : ∃ W9, W9 = w1.setRow T #[.int .i64 2, .int .i64 1, .int .i64 x, .int .i64 y] := ⟨_, rfl⟩
        rw [← hW9]
        have ht9 : W9.heap[T]? = some (.cells #[.int .i64 2, .int .i64 1, .int .i64 x, .int .i64 y] 112 (0, 0)) := by rw [hW9]; exact setRow_heap _ _ _ _ _ _ hT1
        have hj9 : OJ w rs k W9 := by rw [hW9]; exact HJ.out.grown (grown_trans (grown_below hB1 none) (grown_setRow _ _ _) (.inr fun q e => by injection e with e; have := HTW.out; omega)) (fun q e => by cases e)
        clear hW9 hB1 hT1
        have HT9 := Lib.hid ht9
        have HJ9 := Lib.hid hj9
        clear ht9 hj9 HJ
        obtain ⟨v, hz, hf, hpp, hown, hbw⟩ := HJ9.out
        obtain ⟨av, cv, rfl⟩ := hown.form
        have hlk : ((rs.take k).map fun r => blkOf r.xs).length = k := by simp [HLN.out]; omega
        have hown1 := hown.1
        rw [hlk] at hf hown1
        have hf1 : W9.cell? ⟨w.heap.size + 1 + 1, 1, none⟩ = some (.slice av k cv) := by rw [cell_of_row _ _ _ _ _ _ hf]; rfl
        have hF9 := (Array.getElem?_eq_some_iff.1 hf).1
        have HOWN := Lib.hid hown1
        have HF := Lib.hid hf
        have HLK := Lib.hid hlk
        clear hz hf hpp hown hbw hown1 hlk
        go_wp2_with (first
         | (at_builtin
            refine wpList_append1 rfl W9 (.tmp 47) (.tmp 50) 23 115 rfl (w.heap.size + 1 + 1 + 1) _ 5 56 Try.underlying23 infoBlk rfl (by omega) (.slice av k cv) _ _ (blkC (blkOf [x, y])) rfl HOWN.out W9.heap.size rfl rfl rfl (fun u hu => blk_one [blkOf [x, y]] u (by simpa using hu)) (by simp only [maxLen]; omega) (by omega) (by omega) ?_
            intro g2 cap w6 hown6 hg6 hat6
            have hne6 : (Value.slice av k cv).ownBlock ≠ some (w.heap.size + 1 + 1) := (fun e => by have := (HOWN.out.lt _ e).1; omega)
            have hv6 := (hg6.block _ hF9 (fun e => hne6 e.symm)).trans HF.out
            have hcv6 : w6.cell? ⟨w.heap.size + 1 + 1, 1, none⟩ = some (.slice av k cv) := (by rw [cell_of_row _ _ _ _ _ _ hv6]; rfl)
            have hfv6 : w6.frozen? ⟨w.heap.size + 1 + 1, 1, none⟩ = false := frozen_of_row _ _ _ _ _ hv6
            have HOWN6 := Lib.hid hown6
            have HG6 := Lib.hid hg6
            clear hown6 hg6 hat6 hne6 hv6 hf1)
         | (refine wpList_load_row (o := ⟨some 48, .load 112 _, _, _, _, _⟩) rfl 112 _ rfl T rfl 112 _ (0, 0) _ HT9.out Try.underlying112 rfl size_term ?_))
        go_roundw
        case rel => exact ⟨k + 1, by go_num, by omega, OJ.step HJ9.out HLR.out HOWN6.out HG6.out HF.out (by omega) HLK.out⟩
        case measure => simp [intOf]; omega
    · have hm3 : 3 ≤ (x :: y :: z :: xs).length := by simp
      generalize hm : (x :: y :: z :: xs).length = m at cr2 CR HI hm3
      have d1 : ((m : Int) == 1) = false := by simp; omega
      have d2 : ((m : Int) == 2) = false := by simp; omega
      clear hm
      go_upto_region 11 with (fail)
      obtain ⟨W9, hW9⟩ : ∃ W9, W9 = wr.alloc (.cells #[.int .i64 3, .int .i64 0, .int .i64 0, .int .i64 0] 112) := ⟨_, rfl⟩
      rw [← hW9]
      have ht9 : W9.heap[T]? = some (.cells #[.int .i64 3, .int .i64 0, .int .i64 0, .int .i64 0] 112 (0, 0)) := by rw [hW9, hT]; exact heap_alloc_new _ _
      have hj9 : OJ w rs k W9 := by rw [hW9]; exact HJ.out.grown (grown_below (ext_alloc _ _) none) (fun q e => by cases e)
      rw [← hT]
      clear hW9
      have HT9 := Lib.hid ht9
      have HJ9 := Lib.hid hj9
      clear ht9 hj9 HJ
      obtain ⟨v, hz, hf, hpp, hown, hbw⟩ := HJ9.out
      obtain ⟨av, cv, rfl⟩ := hown.form
      have hlk : ((rs.take k).map fun r => blkOf r.xs).length = k := by simp [HLN.out]; omega
      have hown1 := hown.1
      rw [hlk] at hf hown1
      have hf1 : W9.cell? ⟨w.heap.size + 1 + 1, 1, none⟩ = some (.slice av k cv) := by rw [cell_of_row _ _ _ _ _ _ hf]; rfl
      have hF9 := (Array.getElem?_eq_some_iff.1 hf).1
      have HOWN := Lib.hid hown1
      have HF := Lib.hid hf
      have HLK := Lib.hid hlk
      clear hz hf hpp hown hbw hown1 hlk
      go_wp2_with (first
       | (at_builtin
          refine wpList_append1 rfl W9 (.tmp 47) (.tmp 50) 23 115 rfl (w.heap.size + 1 + 1 + 1) _ 5 56 Try.underlying23 infoBlk rfl (by omega) (.slice av k cv) _ _ (blkC (blkOf (x :: y :: z :: xs))) rfl HOWN.out W9.heap.size rfl rfl rfl (fun u hu => blk_one [blkOf (x :: y :: z :: xs)] u (by simpa using hu)) (by simp only [maxLen]; omega) (by omega) (by omega) ?_
          intro g2 cap w6 hown6 hg6 hat6
          have hne6 : (Value.slice av k cv).ownBlock ≠ some (w.heap.size + 1 + 1) := (fun e => by have := (HOWN.out.lt _ e).1; omega)
          have hv6 := (hg6.block _ hF9 (fun e => hne6 e.symm)).trans HF.out
          have hcv6 : w6.cell? ⟨w.heap.size + 1 + 1, 1, none⟩ = some (.slice av k cv) := (by rw [cell_of_row _ _ _ _ _ _ hv6]; rfl)
          have hfv6 : w6.frozen? ⟨w.heap.size + 1 + 1, 1, none⟩ = false := frozen_of_row _ _ _ _ _ hv6
          have HOWN6 := Lib.hid hown6
          have HG6 := Lib.hid hg6
          clear hown6 hg6 hat6 hne6 hv6 hf1)
       | (refine wpList_load_row (o := ⟨some 48, .load 112 _, _, _, _, _⟩) rfl 112 _ rfl T rfl 112 _ (0, 0) _ HT9.out Try.underlying112 rfl size_term ?_))
      go_roundw
      case rel => exact ⟨k + 1, by go_num, by omega, OJ.step HJ9.out HLR.out HOWN6.out HG6.out HF.out (by omega) HLK.out⟩
      case measure => simp [intOf]; omega
  · obtain rfl : k = n := by omega
    obtain ⟨v, hz, hf, hpp, hown, hbw⟩ := HJ.out
    have hlk : ((rs.take k).map fun r => blkOf r.xs) = rs.map fun r => blkOf r.xs := by rw [List.take_of_length_le (by rw [HLN.out]; omega)]
    rw [hlk] at hown
    obtain ⟨av, cv, rfl⟩ := hown.form
    have f0 : wr.cell? ⟨w.heap.size + 1 + 1, 0, none⟩ = some (.slice (some ⟨w.heap.size + 1, 0, none⟩) 1 1) := by rw [cell_of_row _ _ _ _ _ _ hf]; rfl
    have HZ := Lib.hid hz
    have HF := Lib.hid hf
    have HPP := Lib.hid hpp
    have HOWN := Lib.hid hown
    have HBW := Lib.hid hbw
    clear hz hf hpp hown hbw hlk f0
    go_wp2_with (first
     | (refine wpList_load_row (o := ⟨some 53, .load 25 _, _, _, _, _⟩) rfl 25 _ rfl (w.heap.size + 1 + 1) rfl 25 _ (0, 0) _ HF.out Try.underlying25 rfl size_func ?_)
     | (refine wpList_store_row (o := ⟨none, .store 25 _ _, _, _, _, _⟩) rfl 25 _ _ rfl w.heap.size #[.slice (some ⟨w.heap.size + 1, 0, none⟩) 1 1, .slice av (rs.map fun r => blkOf r.xs).length cv] rfl rfl 25 _ HZ.out size_func rfl (by simp [Value.oneCell']) ?_))
    have hl := run_loadVar_row (P := Try.prog) _ w.heap.size 25 25 _ (0, 0) _ (setRow_heap _ _ _ #[.slice (some ⟨w.heap.size + 1, 0, none⟩) 1 1, .slice av (rs.map fun r => blkOf r.xs).length cv] _ _ HZ.out) Try.underlying25 rfl size_func
    have hset := grown_setRow wr w.heap.size #[.slice (some ⟨w.heap.size + 1, 0, none⟩) 1 1, .slice av (rs.map fun r => blkOf r.xs).length cv]
    have eL : (rs.map fun r => blkOf r.xs) = (rs.map (·.xs)).map blkOf := by rw [List.map_map]; rfl
    have eN : (rs.map fun r => blkOf r.xs).length = (rs.map (·.xs)).length := by simp
    have hown := HOWN.out.kept hset (kept_ne fun q hq e => by have := (HOWN.out.low hq).1; injection e with e; omega)
    have hpp := (hset.block _ (Array.getElem?_eq_some_iff.1 HPP.out).1 (fun e => by injection e with e; omega)).trans HPP.out
    have hbel := below_setRow HBW.out (Nat.le_refl _) #[.slice (some ⟨w.heap.size + 1, 0, none⟩) 1 1, .slice av (rs.map fun r => blkOf r.xs).length cv]
    generalize wr.setRow w.heap.size #[.slice (some ⟨w.heap.size + 1, 0, none⟩) 1 1, .slice av (rs.map fun r => blkOf r.xs).length cv] = W9 at *
    refine bodyPost_ret (v := funcV (some ⟨w.heap.size + 1, 0, none⟩) 1 1 av (rs.map fun r => blkOf r.xs).length cv) ?_ rfl ⟨some ⟨w.heap.size + 1, 0, none⟩, 1, av, cv, by rw [eN], ?_, ⟨⟨rfl, .inr ⟨w.heap.size + 1, 1, #[.int .i64 1], rfl, by omega, hpp, Nat.le_refl _, by unfold maxLen; omega, rfl, rfl⟩⟩, fun x hx => ?_, by simp⟩, hbel⟩
    · simp only [List.length_map] at hl
      simp [results, Try.results28, asAddr, Act.put, hl]
    · rw [eN, eL] at hown
      have hge : w.heap.size ≤ w.heap.size + 1 + 1 + 1 := by omega
      exact OwnR.mono (base' := w.heap.size) hown hge
    · have : x = 1 := by simpa using hx
      subst this
      unfold I64; omega
end
end Go.Proofs.Ytblhmdhfhaencaa
