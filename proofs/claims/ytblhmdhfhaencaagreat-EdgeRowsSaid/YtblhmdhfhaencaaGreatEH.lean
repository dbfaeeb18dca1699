/-
  Edge: besides (which tiles a block lies in, and another one not).
-/
import Derived.Test.YtblhmdhfhaencaaGreatEF
import Derived.Test.YtblhmdhfhaencaaGreatSortI
namespace Go.Proofs.YtblhmdhfhaencaaGreat
set_option linter.unusedSimpArgs false
set_option linter.unusedVariables false
open Go.RowKit Go.Shelf
attribute [local go_sem] Oper.semAt_some wide_fn wide_depth wide_fnR wide_depthR

def besTo (l : List TileD) (b o : Int) (j : Nat) : List Int := ((inL l b).take j).filter fun k => !(inL l o).contains k
theorem besTo_step (l : List TileD) (b o : Int) (j : Nat) (h : j < (inL l b).length) : besTo l b o (j + 1) = besTo l b o j ++ if (inL l o).contains ((inL l b).getD j 0) then [] else [(inL l b).getD j 0] := by
  rw [besTo, besTo, List.take_add_one, List.getElem?_eq_getElem h, Option.toList_some, List.filter_append]
  congr 1
  have e : (inL l b).getD j 0 = (inL l b)[j] := by simp [List.getD_eq_getElem?_getD, h]
  rw [e, List.filter_cons, List.filter_nil]
  cases (inL l o).contains (inL l b)[j] <;> rfl
set_option maxRecDepth 100000 in
set_option maxHeartbeats 4000000 in
theorem besides_any (l : List TileD) (n : Nat) (a : Option Addr) (ln lc : Nat) (v : Value) (b o : Nat) (hb : b < n) (ho : o < n) (w : World) (base : Nat) (h : AroundOK w base l n a ln lc v) (hl : (inL l b).length ≤ 1000) :
    Calls Tryz.prog 116 #[v, .int .i64 (b : Int), .int .i64 (o : Int)] w (IntsPost w (besL l b o)) := by
  obtain ⟨g, c, M, rfl, hown, _, hm⟩ := h
  obtain ⟨f, him, _, hall⟩ := hm
  obtain ⟨xa, xc, fb, hib, _⟩ := hall b hb
  obtain ⟨ya, yc, fo, hio, _⟩ := hall o ho
  have HIM := Lib.hid him
  have HIB := Lib.hid hib
  have HIO := Lib.hid hio
  have HFB := Lib.hid fb
  have HFO := Lib.hid fo
  clear hown hall him hib hio fb fo
  go_enter Tryz.func116, Tryz.ntmps116
  go_upto_region 1 with (fail)
  obtain ⟨W, hW⟩ : ∃ W, W = w.alloc (aroundO a ln lc (.slice (some ⟨g, 0, none⟩) n c) (some M)) := ⟨_, rfl⟩
  rw [← hW]
  have hk0 : W.heap[w.heap.size]? = some (aroundO a ln lc (.slice (some ⟨g, 0, none⟩) n c) (some M)) := by rw [hW]; exact heap_alloc_new _ _
  have hB : Below w.heap.size w W := by rw [hW]; exact ext_alloc _ _
  have HK := Lib.hid hk0
  have HB := Lib.hid hB
  have hc2 : W.cell? ⟨w.heap.size, 2, none⟩ = some (.map (some M)) := by rw [cell_of_row _ _ _ _ _ _ hk0]; rfl
  have hlk : (Instr.lookup 85 (.map (some M)) (.int .i64 (b : Int)) false).run Tryz.prog W = .ok (.slice xa (inL l b).length xc) W := by
    have := IMap.look (P := Tryz.prog) (HIM.out.ext hB) Tryz.underlying85 Tryz.underlying3 (zero_ints _) (b : Int)
    rw [HFB.out] at this
    exact this
  clear hW hk0 hB
  go_wp2
  clear hc2 hlk
  have HI0 : Hid (Below w.heap.size w W) := HB.out
  go_loopw [6, 14] (fun v i wr => ∃ j : Nat, i = .int .i64 j ∧ j ≤ (inL l b).length ∧ Hid (OwnI wr W.heap.size v (besTo l b o j)) ∧ Hid (Below W.heap.size W wr)) (fun _ i _ => (inL l b).length - (intOf i).toNat)
  case atStart => exact ⟨0, rfl, by omega, OwnI.nil _ _, Below.refl _ _⟩
  case round =>
    obtain ⟨j, rfl, hj, HO, HBr⟩ := hrel
    obtain ⟨av, cv, rfl⟩ := HO.out.form
    have HBw : Hid (Below w.heap.size w wr) := ext_trans HB.out HBr.out
    by_cases hlt : j < (inL l b).length
    · obtain ⟨xb, xo, rfl, cx, hxi⟩ := (HIB.out.ext HBw.out).2.2 j hlt
      have hk9 := block_ext HBr.out HK.out
      have hc2 : wr.cell? ⟨w.heap.size, 2, none⟩ = some (.map (some M)) := by rw [cell_of_row _ _ _ _ _ _ hk9]; rfl
      have hlk : (Instr.lookup 85 (.map (some M)) (.int .i64 (o : Int)) false).run Tryz.prog wr = .ok (.slice ya (inL l o).length yc) wr := by
        have := IMap.look (P := Tryz.prog) (HIM.out.ext HBw.out) Tryz.underlying85 Tryz.underlying3 (zero_ints _) (o : Int)
        rw [HFO.out] at this
        exact this
      have HST := Lib.hid (besTo_step l b o j hlt)
      have HDC : Hid (decide (0 ≤ idx (inL l o) ((inL l b).getD j 0)) = (inL l o).contains ((inL l b).getD j 0)) := by
        rw [Hid, Bool.eq_iff_iff, decide_eq_true_eq, List.contains_iff_mem]
        have := idx_neg_iff (inL l o) ((inL l b).getD j 0)
        constructor
        · intro h
          apply Classical.byContradiction
          intro hn
          have := this.2 hn
          omega
        · intro h
          apply Classical.byContradiction
          intro hn
          exact this.1 (by omega) h
      have HXI := Lib.hid hxi
      have hbl : (besTo l b o j).length ≤ 1000 := by
        have h1 := List.length_filter_le (fun k => !(inL l o).contains k) ((inL l b).take j)
        have h2 := List.length_take_le' j (inL l b)
        unfold besTo
        omega
      clear hk9 hxi
      generalize (inL l b).getD j 0 = x at *
      cases hh : (inL l o).contains x with
      | true =>
        have HD : Hid (decide (0 ≤ idx (inL l o) x) = true) := HDC.out.trans hh
        have HST2 : Hid (besTo l b o (j + 1) = besTo l b o j) := by rw [Hid, HST.out, hh]; simp
        clear hh HDC HST
        go_wp2_with (go_at_call 159; refine (scontains_any ya _ yc (inL l o) x wr (HIO.out.ext HBw.out)).mono ?_; rintro e w' ⟨rfl, rfl⟩; rw [HD.out])
        go_roundw
        case rel => exact ⟨j + 1, by go_num, by omega, by rw [HST2.out]; exact HO, HBr⟩
        case measure => simp [intOf]; omega
      | false =>
        have HD : Hid (decide (0 ≤ idx (inL l o) x) = false) := HDC.out.trans hh
        have HST2 : Hid (besTo l b o (j + 1) = besTo l b o j ++ [x]) := by rw [Hid, HST.out, hh]; simp
        clear hh HDC HST
        go_wp2_with (first
          | (at_builtin
             refine wpList_append1 rfl wr (.tmp 25) (.tmp 27) 22 3 rfl W.heap.size _ 1 8 Tryz.underlying22 infoI rfl (by omega) (.slice av (besTo l b o j).length cv) _ _ [.int .i64 x] rfl HO.out.1 wr.heap.size rfl rfl rfl (by simp [Value.oneCell']) (by simp only [maxLen]; omega) (by omega) HBr.out.size ?_
             intro g2 cap w2 hown2 hgr2 hat2
             have HO2 := Lib.hid hown2
             have HB2 := Lib.hid (HBr.out.grown hgr2 HBr.out.size (fun q e => (HO.out.1.lt q e).1))
             clear hown2 hgr2 hat2)
          | (go_at_call 159; refine (scontains_any ya _ yc (inL l o) x wr (HIO.out.ext HBw.out)).mono ?_; rintro e w' ⟨rfl, rfl⟩; rw [HD.out]))
        go_roundw
        case rel =>
          refine ⟨j + 1, by go_num, by omega, ⟨?_, ?_, ?_⟩, HB2⟩
          · rw [HST2.out, List.length_append]
            have := HO2.out
            simpa [intVals] using this
          · rw [HST2.out]
            intro z hz
            rcases List.mem_append.1 hz with hz | hz
            · exact HO.out.2.1 z hz
            · have : z = x := by simpa using hz
              subst this; exact HXI.out
          · rw [HST2.out, List.length_append]; simp; omega
        case measure => simp [intOf]; omega
    · obtain rfl : j = (inL l b).length := by omega
      have HE : Hid (besTo l b o (inL l b).length = besL l b o) := by rw [Hid, besTo, List.take_length, besL]
      go_wp2
      go_ret
      rw [← HE.out]
      exact ⟨_, rfl, HO.out.mono HB.out.size, HBw.out⟩

open Go.RowKit Go.Shelf

structure RowH where
  r : RowD
  lv : Value
  en : Value
def csR (h : RowH) : List Value := [.int .i64 h.r.e.fr, .int .i64 h.r.e.arm, .int .i64 h.r.e.to, h.lv, h.en]
theorem csR_len (h : RowH) : (csR h).length = 5 := rfl
theorem infoRow : (Tryz.prog.info? 79).map (fun i => (i.zero, i.size, i.bytes)) = some (some (.agg #[.int .i64 0, .int .i64 0, .int .i64 0, .slice none 0 0, .slice none 0 0]), 5, 72) := by kernel_rfl
theorem size_row : (Tryz.prog.info? 79).map (·.size) = some 5 := by kernel_rfl
/-- rows of the call's own -/
def RowsIn (W : World) (base : Nat) (v : Value) (hs : List RowH) : Prop :=
  OwnR 79 5 csR W base v hs ∧ ∀ h ∈ hs, OwnI W base h.lv h.r.lv ∧ OwnI W base h.en h.r.en ∧ (∀ q, h.lv.ownBlock = some q → v.ownBlock ≠ some q) ∧ ∀ q, h.en.ownBlock = some q → v.ownBlock ≠ some q
theorem RowsIn.nil (W : World) (base : Nat) : RowsIn W base (.slice none 0 0) [] := ⟨OwnR.nil _ _ _ _ _, fun h hh => by cases hh⟩
theorem kept_ne {o : Option Nat} {row : Option Nat} (h : ∀ q, o = some q → row ≠ some q) : o = none ∨ o ≠ row := by
  cases o with
  | none => exact .inl rfl
  | some q => exact .inr fun e => h q rfl e.symm
theorem RowsIn.grown {W W' : World} {base : Nat} {v : Value} {hs : List RowH} {row : Option Nat} (h : RowsIn W base v hs) (hg : W.grownBy W' row) (hr : ∀ q, row = some q → q < base ∨ W.heap.size ≤ q) : RowsIn W' base v hs := by
  obtain ⟨h1, h2⟩ := h
  refine ⟨h1.kept hg (kept_ne fun q hq e => ?_), fun x hx => ?_⟩
  · have := h1.low hq; have := hr q e; omega
  · obtain ⟨h3, h4, h5, h6⟩ := h2 x hx
    refine ⟨h3.kept hg (kept_ne fun q hq e => ?_), h4.kept hg (kept_ne fun q hq e => ?_), h5, h6⟩
    · have := h3.1.lt q hq; have := hr q e; omega
    · have := h4.1.lt q hq; have := hr q e; omega
theorem RowsIn.mono {W : World} {base base' : Nat} {v : Value} {hs : List RowH} (h : RowsIn W base v hs) (hb : base' ≤ base) : RowsIn W base' v hs :=
  ⟨h.1.mono hb, fun x hx => let ⟨h3, h4, h5, h6⟩ := h.2 x hx; ⟨h3.mono hb, h4.mono hb, h5, h6⟩⟩
theorem RowsIn.ext {W W' : World} {base : Nat} {v : Value} {hs : List RowH} (h : RowsIn W base v hs) (hb : Below W.heap.size W W') : RowsIn W' base v hs :=
  h.grown (grown_below hb none) fun q e => by cases e
theorem own_one {w : World} {base : Nat} {v : Value} {xs : List Int} (h : OwnI w base v xs) : v.oneCell' = true := by
  obtain ⟨a, c, rfl⟩ := h.form; rfl
theorem RowsIn.one {W : World} {base : Nat} {v : Value} {hs : List RowH} (h : RowsIn W base v hs) : ∀ u ∈ hs.flatMap csR, u.oneCell' = true := by
  intro u hu
  simp only [List.mem_flatMap, csR] at hu
  obtain ⟨x, hx, hu⟩ := hu
  obtain ⟨h3, h4, _⟩ := h.2 x hx
  simp only [List.mem_cons, List.not_mem_nil, or_false] at hu
  rcases hu with rfl | rfl | rfl | rfl | rfl
  · rfl
  · rfl
  · rfl
  · exact own_one h3
  · exact own_one h4
theorem one_row {r : RowD} {a b : Value} (ha : a.oneCell' = true) (hb : b.oneCell' = true) : ∀ u ∈ csR ⟨r, a, b⟩, u.oneCell' = true := by
  intro u hu
  simp only [csR, List.mem_cons, List.not_mem_nil, or_false] at hu
  rcases hu with rfl | rfl | rfl | rfl | rfl
  · rfl
  · rfl
  · rfl
  · exact ha
  · exact hb
def rowsTo (l : List TileD) (ask : EdgeD → Bool) (d : List EdgeD) : List RowD := (d.filter (betwB l ask)).map (rowOf l)
theorem rowsTo_step (l : List TileD) (ask : EdgeD → Bool) (d : List EdgeD) (x : EdgeD) : rowsTo l ask (d ++ [x]) = rowsTo l ask d ++ if betwB l ask x then [rowOf l x] else [] := by
  rw [rowsTo, rowsTo, List.filter_append, List.map_append]
  congr 1
  rw [List.filter_cons, List.filter_nil]
  cases betwB l ask x <;> rfl
theorem rowsTo_len (l : List TileD) (ask : EdgeD → Bool) (d : List EdgeD) : (rowsTo l ask d).length ≤ d.length := by
  rw [rowsTo, List.length_map]; exact List.length_filter_le _ _
/-- while rows are put together: the variable, what it holds; all else as it was at the begin, but for the variable -/
def RJ (w1 : World) (B : Nat) (l : List TileD) (ask : EdgeD → Bool) (d : List EdgeD) (W : World) : Prop :=
  ∃ v hs, W.heap[B]? = some (.cells #[v] 31 (0, 0)) ∧ RowsIn W w1.heap.size v hs ∧ hs.map (·.r) = rowsTo l ask d ∧ w1.grownBy W (some B) ∧ B < w1.heap.size
theorem Steady.rowsIn (D base : Nat) (v : Value) (hs : List RowH) : Steady D (fun W => RowsIn W base v hs) :=
  (Steady.ownR _ _ _ _).and (Steady.all fun h => Steady.imp ((Steady.ownI _ _ _ _).and ((Steady.ownI _ _ _ _).and (Steady.pure _ _))))
theorem Steady.grown {D : Nat} {w1 : World} {B : Nat} (hD : w1.heap.size ≤ D) : Steady D (fun W => w1.grownBy W (some B)) := fun W W' row h hg hr =>
  grown_trans h hg (.inr fun q e => Nat.le_trans hD (hr q e).1)
theorem RJ.steady {w1 : World} {B : Nat} {l : List TileD} {ask : EdgeD → Bool} {d : List EdgeD} {D : Nat} (hD : w1.heap.size ≤ D) : Steady D (RJ w1 B l ask d) := by
  unfold RJ
  exact Steady.ex fun v => Steady.ex fun hs => (Steady.block _ _ rfl).and ((Steady.rowsIn _ _ _ _).and ((Steady.pure _ _).and ((Steady.grown hD).and (Steady.pure _ _))))
theorem grown_none {a b : World} (h : a.grownBy b none) (row : Option Nat) : a.grownBy b row := ⟨h.os, h.tape, h.output, h.size, fun k hk _ => h.block k hk (fun e => by cases e)⟩
/-- one more row is put behind -/
theorem row_end {W1 W2 w5 w6 : World} {B g2 cap : Nat} {l : List TileD} {ask : EdgeD → Bool} {d : List EdgeD} {x : EdgeD} {v v6 v12 : Value} {hs : List RowH}
    (hV : W2.heap[B]? = some (.cells #[v] 31 (0, 0))) (hrows : RowsIn W2 W1.heap.size v hs) (hmap : hs.map (·.r) = rowsTo l ask d) (hgr : W1.grownBy W2 (some B)) (hBW : B < W1.heap.size)
    (h25 : W2.grownBy w5 none) (hk25 : Keep W2 w5) (h6 : OwnI w5 W2.heap.size v6 (besL l x.fr x.to)) (h12 : OwnI w5 W2.heap.size v12 (besL l x.to x.fr).reverse)
    (hown : w6.ownsRow W1.heap.size 79 5 (.slice (some ⟨g2, 0, none⟩) (hs.length + 1) cap) (hs.length + 1) (hs.flatMap csR ++ csR ⟨rowOf l x, v6, v12⟩))
    (hg : w5.grownBy w6 v.ownBlock) (hat : some g2 = v.ownBlock ∨ g2 = w5.heap.size + 1) (hbt : betwB l ask x = true) (hlen : hs.length ≤ 1000) :
    Keep W2 (w6.setCell ⟨B, 0, none⟩ (.slice (some ⟨g2, 0, none⟩) (hs.length + 1) cap)) ∧ RJ W1 B l ask (d ++ [x]) (w6.setCell ⟨B, 0, none⟩ (.slice (some ⟨g2, 0, none⟩) (hs.length + 1) cap)) ∧
      Tch (TV B 31) W2 (w6.setCell ⟨B, 0, none⟩ (.slice (some ⟨g2, 0, none⟩) (hs.length + 1) cap)) := by
  have hBW2 := (Array.getElem?_eq_some_iff.1 hV).1
  have hvlow : ∀ q, v.ownBlock = some q → W1.heap.size ≤ q ∧ q < W2.heap.size := fun q hq => hrows.1.low hq
  have hrows5 := hrows.grown h25 (fun q e => by cases e)
  have hV5 : w5.heap[B]? = some (.cells #[v] 31 (0, 0)) := (h25.block B hBW2 (fun e => by cases e)).trans hV
  have hBW5 := (Array.getElem?_eq_some_iff.1 hV5).1
  have hV6 : w6.heap[B]? = some (.cells #[v] 31 (0, 0)) := (hg.block B hBW5 (fun e => by have := hvlow B e.symm; omega)).trans hV5
  have hst := heap_setCell_same w6 B 0 _ _ (.slice (some ⟨g2, 0, none⟩) (hs.length + 1) cap) hV6
  simp only [List.setIfInBounds_toArray, List.set_cons_zero] at hst
  have hset := grown_setCell w6 B 0 (.slice (some ⟨g2, 0, none⟩) (hs.length + 1) cap)
  have hs25 := h25.size
  have hs56 := hg.size
  have hg2 : W1.heap.size ≤ g2 := (hown.lt g2 rfl).1
  have hgW1 : W1.heap.size ≤ W2.heap.size := hgr.size
  -- a slice of ours, through the append and the store
  have own6 : ∀ {u : Value} {ys : List Int}, OwnI w5 W1.heap.size u ys → (∀ q, u.ownBlock = some q → v.ownBlock ≠ some q) → OwnI (w6.setCell ⟨B, 0, none⟩ (.slice (some ⟨g2, 0, none⟩) (hs.length + 1) cap)) W1.heap.size u ys := fun {u ys} ho hne =>
    (ho.kept hg (kept_ne hne)).kept hset (kept_ne fun q hq e => by have := (ho.1.lt q hq).1; injection e with e; omega)
  have ne2 : ∀ {u : Value} {ys : List Int}, OwnI w5 W1.heap.size u ys → (∀ q, u.ownBlock = some q → v.ownBlock ≠ some q) → ∀ q, u.ownBlock = some q → (Value.slice (some ⟨g2, 0, none⟩) (hs.length + 1) cap).ownBlock ≠ some q := fun {u ys} ho hne q hq e => by
    simp only [Value.ownBlock, Option.some.injEq] at e
    subst e
    rcases hat with h | h
    · exact hne g2 hq h.symm
    · have := (ho.1.lt g2 hq).2; omega
  have hne6 : ∀ q, v6.ownBlock = some q → v.ownBlock ≠ some q := fun q hq e => by have := (h6.1.lt q hq).1; have := hvlow q e; omega
  have hne12 : ∀ q, v12.ownBlock = some q → v.ownBlock ≠ some q := fun q hq e => by have := (h12.1.lt q hq).1; have := hvlow q e; omega
  refine ⟨(hk25.trans (Keep.grown hg (own_nobook hrows5.1.1))).trans (Keep.setCell _ _ _), ⟨_, hs ++ [⟨rowOf l x, v6, v12⟩], hst, ⟨⟨?_, by simp; omega⟩, ?_⟩, ?_, ?_, hBW⟩, ?_⟩
  · have : (hs ++ [(⟨rowOf l x, v6, v12⟩ : RowH)]).flatMap csR = hs.flatMap csR ++ csR ⟨rowOf l x, v6, v12⟩ := by simp
    rw [this, List.length_append]
    exact hown.kept hset (.inr (by simp [Value.ownBlock]; omega))
  · intro h hh
    rcases List.mem_append.1 hh with hh | hh
    · obtain ⟨h1, h2, h3, h4⟩ := hrows5.2 h hh
      exact ⟨own6 h1 h3, own6 h2 h4, ne2 h1 h3, ne2 h2 h4⟩
    · have : h = ⟨rowOf l x, v6, v12⟩ := by simpa using hh
      subst this
      have a6 := h6.mono hgW1
      have a12 := h12.mono hgW1
      exact ⟨own6 a6 hne6, own6 a12 hne12, ne2 a6 hne6, ne2 a12 hne12⟩
  · rw [rowsTo_step, hbt, List.map_append, hmap]; rfl
  · exact grown_trans (grown_trans (grown_trans hgr h25 (.inr fun q e => by cases e)) hg (.inr fun q e => (hvlow q e).1)) hset (.inl rfl)
  · refine tch_var hV hst (by simp; omega) (fun k hk hkB hkv => ?_) (fun k hk => ?_)
    · rw [Below.heap_setCell _ _ _ _ (fun e => hkB e), hg.block k (by omega) (fun e => hkv e.symm), h25.block k hk (fun e => by cases e)]
    · simp only [Value.ownBlock, Option.some.injEq] at hk
      subst hk
      rcases hat with h | h
      · exact .inl h.symm
      · exact .inr (by omega)
end Go.Proofs.YtblhmdhfhaencaaGreat
