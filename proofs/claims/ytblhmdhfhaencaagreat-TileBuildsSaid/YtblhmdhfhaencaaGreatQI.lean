/-
  Building tiles: the parts sorted.
-/
import Derived.Test.YtblhmdhfhaencaaGreatQD
import Derived.Test.YtblhmdhfhaencaaGreatAT
import Derived.Test.YtblhmdhfhaencaaGreatVP
import Derived.Test.YtblhmdhfhaencaaGreatTI
import Derived.Test.YtblhmdhfhaencaaGreatDF
import Derived.Test.YtblhmdhfhaencaaGreatQC
import Derived.Test.YtblhmdhfhaencaaGreatQH
import Derived.Test.YtblhmdhfhaencaaGreatTR
import Derived.Test.YtblhmdhfhaencaaGreatSortI
import Derived.Test.YtblhmdhfhaencaaGreatQK
namespace Go.Proofs.YtblhmdhfhaencaaGreat
set_option linter.unusedSimpArgs false
set_option linter.unusedVariables false
set_option linter.unusedSectionVars false
set_option maxRecDepth 100000
set_option maxHeartbeats 40000000
section
open Go.RowKit Go.Shelf
theorem enter_cmp (args : Array Value) (w : World) : (callFunc 83 args).run Tryz.prog w = .ok (.enter 83 args) w := by kernel_rfl
def sortedK (qs : List PartD) : Prop := ∀ i j, i < j → j < qs.length → keyP qs (qs.getD i zPart) ≤ keyP qs (qs.getD j zPart)
theorem key_perm {ps qs : List PartD} (h : ps.Perm qs) (p : PartD) : keyP ps p = keyP qs p := by rw [keyP, keyP, around_perm h]
theorem insNone_any (fv : Value) (w : World) : Calls Tryz.prog 177 #[.slice none 0 0, .int .i64 0, .int .i64 0, fv] w fun e w' => e = .returned (.tuple #[]) ∧ w = w' := by
  go_enter Tryz.func177, Tryz.ntmps177
  go_wp2
  refine wp_loop_rounds 1 ?_
  rw [rounds_succ]
  go_wp2
  go_end0
  exact ⟨rfl, rfl⟩
theorem stableNone_any (fv : Value) (w : World) : Calls Tryz.prog 135 #[.slice none 0 0, .int .i64 0, fv] w fun e w' => e = .returned (.tuple #[]) ∧ w = w' := by
  go_enter Tryz.func135, Tryz.ntmps135
  go_wp2
  refine wp_loop_rounds 1 ?_
  rw [rounds_succ]
  go_wp2_with (go_at_call 177; refine (insNone_any _ _).mono ?_; rintro e w1 ⟨rfl, rfl⟩)
  refine wp_loop_rounds 1 ?_
  rw [rounds_succ]
  go_wp2
  go_end0
  exact ⟨rfl, rfl⟩
theorem sortNone_any (fv : Value) (w : World) : Calls Tryz.prog 82 #[.slice none 0 0, fv] w fun e w' => e = .returned (.tuple #[]) ∧ w = w' := by
  go_enter Tryz.func82, Tryz.ntmps82
  go_wp2_with (go_at_call 135; refine (stableNone_any _ _).mono ?_; rintro e w1 ⟨rfl, rfl⟩)
  go_end0
  exact ⟨rfl, rfl⟩
theorem sortParts_any (P base bv : Nat) (d : WalkD) (v : Value) (L : List PartD) (w : World) (hV : w.heap[bv]? = some (.cells #[.pointer (some ⟨P, 0, none⟩)] 119 (0, 0))) (hB : w.heap[P]? = some (bldO d v)) (hL : PartsIn w base v L) (hn : L.length < 40) (hsm : ∀ p ∈ L, listS p.s ≠ []) (hfi : ∀ p ∈ L, firstP p < 300) :
    Calls Tryz.prog 82 #[v, .func (.func 83) #[] #[.pointer (some ⟨bv, 0, none⟩)]] w fun e w' => e = .returned (.tuple #[]) ∧ ∃ qs, PartsIn w' base v qs ∧ L.Perm qs ∧ sortedK qs ∧ Chg (fun k => v.ownBlock = some k) w w' := by
  have hown := hL.1
  rcases hown.2 with ⟨hv, h0⟩ | ⟨g, c, cur, hv, _⟩
  · subst hv;have hL0 : L = [] := List.eq_nil_of_length_eq_zero h0;subst hL0;refine (sortNone_any _ w).mono ?_;rintro e w' ⟨rfl, rfl⟩;exact ⟨rfl, [], hL, List.Perm.refl _, fun i j _ hj => absurd hj (by simp), Chg.refl _ _⟩
  · subst hv;have hgP : P ≠ g := fun e => own_other hown hB (by decide) (by rw [e]; rfl);have hgV : bv ≠ g := fun e => own_other hown hV (by decide) (by rw [e]; rfl)
    have S : SortJ 83 #[.pointer (some ⟨bv, 0, none⟩)] (cfP L) (keyP L) base g L.length c (fun M W => PartsIn W base (.slice (some ⟨g, 0, none⟩) L.length c) M ∧ M.Perm L ∧ Chg (fun k => k = g) w W) := {
      enter := enter_cmp
      cmp := fun M W ⟨h1, h2, h3⟩ p q hp hq => by
        have h := cmp_any P base bv (some ⟨g, 0, none⟩) L.length c d M p q W (h3.row hV (fun e => hgV e)) (h3.row hB (fun e => hgP e)) h1 (by omega) (hsm p (h2.mem_iff.1 hp)) (hsm q (h2.mem_iff.1 hq));refine h.mono ?_;rintro e w' ⟨rfl, hb⟩;refine ⟨?_, hb⟩;rw [cfP, cfP, around_perm h2, around_perm h2]
      less := fun M W ⟨h1, h2, h3⟩ p q hp hq => cf_less L p q (hfi p (h2.mem_iff.1 hp)) (hfi q (h2.mem_iff.1 hq))
      parts := fun M W h => h.1
      turn := fun M M' W W' h hp hP hc => ⟨hP, hp.trans h.2.1, h.2.2.trans hc⟩ }
    refine (sortStable_any _ _ _ _ base g L.length c _ S hn L w ⟨hL, List.Perm.refl _, Chg.refl _ _⟩).mono ?_;rintro e w' ⟨rfl, qs, ⟨h1, h2, h3⟩, h4, h5⟩;refine ⟨rfl, qs, h1, h2.symm, fun i j hij hj => ?_, h3.mono fun k hk => by rw [hk]; rfl⟩;have hl := h2.length_eq;rw [key_perm h2, key_perm h2];exact h5 i j (Nat.zero_le _) hij (by omega)
end

section
open Go.RowKit Go.Shelf
theorem own_heap {W : World} {base og n c : Nat} {xs : List Int} (h : OwnI W base (.slice (some ⟨og, 0, none⟩) n c) xs) : ∃ cur, W.heap[og]? = some (.cells cur 3 (0, 0)) := by
  rcases h.1.2 with ⟨h, _⟩ | ⟨g4, cap4, cur4, h, _, hg4, _⟩
  · cases h
  · injection h with h;injection h with h;injection h with h;subst h;exact ⟨cur4, hg4⟩
theorem OwnI.put {W : World} {base og n c : Nat} {xs : List Int} (h : OwnI W base (.slice (some ⟨og, 0, none⟩) n c) xs) (x : Nat) {y : Int} (hy : I64 y) : OwnI (W.setCell ⟨og, x, none⟩ (.int .i64 y)) base (.slice (some ⟨og, 0, none⟩) n c) (xs.set x y) := by
  obtain ⟨h1, h2, h3⟩ := h
  have hn : n = xs.length := by
    rcases h1.2 with ⟨h, _⟩ | ⟨g4, cap4, cur4, h, _⟩
    · cases h
    · injection h
  subst hn
  refine ⟨?_, fun z hz => ?_, by rw [List.length_set]; exact h3⟩
  · have h4 := (h1.stored x (.int .i64 y)).1;rw [List.length_set, show intVals (xs.set x y) = (intVals xs).set x (.int .i64 y) by simp [intVals, List.map_set]];exact h4
  · rcases List.mem_or_eq_of_mem_set hz with h | h
    · exact h2 z h
    · rw [h]; exact hy
structure BdJ (W0 : World) (base : Nat) (vp : Value) (qs : List PartD) (ob og n : Nat) (own : List Int) (out : Value) (ls : List TileR) (W : World) : Prop where
  parts : PartsIn W base vp qs
  cell : W.heap[ob]? = some (.cells #[.slice (some ⟨og, 0, none⟩) n n] 22 (0, 0))
  own : OwnI W base (.slice (some ⟨og, 0, none⟩) n n) own
  tiles : TilesIn W base out ls
  sepo : ∀ t ∈ ls, (bsV t).ownBlock ≠ some og
  ext : Below W0.heap.size W0 W
  bs : base ≤ W.heap.size
  w0 : W0.heap.size ≤ base
section
variable {W0 W W3 : World} {base : Nat} {vp : Value} {qs : List PartD} {ob og n : Nat} {own : List Int} {out : Value} {ls : List TileR}
theorem BdJ.steady {D : Nat} (hD : W0.heap.size ≤ D) : Steady D (BdJ W0 base vp qs ob og n own out ls) := fun W W' row h hg hr =>
  ⟨(Steady.ownR D base vp qs) W W' row h.parts hg hr, (Steady.block D ob rfl) W W' row h.cell hg hr, (Steady.ownI D base _ own) W W' row h.own hg hr, (TilesIn.steady (D := D)) W W' row h.tiles hg hr, h.sepo, (Steady.below (Nat.le_refl _) hD) W W' row h.ext hg hr, Nat.le_trans h.bs hg.size, h.w0⟩
theorem BdJ.ext' (h : BdJ W0 base vp qs ob og n own out ls W) (hb : Below W.heap.size W W3) : BdJ W0 base vp qs ob og n own out ls W3 :=
  ⟨PartsIn.ext h.parts hb, block_ext hb h.cell, h.own.ext hb, h.tiles.ext hb, h.sepo, h.ext.trans (hb.mono (Nat.le_trans h.w0 h.bs)), Nat.le_trans h.bs hb.size, h.w0⟩
theorem BdJ.put (h : BdJ W0 base vp qs ob og n own out ls W) (x : Nat) {y : Int} (hy : I64 y) : BdJ W0 base vp qs ob og n (own.set x y) out ls (W.setCell ⟨og, x, none⟩ (.int .i64 y)) := by
  obtain ⟨cur, hg⟩ := own_heap h.own
  have g := grown_setCell W og x (.int .i64 y)
  have hlow := (h.own.1.lt og rfl).1
  have n1 : vp.ownBlock ≠ some og := own_other h.parts.1 hg (by decide)
  have n2 : out.ownBlock ≠ some og := own_other h.tiles.own.1 hg (by decide)
  have key : ∀ v : Value, v.ownBlock ≠ some og → v.ownBlock = none ∨ v.ownBlock ≠ some og := fun v hv => .inr hv
  refine ⟨OwnR.kept h.parts g (key _ n1), grown_row g h.cell fun e => ?_, h.own.put x hy, ⟨h.tiles.own.kept g (key _ n2), fun t ht => ⟨(h.tiles.each t ht).1.kept g (key _ (h.sepo t ht)), (h.tiles.each t ht).2⟩, h.tiles.sepv, h.tiles.pw⟩, h.sepo, h.ext.grown g h.ext.size (fun q e => by injection e with e; have := h.w0; omega), Nat.le_trans h.bs (by simp), h.w0⟩
  injection e with e
  subst e
  have := h.cell
  rw [hg] at this
  injection this with this
  injection this with _ this _
  exact absurd this (by decide)
theorem BdJ.out_low (h : BdJ W0 base vp qs ob og n own out ls W) {q : Nat} (hq : out.ownBlock = some q) : base ≤ q := (h.tiles.own.low hq).1
theorem BdJ.add {v' : Value} (h : BdJ W0 base vp qs ob og n own out ls W) (x : TileR) (hx : x.ba = none) (hx2 : x.bn = 0) (hx3 : x.bc = 0) (hx4 : x.d.blocks = []) (hk : I64 x.d.kind ∧ I64 x.d.parent) (hg : W.grownBy W3 out.ownBlock)
    (ho : W3.ownsRow base 76 3 v' (ls.length + 1) (ls.flatMap tileC ++ tileC x)) (hat : v'.ownBlock = out.ownBlock ∨ ∃ q, v'.ownBlock = some q ∧ W.heap.size ≤ q) (hn : ls.length ≤ 1000) : BdJ W0 base vp qs ob og n own v' (ls ++ [x]) W3 := by
  obtain ⟨cur, hgo⟩ := own_heap h.own
  have n1 : out.ownBlock ≠ some ob := own_other h.tiles.own.1 h.cell (by decide)
  have n2 : out.ownBlock ≠ some og := own_other h.tiles.own.1 hgo (by decide)
  have n3 : ∀ q, out.ownBlock = some q → vp.ownBlock ≠ some q := fun q hq e => by
    rcases h.tiles.own.1.2 with ⟨h1, _⟩ | ⟨g4, cap4, cur4, h1, _, hg4, _⟩
    · rw [h1] at hq; cases hq
    · rw [h1] at hq;simp only [Value.ownBlock, Option.some.injEq] at hq;subst hq;exact own_other h.parts.1 hg4 (by decide) e
  have hlow : ∀ q, out.ownBlock = some q → base ≤ q := fun q hq => h.out_low hq
  have key : ∀ v : Value, (∀ q, out.ownBlock = some q → v.ownBlock ≠ some q) → v.ownBlock = none ∨ v.ownBlock ≠ out.ownBlock := fun v hv => by
    cases e : v.ownBlock with
    | none => exact .inl rfl
    | some q => exact .inr fun e2 => hv q e2.symm e
  refine ⟨OwnR.kept h.parts hg (key _ n3), grown_row hg h.cell n1, h.own.kept hg (key _ fun q hq e => n2 (hq.trans e.symm ▸ rfl)), h.tiles.add x hx hx2 hx3 hx4 hk hg ho hat hn, fun t ht => ?_, h.ext.grown hg h.ext.size (fun q e => by have := hlow q e; have := h.w0; omega), Nat.le_trans h.bs hg.size, h.w0⟩
  rcases List.mem_append.1 ht with ht | ht
  · exact h.sepo t ht
  · have : t = x := by simpa using ht
    subst this;rw [bsV, hx];intro e;cases e
theorem BdJ.turn {g m c : Nat} (h : BdJ W0 base vp qs ob og n own (.slice (some ⟨g, 0, none⟩) m c) ls W) {k : Nat} {t t' : TileR} (hk : ls[k]? = some t) (hg : W.grownBy W3 (bsV t).ownBlock) (ho : OwnI W3 base (bsV t') t'.d.blocks) (he : t'.d.kind = t.d.kind ∧ t'.d.parent = t.d.parent)
    (hat : (bsV t').ownBlock = (bsV t).ownBlock ∨ ∃ q, (bsV t').ownBlock = some q ∧ W.heap.size ≤ q) : BdJ W0 base vp qs ob og n own (.slice (some ⟨g, 0, none⟩) m c) (ls.set k t') (W3.setCell ⟨g, k * 3 + 2, none⟩ (bsV t')) := by
  obtain ⟨cur, hgo⟩ := own_heap h.own
  have htm := List.mem_of_getElem? hk
  have hbt := (h.tiles.each t htm).1
  have hglow := h.out_low (q := g) rfl
  have hblow : ∀ q, (bsV t).ownBlock = some q → base ≤ q ∧ q < W.heap.size := fun q hq => hbt.1.lt q hq
  have hob := lt_of_heap h.cell
  have hogl := lt_of_heap hgo
  have htile : ∃ cur, W.heap[g]? = some (.cells cur 76 (0, 0)) := by
    rcases h.tiles.own.1.2 with ⟨h1, _⟩ | ⟨g4, cap4, cur4, h1, _, hg4, _⟩
    · cases h1
    · injection h1 with h1; injection h1 with h1; injection h1 with h1;subst h1;exact ⟨cur4, hg4⟩
  obtain ⟨tcur, htg⟩ := htile
  have hne : ∀ {a : Nat} {cs : Array Value} {ty : TypeId} {fr : Nat × Nat}, W.heap[a]? = some (.cells cs ty fr) → ty ≠ 3 → (bsV t).ownBlock ≠ some a := fun ha hty => own_other hbt.1 ha hty
  have hgt : W3.heap[g]? = some (.cells tcur 76 (0, 0)) := grown_row hg htg (hne htg (by decide))
  have g2 := grown_setCell W3 g (k * 3 + 2) (bsV t')
  have hcell3 := grown_row hg h.cell (hne h.cell (by decide))
  have gne : ∀ {a : Nat} {cs : Array Value} {ty : TypeId} {fr : Nat × Nat}, W3.heap[a]? = some (.cells cs ty fr) → ty ≠ 76 → (some g : Option Nat) ≠ some a := fun ha hty e => by
    injection e with e;subst e;rw [hgt] at ha;injection ha with ha;injection ha with _ ha _;exact hty ha.symm
  have hparts3 : PartsIn W3 base vp qs := OwnR.kept h.parts hg (by
    cases e : vp.ownBlock with
    | none => exact .inl rfl
    | some q =>
      refine .inr fun e2 => ?_;rcases h.parts.1.2 with ⟨h1, _⟩ | ⟨g4, cap4, cur4, h1, _, hg4, _⟩
      · rw [h1] at e; cases e
      · rw [h1] at e;simp only [Value.ownBlock, Option.some.injEq] at e;subst e
        exact hne hg4 (by decide) e2.symm)
  have hparts4 : PartsIn (W3.setCell ⟨g, k * 3 + 2, none⟩ (bsV t')) base vp qs := OwnR.kept hparts3 g2 (.inr fun e => by
    rcases hparts3.1.2 with ⟨h1, _⟩ | ⟨g4, cap4, cur4, h1, _, hg4, _⟩
    · rw [h1] at e; cases e
    · rw [h1] at e;simp only [Value.ownBlock, Option.some.injEq] at e
      exact gne hg4 (by decide) (by rw [e]))
  have hown3 : OwnI W3 base (.slice (some ⟨og, 0, none⟩) n n) own := h.own.kept hg (.inr fun e => h.sepo t htm (by rw [← e]; rfl))
  have hogt : W3.heap[og]? = some (.cells cur 3 (0, 0)) := grown_row hg hgo (fun e => h.sepo t htm e)
  refine ⟨hparts4, grown_row g2 hcell3 (gne hcell3 (by decide)), hown3.kept g2 (.inr fun e => gne hogt (by decide) (by rw [← e]; rfl)), h.tiles.turn hk hg ho he hat, fun s hs => ?_, (h.ext.grown hg h.ext.size (fun q e => by have := (hblow q e).1; have := h.w0; omega)).setCell (by show W0.heap.size ≤ g; have := h.w0; omega) _, Nat.le_trans h.bs (Nat.le_trans hg.size (by simp)), h.w0⟩
  rcases List.mem_or_eq_of_mem_set hs with hs | hs
  · exact h.sepo s hs
  · rw [hs];rcases hat with e | ⟨q, e, hq⟩
    · rw [e]; exact h.sepo t htm
    · rw [e];intro e2;injection e2 with e2;omega
end
theorem td_app (ls : List TileR) (x : TileR) : tdOf (ls ++ [x]) = tdOf ls ++ [x.d] := by simp [tdOf]
theorem td_set (ls : List TileR) (k : Nat) (x : TileR) : tdOf (ls.set k x) = (tdOf ls).set k x.d := by simp [tdOf, List.map_set]
end

section
open Go.RowKit
attribute [local go_sem] Oper.semAt_some wide_fn wide_depth wide_fnR wide_depthR
def upS (K : Nat → Bool) (x : Nat) : Nat → Bool := fun y => decide (y < x) && K y
def orS (d K : Nat → Bool) (x : Nat) : Nat → Bool := fun y => d y || (decide (y < x) && K y)
theorem upS_zero (K : Nat → Bool) : upS K 0 = fun _ => false := by funext y; simp [upS]
theorem orS_zero (d K : Nat → Bool) : orS d K 0 = d := by funext y; simp [orS]
theorem upS_step (K : Nat → Bool) (x : Nat) {v : Bool} (hv : v = K x) : (fun y => if y = x then v else upS K x y) = upS K (x + 1) := by
  subst hv
  funext y
  simp only [upS]
  by_cases e : y = x
  · subst e; simp
  · have : decide (y < x + 1) = decide (y < x) := by rw [decide_eq_decide]; omega
    rw [if_neg e, this]
theorem orS_step (d K : Nat → Bool) (x : Nat) {v : Bool} (hv : v = (d x || K x)) : (fun y => if y = x then v else orS d K x y) = orS d K (x + 1) := by
  subst hv
  funext y
  simp only [orS]
  by_cases e : y = x
  · subst e; simp
  · have : decide (y < x + 1) = decide (y < x) := by rw [decide_eq_decide]; omega
    rw [if_neg e, this]
theorem orS_at (d K : Nat → Bool) (x : Nat) : orS d K x x = d x := by simp [orS]
theorem upS_end {K : Nat → Bool} {n : Nat} (h : ∀ y, K y = true → y < n) : upS K n = K := by
  funext y
  simp only [upS]
  cases hk : K y with
  | false => simp
  | true => simp [h y hk]
theorem orS_end {d K e : Nat → Bool} {n : Nat} (h : ∀ y, K y = true → y < n) (he : ∀ y, e y = (d y || K y)) : orS d K n = e := by
  funext y
  rw [he]
  simp only [orS]
  cases hk : K y with
  | false => simp
  | true => simp [h y hk]
structure LpJ (w : World) (fo : Obj) (inn dn : Nat → Bool) (v : Value) (M : List PartD) (W : World) : Prop where
  fn : W.heap[w.heap.size]? = some fo
  inn : W.heap[w.heap.size + 1]? = some (rsetO inn)
  done : W.heap[w.heap.size + 1 + 1]? = some (rsetO dn)
  out : PtsIn W (w.heap.size + 1 + 1 + 1) v M
  below : Below w.heap.size w W
theorem LpJ.ext {w : World} {fo : Obj} {inn dn : Nat → Bool} {v : Value} {M : List PartD} {W W' : World} (h : LpJ w fo inn dn v M W) (hb : Below W.heap.size W W') : LpJ w fo inn dn v M W' :=
  ⟨block_ext hb h.fn, block_ext hb h.inn, block_ext hb h.done, h.out.ext hb, ext_trans h.below hb⟩
theorem LpJ.mark {w : World} {fo : Obj} {inn dn dn' : Nat → Bool} {v : Value} {M : List PartD} {W : World} (h : LpJ w fo inn dn v M W) {x : Nat} (hx : x < 200) {b : Bool} (e : (fun k => if k = x then b else dn k) = dn') : LpJ w fo inn dn' v M (W.setCell ⟨w.heap.size + 1 + 1, x, none⟩ (.bool b)) := by
  have hg := grown_setCell W (w.heap.size + 1 + 1) x (.bool b)
  refine ⟨grown_row hg h.fn (by simp; omega), grown_row hg h.inn (by simp), rset_to h.done hx e, h.out.kept hg ?_, h.below.setCell (by simp; omega) _⟩
  cases hv : v.ownBlock with
  | none => exact .inl rfl
  | some k => exact .inr (by have := OwnR.low h.out hv; simp; omega)
theorem LpJ.other {w : World} {fo : Obj} {inn dn : Nat → Bool} {v : Value} {M : List PartD} {W : World} (h : LpJ w fo inn dn v M W) {S x : Nat} (hS : w.heap.size + 1 + 1 < S) (hv : ∀ k, v.ownBlock = some k → k < S) (b : Bool) : LpJ w fo inn dn v M (W.setCell ⟨S, x, none⟩ (.bool b)) := by
  have hg := grown_setCell W S x (.bool b)
  refine ⟨grown_row hg h.fn (by simp; omega), grown_row hg h.inn (by simp; omega), grown_row hg h.done (by simp; omega), h.out.kept hg ?_, h.below.setCell (by simp; omega) _⟩
  cases hb : v.ownBlock with
  | none => exact .inl rfl
  | some k => exact .inr (by have := hv k hb; simp; omega)
theorem LpJ.app {w : World} {fo : Obj} {inn dn : Nat → Bool} {v v' : Value} {M : List PartD} {m : Nat} {p : PartD} {W W' : World} (h : LpJ w fo inn dn v M W) (hm : m = M.length) (hm1 : m + 1 ≤ 1000) (ho : W'.ownsRow (w.heap.size + 1 + 1 + 1) 112 202 v' (m + 1) (M.flatMap ptC ++ ptC p)) (hg : W.grownBy W' v.ownBlock) : LpJ w fo inn dn v' (M ++ [p]) W' := by
  have key : ∀ k, v.ownBlock = some k → w.heap.size + 1 + 1 + 1 ≤ k := fun k hk => (OwnR.low h.out hk).1
  have hne : ∀ k, k < w.heap.size + 1 + 1 + 1 → v.ownBlock ≠ some k := fun k hk e => by have := key k e; omega
  have hz := lt_of_heap h.done
  refine ⟨grown_row hg h.fn (hne _ (by omega)), grown_row hg h.inn (hne _ (by omega)), grown_row hg h.done (hne _ (by omega)), ⟨?_, ?_⟩, h.below.grown hg (by omega) (fun q e => by have := key q e; omega)⟩
  · rw [List.length_append, List.flatMap_append, ← hm];simpa using ho
  · have := h.out.2;rw [List.length_append];simp;omega
theorem LpJ.appL {w : World} {fo : Obj} {inn dn : Nat → Bool} {v v' : Value} {M N : List PartD} {m k : Nat} {W W' : World} (h : LpJ w fo inn dn v M W) (hm : m = M.length) (hk : k = N.length) (hm1 : m + k ≤ 1000) (ho : W'.ownsRow (w.heap.size + 1 + 1 + 1) 112 202 v' (m + k) (M.flatMap ptC ++ N.flatMap ptC)) (hg : W.grownBy W' v.ownBlock) : LpJ w fo inn dn v' (M ++ N) W' := by
  have key : ∀ k, v.ownBlock = some k → w.heap.size + 1 + 1 + 1 ≤ k := fun k hk => (OwnR.low h.out hk).1
  have hne : ∀ k, k < w.heap.size + 1 + 1 + 1 → v.ownBlock ≠ some k := fun k hk e => by have := key k e; omega
  have hz := lt_of_heap h.done
  refine ⟨grown_row hg h.fn (hne _ (by omega)), grown_row hg h.inn (hne _ (by omega)), grown_row hg h.done (hne _ (by omega)), ⟨?_, ?_⟩, h.below.grown hg (by omega) (fun q e => by have := key q e; omega)⟩
  · rw [List.length_append, List.flatMap_append, ← hm, ← hk];exact ho
  · rw [List.length_append];omega
theorem quiet_pt {ops : Array Oper} {rest : List Oper} {o : Oper} {a : Act} {C : World → Prop} {Q : Act → Prop} (hw : Region.wanted o (yielded ops a.tmps) = true) (x y z : Operand) (s : Nat → Bool) (kd e : Int) (ho : o.op = .build 112 #[(0, x), (1, y), (2, z)])
    (hx : a.eval x = .int .i64 kd) (hy : a.eval y = .agg (setA s)) (hz : a.eval z = .int .i64 e) (h : wpQuiet Tryz.prog ops C Q rest (a.put o.dst (ptV ⟨s, kd, e⟩))) : wpQuiet Tryz.prog ops C Q (o :: rest) a :=
  BigFrame.wpQuiet_want hw fun _ hK => ⟨ptV ⟨s, kd, e⟩, fun w hC => by
    unfold Oper.quietAt execOp;simp only [ho, List.map_toArray, List.map_cons, List.map_nil, hx, hy, hz, Sem.run_bind, run_build_pt, Result.andThen_ok, Sem.run_pure]
    exact ⟨rfl, rfl⟩, hK _ h⟩
theorem loops17_any (pa : Option Addr) (pn pc : Nat) (ba : Option Addr) (bn bc : Nat) (bs : List BlkH) (hf : fitsB (tsOf bs) = true) :
    ∀ (f : Nat) (inn : Nat → Bool) (w : World), BlksOK w ba bn bs → Canon inn → (∀ y, inn y = true → y < bn) → (loopsP (tsOf bs) f inn).length ≤ 1000 → (listS inn).length < f →
    Calls Tryz.prog 72 #[funcV pa pn pc ba bn bc, .agg (setA inn)] w (PtsPost w (loopsP (tsOf bs) f inn)) := by
  intro f
  induction f with
  | zero => intro inn w _ _ _ _ h; omega
  | succ f ih =>
    intro inn w hb hc hin hlen hlt;have hg : goodB (tsOf bs) = true := (fits_facts hf).1;have hgg := (goodB_iff _).1 hg;have hbn : bn ≤ 200 := by have := hgg.1.2; rw [tsOf_len, hb.1.1] at this; exact this
    have HTL : Hid ((tsOf bs).length = bn) := by rw [Hid, tsOf_len, hb.1.1]
    have IH := Lib.hid ih;have H := Lib.hid hb;have HC := Lib.hid hc;have HIN := Lib.hid hin;have HLEN := Lib.hid hlen;have HLT := Lib.hid hlt;have HG := Lib.hid hg;have HF := Lib.hid hf;clear ih hb hc hin hlen hlt hgg hg
    go_enter Tryz.func72, Tryz.ntmps72
    go_upto_region 3 with (fail)
    obtain ⟨W, hW⟩ : ∃ W, W = ((w.alloc (funcO pa pn pc ba bn bc)).alloc (rsetO inn)).alloc (.cells Tryz.zeroCells107 107) := ⟨_, rfl⟩
    rw [← hW]
    have h0 : LpJ w (funcO pa pn pc ba bn bc) inn (donD (tsOf bs) f inn 0) (.slice none 0 0) (outD (tsOf bs) f inn 0) W :=
      ⟨by rw [hW, Below.heap_alloc _ _ _ (by simp; omega), Below.heap_alloc _ _ _ (by simp)]; exact heap_alloc_new _ _, by rw [hW, Below.heap_alloc _ _ _ (by simp), heap_at _ _ _ (by simp)],
        by rw [hW, heap_at _ _ _ (by simp), zero_rset, done_start], OwnR.nil _ _ _ _ _, by rw [hW]; exact ((ext_alloc _ _).alloc (by simp) _).alloc (by simp; omega) _⟩
    have H0 := Lib.hid h0;clear hW h0;go_wp2
    go_loopw [5, 7, 8, 9, 10, 11] (fun s5 s7 _ _ _ _ wr => ∃ b : Nat, b ≤ bn ∧ s7 = .int .i64 (b : Int) ∧ Hid (LpJ w (funcO pa pn pc ba bn bc) inn (donD (tsOf bs) f inn b) s5 (outD (tsOf bs) f inn b) wr)) (fun _ s7 _ _ _ _ _ => bn - (intOf s7).toNat)
    case atStart => exact ⟨0, by omega, rfl, H0⟩
    case round =>
      obtain ⟨b, hb, rfl, HJ⟩ := hrel;clear H0;have kf := HJ.out.fn;have k1 : wr.cell? ⟨w.heap.size, 1, none⟩ = some (.slice ba bn bc) := by rw [cell_of_row _ _ _ _ _ _ kf]; rfl
      clear kf;by_cases hlt : b < bn
      · have hlt' : (b : Int) < (bn : Int) := by omega
        have hb200 : b < 200 := by omega
        have HSK : Hid (inn b = false ∨ donD (tsOf bs) f inn b b = true ∨ walkF (nx (tsOf bs)) inn b b = false → ∀ W', Below wr.heap.size wr W' → LpJ w (funcO pa pn pc ba bn bc) inn (donD (tsOf bs) f inn (b + 1)) u5 (outD (tsOf bs) f inn (b + 1)) W') := fun h W' hW' => by
          obtain ⟨e1, e2⟩ := loop_skip HC.out h;rw [e1, e2];exact HJ.out.ext hW'
        have ci := rset_cell HJ.out.inn b hb200;have cd := rset_cell HJ.out.done b hb200;obtain ⟨ib, hib⟩ : ∃ x, x = inn b := ⟨_, rfl⟩
        rw [← hib] at ci;have HIB := Lib.hid hib;clear hib;go_upto_region 6 with (fail)
        cases ib with
        | false =>
          have HN := Lib.hid (HSK.out (.inl HIB.out.symm) wr (Below.refl _ _));go_wp2
          go_roundw
          case rel => exact ⟨b + 1, by omega, by go_num, HN⟩
          case measure => simp [intOf]; omega
        | true =>
          obtain ⟨db, hdb⟩ : ∃ x, x = donD (tsOf bs) f inn b b := ⟨_, rfl⟩
          rw [← hdb] at cd;have HDB := Lib.hid hdb;clear hdb;cases db with
          | true =>
            have HN := Lib.hid (HSK.out (.inr (.inl HDB.out.symm)) wr (Below.refl _ _));go_wp2
            go_roundw
            case rel => exact ⟨b + 1, by omega, by go_num, HN⟩
            case measure => simp [intOf]; omega
          | false =>
            obtain ⟨wb, hwb⟩ : ∃ x, x = walkF (nx (tsOf bs)) inn b b := ⟨_, rfl⟩
            have hix : ∀ w9, (Instr.index 107 (.agg (setA (walkF (nx (tsOf bs)) inn b))) (.int .i64 (b : Int))).run Tryz.prog w9 = .ok (.bool wb) w9 := fun w9 => by rw [hwb]; exact index_rset w9 _ b hb200
            have HWB := Lib.hid hwb;clear hwb
            go_upto_if 36 with (first
              | ((with_reducible show wpList _ _ _ (⟨some 29, _, _, _, _, _⟩ :: _) _ _); refine wpList_load_rowW (o := ⟨some 29, .load 25 _, _, _, _, _⟩) (by kernel_rfl) 25 _ rfl w.heap.size rfl 25 _ (0, 0) _ HJ.out.fn Tryz.underlying25 rfl size_func ?_)
              | ((with_reducible show wpList _ _ _ (⟨some 31, _, _, _, _, _⟩ :: _) _ _); refine wpList_load_rowW (o := ⟨some 31, .load 107 _, _, _, _, _⟩) (by kernel_rfl) 107 _ rfl (w.heap.size + 1) rfl 107 _ (0, 0) _ HJ.out.inn Tryz.underlying107 rfl (by rw [setA_size]; exact size_rset) ?_)
              | (go_at_call 98
                 (with_reducible refine (behind17_any pa pn pc ba bn bc bs b inn wr (H.out.ext HJ.out.below) HG.out hb200 HC.out (HIN.out b)).mono ?_)
                 rintro e w2 ⟨rfl, hb2⟩;have HB2 := Lib.hid hb2;have HJ2 := Lib.hid (HJ.out.ext hb2)
                 clear hb2))
            clear hix;cases wb with
            | false =>
              have HN := Lib.hid (HSK.out (.inr (.inr HWB.out.symm)) w2 HB2.out);go_wp2
              go_roundw
              case rel => exact ⟨b + 1, by omega, by go_num, HN⟩
              case measure => simp [intOf]; omega
            | true =>
              clear HSK ci cd k1;have hfd := loop_found HC.out HIB.out.symm HDB.out.symm HWB.out.symm;have hkt := fun x => knot_two (ts := tsOf bs) (b := b) HC.out x;have hkl : ∀ y, knotS (tsOf bs) b inn y = true → 1 ≤ y ∧ y < bn := fun y hy => by rw [← HTL.out]; exact knot_low HF.out HC.out hy
              have hkc : Canon (knotS (tsOf bs) b inn) := knot_canon HC.out b;have hkb : knotS (tsOf bs) b inn b = true := by rw [hkt b, ← HWB.out]; rfl
              obtain ⟨K, hK⟩ : ∃ K, K = knotS (tsOf bs) b inn := ⟨_, rfl⟩
              rw [← hK] at hkl hkc hkb;simp only [← hK] at hfd hkt;have HKT := Lib.hid hkt;have HKL := Lib.hid hkl;have HKC := Lib.hid hkc;have HKB := Lib.hid hkb;have HFD := Lib.hid hfd;obtain ⟨dd, hdd⟩ : ∃ d, d = donD (tsOf bs) f inn b := ⟨_, rfl⟩
              rw [← hdd] at HJ2 HJ;have HDD := Lib.hid hdd;clear hkt hkl hkc hkb hK hfd hdd;have hown : ∀ k, u5.ownBlock = some k → k < w2.heap.size := fun k hk => (OwnR.low HJ2.out.out hk).2;have hSl : w.heap.size + 1 + 1 < w2.heap.size := lt_of_heap HJ2.out.done;go_upto_region 8 with (fail)
              obtain ⟨S, hSd⟩ : ∃ S, S = w2.heap.size := ⟨_, rfl⟩
              obtain ⟨W3, hW3⟩ : ∃ W, W = w2.alloc (.cells Tryz.zeroCells107 107) := ⟨_, rfl⟩
              rw [← hW3, ← hSd];rw [← hSd] at hown hSl;have hj3 : LpJ w (funcO pa pn pc ba bn bc) inn (orS dd K 0) u5 (outD (tsOf bs) f inn b) W3 := by rw [orS_zero, hW3]; exact HJ2.out.ext (ext_alloc _ _)
              have hs3 : W3.heap[S]? = some (rsetO (upS K 0)) := by rw [hW3, hSd, heap_alloc_new, zero_rset, upS_zero]
              have HJ3 := Lib.hid hj3;have HSJ3 := Lib.hid hs3;have HOW := Lib.hid hown;clear hW3 hSd hj3 hs3 hown HJ HJ2 HB2;go_wp2
              go_loopw [9] (fun s9 wi => ∃ x : Nat, x ≤ bn ∧ s9 = .int .i64 (x : Int) ∧ Hid (LpJ w (funcO pa pn pc ba bn bc) inn (orS dd K x) u5 (outD (tsOf bs) f inn b) wi) ∧ Hid (wi.heap[S]? = some (rsetO (upS K x)))) (fun s9 _ => bn - (intOf s9).toNat)
              case atStart => exact ⟨0, by omega, rfl, HJ3, HSJ3⟩
              case round =>
                obtain ⟨x, hx, rfl, HJi, HSJi⟩ := hrel;clear HJ3 HSJ3;have kf := HJi.out.fn;have k1 : wr.cell? ⟨w.heap.size, 1, none⟩ = some (.slice ba bn bc) := by rw [cell_of_row _ _ _ _ _ _ kf]; rfl
                clear kf;by_cases hxl : x < bn
                · have hxl' : (x : Int) < (bn : Int) := by omega
                  have hx200 : x < 200 := by omega
                  go_upto_region 11 with (fail)
                  go_cut [] (fun wx => Hid (LpJ w (funcO pa pn pc ba bn bc) inn (orS dd K x) u5 (outD (tsOf bs) f inn b) wx) ∧ Hid (wx.heap[S]? = some (rsetO (upS K (x + 1)))))
                  case first =>
                    clear k1;have hkx := HKT.out x;obtain ⟨bv, hbv⟩ : ∃ z, z = walkF (nx (tsOf bs)) inn b x := ⟨_, rfl⟩
                    obtain ⟨cv, hcv⟩ : ∃ z, z = walkF (nx (tsOf bs)) inn x b := ⟨_, rfl⟩
                    rw [← hbv, ← hcv] at hkx;have hix : ∀ w9, (Instr.index 107 (.agg (setA (walkF (nx (tsOf bs)) inn b))) (.int .i64 (x : Int))).run Tryz.prog w9 = .ok (.bool bv) w9 := fun w9 => by rw [hbv]; exact index_rset w9 _ x hx200
                    have hiy : ∀ w9, (Instr.index 107 (.agg (setA (walkF (nx (tsOf bs)) inn x))) (.int .i64 (b : Int))).run Tryz.prog w9 = .ok (.bool cv) w9 := fun w9 => by rw [hcv]; exact index_rset w9 _ b hb200
                    have HKX := Lib.hid hkx;clear hbv hcv hkx;cases bv with
                    | false =>
                      go_wp2_with (first
                        | ((with_reducible show wpList _ _ _ (⟨some 45, _, _, _, _, _⟩ :: _) _ _); refine wpList_load_rowW (o := ⟨some 45, .load 25 _, _, _, _, _⟩) (by kernel_rfl) 25 _ rfl w.heap.size rfl 25 _ (0, 0) _ HJi.out.fn Tryz.underlying25 rfl size_func ?_)
                        | ((with_reducible show wpList _ _ _ (⟨some 47, _, _, _, _, _⟩ :: _) _ _); refine wpList_load_rowW (o := ⟨some 47, .load 107 _, _, _, _, _⟩) (by kernel_rfl) 107 _ rfl (w.heap.size + 1) rfl 107 _ (0, 0) _ HJi.out.inn Tryz.underlying107 rfl (by rw [setA_size]; exact size_rset) ?_)
                        | (go_at_call 98
                           (with_reducible refine (behind17_any pa pn pc ba bn bc bs b inn wr (H.out.ext HJi.out.below) HG.out hb200 HC.out (HIN.out b)).mono ?_)
                           rintro e w4 ⟨rfl, hb9⟩;have HJ4 := Lib.hid (HJi.out.ext hb9);have HSJ4 := Lib.hid (block_ext hb9 HSJi.out);clear hb9;have hcs := rset_cell HSJ4.out x hx200
                           have hfs := rset_free HSJ4.out x))
                      go_meet
                      exact ⟨HJ4.out.other hSl HOW.out false, rset_to HSJ4.out hx200 (upS_step K x (by rw [HKX.out]; rfl))⟩
                    | true =>
                      go_wp2_with (first
                        | ((with_reducible show wpList _ _ _ (⟨some 45, _, _, _, _, _⟩ :: _) _ _); refine wpList_load_rowW (o := ⟨some 45, .load 25 _, _, _, _, _⟩) (by kernel_rfl) 25 _ rfl w.heap.size rfl 25 _ (0, 0) _ HJi.out.fn Tryz.underlying25 rfl size_func ?_)
                        | ((with_reducible show wpList _ _ _ (⟨some 47, _, _, _, _, _⟩ :: _) _ _); refine wpList_load_rowW (o := ⟨some 47, .load 107 _, _, _, _, _⟩) (by kernel_rfl) 107 _ rfl (w.heap.size + 1) rfl 107 _ (0, 0) _ HJi.out.inn Tryz.underlying107 rfl (by rw [setA_size]; exact size_rset) ?_)
                        | ((with_reducible show wpList _ _ _ (⟨some 52, _, _, _, _, _⟩ :: _) _ _); refine wpList_load_rowW (o := ⟨some 52, .load 25 _, _, _, _, _⟩) (by kernel_rfl) 25 _ rfl w.heap.size rfl 25 _ (0, 0) _ HJ4.out.fn Tryz.underlying25 rfl size_func ?_)
                        | ((with_reducible show wpList _ _ _ (⟨some 54, _, _, _, _, _⟩ :: _) _ _); refine wpList_load_rowW (o := ⟨some 54, .load 107 _, _, _, _, _⟩) (by kernel_rfl) 107 _ rfl (w.heap.size + 1) rfl 107 _ (0, 0) _ HJ4.out.inn Tryz.underlying107 rfl (by rw [setA_size]; exact size_rset) ?_)
                        | (go_at_call 98
                           (with_reducible refine (behind17_any pa pn pc ba bn bc bs x inn w4 (H.out.ext HJ4.out.below) HG.out hx200 HC.out (HIN.out x)).mono ?_)
                           rintro e w5 ⟨rfl, hb9⟩;have HJ5 := Lib.hid (HJ4.out.ext hb9);have HSJ5 := Lib.hid (block_ext hb9 HSJ4.out);clear hb9;have hcs := rset_cell HSJ5.out x hx200
                           have hfs := rset_free HSJ5.out x)
                        | (go_at_call 98
                           (with_reducible refine (behind17_any pa pn pc ba bn bc bs b inn wr (H.out.ext HJi.out.below) HG.out hb200 HC.out (HIN.out b)).mono ?_)
                           rintro e w4 ⟨rfl, hb9⟩;have HJ4 := Lib.hid (HJi.out.ext hb9);have HSJ4 := Lib.hid (block_ext hb9 HSJi.out)
                           clear hb9))
                      go_meet
                      exact ⟨HJ5.out.other hSl HOW.out cv, rset_to HSJ5.out hx200 (upS_step K x (by rw [HKX.out, Bool.true_and]))⟩
                  case rest =>
                    obtain ⟨hj5, hs5⟩ := hcut;have cd := rset_cell hj5.out.done x hx200;have fd := rset_free hj5.out.done x;have cs := rset_cell hs5.out x hx200;rw [orS_at] at cd;rw [show upS K (x + 1) x = K x by simp [upS]] at cs;have hsl := lt_of_heap hj5.out.done;obtain ⟨kx, hkx⟩ : ∃ z, z = K x := ⟨_, rfl⟩
                    obtain ⟨dx, hdx⟩ : ∃ z, z = dd x := ⟨_, rfl⟩
                    rw [← hkx] at cs;rw [← hdx] at cd;have HKX := Lib.hid hkx;have HDX := Lib.hid hdx
                    have HNX : Hid (∀ v, v = (dd x || K x) → LpJ w (funcO pa pn pc ba bn bc) inn (orS dd K (x + 1)) u5 (outD (tsOf bs) f inn b) (wc.setCell ⟨w.heap.size + 1 + 1, x, none⟩ (.bool v)) ∧ (wc.setCell ⟨w.heap.size + 1 + 1, x, none⟩ (.bool v)).heap[S]? = some (rsetO (upS K (x + 1)))) := fun v hv =>
                      ⟨hj5.out.mark hx200 (orS_step dd K x hv), grown_row (grown_setCell wc (w.heap.size + 1 + 1) x (.bool v)) hs5.out (by simp; omega)⟩
                    clear hkx hdx;cases dx with
                    | true =>
                      have HN := Lib.hid (HNX.out true (by rw [← HDX.out]; rfl));go_wp2
                      go_roundw
                      case rel => exact ⟨x + 1, by omega, by go_num, HN.out.1, HN.out.2⟩
                      case measure => simp [intOf]; omega
                    | false =>
                      have HN := Lib.hid (HNX.out kx (by rw [← HDX.out, HKX.out]; rfl));go_wp2
                      go_roundw
                      case rel => exact ⟨x + 1, by omega, by go_num, HN.out.1, HN.out.2⟩
                      case measure => simp [intOf]; omega
                · obtain rfl : x = bn := by omega
                  have hj4 : LpJ w (funcO pa pn pc ba x bc) inn (donD (tsOf bs) f inn (b + 1)) u5 (outD (tsOf bs) f inn b) wr := by
                    have e : orS dd K x = donD (tsOf bs) f inn (b + 1) := orS_end (fun y hy => (HKL.out y hy).2) (fun y => by rw [HFD.out.1 y, HDD.out]);rw [← e]; exact HJi.out
                  have hs4 : wr.heap[S]? = some (rsetO K) := by rw [← upS_end (K := K) (n := x) (fun y hy => (HKL.out y hy).2)]; exact HSJi.out
                  have HJ4 := Lib.hid hj4;have HSJ4 := Lib.hid hs4;have HLN2 : Hid ((outD (tsOf bs) f inn (b + 1)).length ≤ 1000) := Nat.le_trans (out_len (f := f) (inn := inn) (by rw [HTL.out]; exact hbn) (by rw [HTL.out]; exact HIN.out) (b := b + 1) (by rw [HTL.out]; omega)) HLEN.out;have hE0 := entered HF.out HKC.out HKB.out (fun y hy => by rw [HTL.out]; exact HKL.out y hy);have HME : Hid (∀ e, e ∈ entriesS (tsOf bs) K → K e = true) := fun e he => ((mem_entries HKC.out e).1 he).1;obtain ⟨E, hE⟩ : ∃ E, E = entriesS (tsOf bs) K := ⟨_, rfl⟩
                  rw [← hE] at hE0 HME;have HEE := Lib.hid hE;have HFD2 := HFD.out.2;rw [← hE] at HFD2;have HFO := Lib.hid HFD2;clear hj4 hs4 HJi HSJi hE HFD2 HFD
                  go_upto_region 14 with (first
                    | (refine wpList_load_row (o := ⟨some 70, .load 25 _, _, _, _, _⟩) rfl 25 _ rfl w.heap.size rfl 25 _ (0, 0) _ HJ4.out.fn Tryz.underlying25 rfl size_func ?_)
                    | (refine wpList_load_row (o := ⟨some 71, .load 107 _, _, _, _, _⟩) rfl 107 _ rfl S rfl 107 _ (0, 0) _ HSJ4.out Tryz.underlying107 rfl (by rw [setA_size]; exact size_rset) ?_)
                    | (go_at_call 107
                       refine (entries17_any pa pn pc ba x bc bs K wr (H.out.ext HJ4.out.below) HG.out).mono ?_;rintro e w6 ⟨ve, rfl, hoe, hbe⟩;rw [← HEE.out] at hoe;have hel : (intsN E).length = E.length := (by simp [intsN])
                       obtain ⟨ea, ec, rfl⟩ := hoe.form;have hoe2 := hoe.ints;have HOE6 := Lib.hid hoe;rw [hel] at hoe2 ⊢;have HE6 := Lib.hid hoe2;have HJ6 := Lib.hid (HJ4.out.ext hbe);have HSJ6 := Lib.hid (block_ext hbe HSJ4.out);have HSZ6 := Lib.hid (lt_of_heap HSJ4.out)
                       clear hoe hoe2 hbe hel))
                  clear HJ4 HSJ4;have hel0 : 0 < E.length := List.length_pos_iff.2 hE0;clear hE0;by_cases h1 : 1 < E.length
                  · have h1' : ((E.length : Int) != 1) = true := by simp; omega
                    rw [if_pos h1] at HFO;have HFO1 : Hid (outD (tsOf bs) f inn (b + 1) = outD (tsOf bs) f inn b ++ [⟨K, 3, -1⟩]) := HFO.out;clear HFO;obtain ⟨va, vc, rfl⟩ := HJ6.out.out.form;obtain ⟨m, hm⟩ : ∃ m, m = (outD (tsOf bs) f inn b).length := ⟨_, rfl⟩
                    have hm1 : m + 1 ≤ 1000 := by have := HLN2.out; rw [HFO1.out] at this; simp at this; omega
                    rw [← hm] at HJ6 HOW ⊢;have hown6 := HJ6.out.out.1;rw [← hm] at hown6;have HOWN6 := Lib.hid hown6;have HMM := Lib.hid hm;have hb6 : w.heap.size + 1 + 1 + 1 ≤ w6.heap.size := lt_of_heap HJ6.out.done;clear hm hown6
                    go_wp2_with (first
                      | (refine wpList_load_row (o := ⟨some 77, .load 107 _, _, _, _, _⟩) rfl 107 _ rfl S rfl 107 _ (0, 0) _ HSJ6.out Tryz.underlying107 rfl (by rw [setA_size]; exact size_rset) ?_)
                      | (refine wpList_pt (o := ⟨some 78, .build 112 _, _, _, _, _⟩) rfl _ _ _ K 3 (-1) rfl rfl rfl rfl ?_)
                      | (refine wpList_rowPt (o := ⟨some 79, .buildSlice _ _ _, _, _, _, _⟩) rfl _ ⟨K, 3, -1⟩ rfl rfl ?_)
                      | (refine wpList_append1 (o := ⟨some 80, .call _, _, _, _, _⟩) rfl w6 (.tmp 76) (.tmp 79) 104 112 rfl (w.heap.size + 1 + 1 + 1) _ 202 216 Tryz.underlying104 infoPt (by kernel_rfl) (by omega) (.slice va m vc) m _ (ptC ⟨K, 3, -1⟩) rfl HOWN6.out w6.heap.size rfl rfl (ptC_len _) (ptC_one _) (by simp only [maxLen]; omega) (by omega) hb6 ?_
                         intro g cap w7 hown7 hg7 hat7;have HJ7 := Lib.hid (LpJ.app HJ6.out HMM.out hm1 hown7 hg7)
                         clear hown7 hg7 hat7))
                    go_roundw
                    case rel => exact ⟨b + 1, by omega, by go_num, by rw [HFO1.out]; exact HJ7⟩
                    case measure => simp [intOf]; omega
                  · have hE1 : E = [E.headD 0] := entries_one (fun e => by rw [e] at hel0; simp at hel0) h1;obtain ⟨e0, he0⟩ : ∃ e0, e0 = E.headD 0 := ⟨_, rfl⟩
                    rw [← he0] at hE1;rw [if_neg h1, ← he0] at HFO;have HFO1 : Hid (outD (tsOf bs) f inn (b + 1) = outD (tsOf bs) f inn b ++ ⟨K, 2, (e0 : Int)⟩ :: loopsP (tsOf bs) f (lessS K e0)) := HFO.out;have hKe : K e0 = true := HME.out e0 (by rw [hE1]; simp);have he200 : e0 < 200 := HKC.out e0 hKe;subst hE1;have h11 : [e0].length = 1 := rfl;have HOE := HOE6.out;rw [h11] at HE6 ⊢;obtain ⟨eb, eo, rfl, hce0, _⟩ := HE6.out.2.2 0 (by simp);have hce : w6.cell? ⟨eb, eo, none⟩ = some (.int .i64 (e0 : Int)) := hce0;obtain ⟨eg, ec', heq⟩ := own_form HOE.1 (by simp [intsN]);injection heq with heq _ _;injection heq with heq;injection heq with heq1 heq2;subst heq1 heq2;obtain ⟨ecur, heg⟩ := own_heap HOE;have hebl := (HOE.1.lt eb rfl).1;have HEG := Lib.hid heg;obtain ⟨va, vc, rfl⟩ := HJ6.out.out.form;obtain ⟨m, hm⟩ : ∃ m, m = (outD (tsOf bs) f inn b).length := ⟨_, rfl⟩
                    rw [← hm] at HJ6 HOW ⊢;have hmr : m + 1 + (loopsP (tsOf bs) f (lessS K e0)).length ≤ 1000 := by have := HLN2.out; rw [HFO1.out] at this; simp at this; omega
                    have hown6 := HJ6.out.out.1;rw [← hm] at hown6;have HOWN6 := Lib.hid hown6;have HMM := Lib.hid hm;have hb6 : w.heap.size + 1 + 1 + 1 ≤ w6.heap.size := lt_of_heap HJ6.out.done;have HNB : Hid ((Value.slice va m vc).ownBlock ≠ some eb) := fun e => by have := HOW.out eb e; have := HSZ6.out; omega
                    have HNS : Hid ((Value.slice va m vc).ownBlock ≠ some S) := fun e => by have := HOW.out S e; omega
                    have HSZ := Lib.hid (lt_of_heap HSJ6.out);clear hm hown6 HOE hce0 heg he0 h1 hel0 HFO;go_upto_region 16 with (fail)
                    have g1 : ∀ n : ClsW (fun W' => w6.grownBy W' (Value.slice va m vc).ownBlock), n.val.cell? ⟨eb, 0, none⟩ = some (.int .i64 (e0 : Int)) := fun n => by
                      have h1 := grown_row n.prop HEG.out HNB.out;rw [cell_of_row _ _ _ _ _ _ h1, ← cell_of_row _ _ _ _ _ _ HEG.out];exact hce
                    have g3 : ∀ w', (∃ n : ClsW (fun W' => w6.grownBy W' (Value.slice va m vc).ownBlock), w' = n.val) → w'.heap[S]? = some (rsetO K) := fun w' ⟨n, e⟩ => by rw [e]; exact grown_row n.prop HSJ6.out HNS.out
                    have hne : Nonempty (ClsW (fun W' => w6.grownBy W' (Value.slice va m vc).ownBlock)) := cls_ne (grown_same _ _);clear hce;refine region_mix (fun w' => ∃ n : ClsW (fun W' => w6.grownBy W' (Value.slice va m vc).ownBlock), w' = n.val) [(0, 6, some (6, true)), (7, 0, some (7, true)), (8, 1, none)] (by kernel_rfl) (by kernel_rfl) (cls_mk (grown_drew _ _)) ?_;simp only [wpMix, List.take_succ_cons, List.take_zero, List.drop_succ_cons, List.drop_zero]
                    repeat (first
                      | go_big_quiet_skip
                      | (refine wpQuiet_load_row (o := ⟨some 82, .load 107 _, _, _, _, _⟩) (by rfl) 107 _ rfl S rfl 107 (setA K) (0, 0) _ g3 Tryz.underlying107 rfl (by rw [setA_size]; exact size_rset) ?_; simp only [zJ,zG,zH,zI])
                      | (refine quiet_pt (o := ⟨some 86, .build 112 _, _, _, _, _⟩) (by rfl) _ _ _ K 2 (e0 : Int) rfl rfl rfl rfl ?_; simp only [zJ,zG,zH,zI])
                      | go_big_quiet_step (fail))
                    refine wpQuiet_nil ?_;refine wpOp_at rfl rfl ?_;refine op_rowPt _ ⟨K, 2, (e0 : Int)⟩ rfl rfl ?_;simp only [zJ,zG,zH,zI];refine ⟨cls_mk (grown_tr (grown_drew _ _) (World.grownBy_alloc _ _ _)), ?_⟩;refine wpQuiet_nil ?_;refine wpOp_at rfl rfl ?_;refine op_append1 w6.drew (.tmp 81) (.tmp 87) 104 112 rfl (w.heap.size + 1 + 1 + 1) _ 202 216 Tryz.underlying104 infoPt (by kernel_rfl) (by omega) (.slice va m vc) m _ (ptC ⟨K, 2, (e0 : Int)⟩) rfl (by have := (HJ6.out.out.ext (drew_ext w6)).1; rwa [← HMM.out] at this) w6.heap.size rfl rfl (ptC_len _) (ptC_one _) (by simp only [maxLen]; omega) (by omega) hb6 ?_;intro g cap w7 hown7 hg7 hat7;have hgg : w6.grownBy w7 (Value.slice va m vc).ownBlock := grown_tr (grown_drew _ _) hg7;have HJ7 := Lib.hid (LpJ.app HJ6.out HMM.out (by omega) hown7 hgg);have HSJ7 := Lib.hid (grown_row hgg HSJ6.out HNS.out);have HE7 : Hid (w7.cell? ⟨eb, 0, none⟩ = some (.int .i64 (e0 : Int))) := by
                      have h1 := g1 ⟨w7, hgg⟩;exact h1
                    have HS7 := Lib.hid hgg.size;have hown7' := hown7;have HOWN7 := Lib.hid hown7';have HAT7 := Lib.hid hat7;refine ⟨cls_mk hgg, ?_⟩;simp only [zJ,zG,zH,zI];clear hown7 hown7' hg7 hat7 hgg g1 g3 hne HJ6 HSJ6 HEG HOWN6 HOE6 HE6
                    repeat (go_big_quiet_step (fail))
                    refine wpQuiet_nil ?_;refine NoPanic.normal ?_;obtain ⟨v7, hv7⟩ : ∃ v, v = Value.slice (some ⟨g, 0, none⟩) (m + 1) cap := ⟨_, rfl⟩
                    have hob7 : ∀ k, v7.ownBlock = some k → k < w7.heap.size := fun k hk => by
                      rw [hv7] at hk; exact (HOWN7.out.lt k hk).2
                    have HOB7 := Lib.hid hob7;have HV7 := Lib.hid hv7;clear hv7 hob7;have hne7 := HE7.out;have hsz7 := HS7.out
                    go_upto_region 18 with (first
                      | ((with_reducible show wpList _ _ _ (⟨some 89, _, _, _, _, _⟩ :: _) _ _); refine wpList_load_row (o := ⟨some 89, .load 107 _, _, _, _, _⟩) rfl 107 _ rfl S rfl 107 _ (0, 0) _ HSJ7.out Tryz.underlying107 rfl (by rw [setA_size]; exact size_rset) ?_)
                      | ((with_reducible show wpList _ _ _ (⟨none, _, _, _, _, _⟩ :: _) _ _); refine wpList_store_row (o := ⟨none, .store 107 _ _, _, _, _, _⟩) rfl 107 _ _ rfl w7.heap.size (setA K) rfl rfl 107 _ (heap_alloc_new _ _) (by rw [setA_size]; exact size_rset) rfl (setA_all _) ?_))
                    obtain ⟨R2, hR2⟩ : ∃ R, R = w7.heap.size := ⟨_, rfl⟩
                    obtain ⟨W8, hW8⟩ : ∃ W, W = (w7.alloc (.cells Tryz.zeroCells107 107)).setRow w7.heap.size (setA K) := ⟨_, rfl⟩
                    rw [← hW8, ← hR2, put_none];have hr8 : W8.heap[R2]? = some (rsetO K) := by rw [hW8, hR2]; exact setRow_heap _ _ _ _ _ _ (heap_alloc_new _ _)
                    have hb8 : Below w7.heap.size w7 W8 := by rw [hW8]; exact below_setRow (ext_alloc _ _) (Nat.le_refl _) _
                    have he8 := cell_ext hb8 hne7;have hcR := rset_cell hr8 e0 he200;have hfR := rset_free hr8 e0;have hlR := lt_of_heap hr8;have HR8 := Lib.hid hr8;have HB8 := Lib.hid hb8;have HR2 := Lib.hid hR2;rw [hKe] at hcR;clear hW8 hR2 hr8 hb8 hne7 hsz7 HSJ7;go_upto_region 19 with (fail)
                    obtain ⟨W9, hW9⟩ : ∃ W, W = W8.setCell ⟨R2, e0, none⟩ (.bool false) := ⟨_, rfl⟩
                    rw [← hW9];have hr9 : W9.heap[R2]? = some (rsetO (lessS K e0)) := by rw [hW9]; exact rset_to HR8.out he200 (by funext k; simp only [lessS]; by_cases e : k = e0 <;> simp [e])
                    have hb9 : Below w7.heap.size w7 W9 := by rw [hW9]; exact HB8.out.setCell (by show w7.heap.size ≤ R2; rw [HR2.out]; exact Nat.le_refl _) _
                    have HR9 := Lib.hid hr9;have HB9 := Lib.hid hb9;have HJ9 := Lib.hid (HJ7.out.ext hb9);have hlt9 : (listS (lessS K e0)).length < f := by
                      have h1 := less_len (s := K) (inn := inn) (fun y hy => by rw [HKT.out y, Bool.and_eq_true] at hy; exact ((walkF_iff HC.out b y).1 hy.1).2.inn) HC.out hKe;have := HLT.out;omega
                    have HLT9 := Lib.hid hlt9;have HLC9 : Hid (Canon (lessS K e0)) := less_canon HKC.out e0;have HLL9 : Hid (∀ y, lessS K e0 y = true → y < x) := fun y hy => (HKL.out y (mem_less.1 hy).2).2;clear hW9 hr9 hb9 hlt9 hcR hfR hlR he8 HR8 HB8 HR2;obtain ⟨N, hN⟩ : ∃ N, N = loopsP (tsOf bs) f (lessS K e0) := ⟨_, rfl⟩
                    rw [← hN] at hmr;have HNN := Lib.hid hN;clear hN
                    go_wp2_with (first
                      | ((with_reducible show wpList _ _ _ (⟨some 95, _, _, _, _, _⟩ :: _) _ _); refine wpList_load_row (o := ⟨some 95, .load 25 _, _, _, _, _⟩) rfl 25 _ rfl w.heap.size rfl 25 _ (0, 0) _ HJ9.out.fn Tryz.underlying25 rfl size_func ?_)
                      | ((with_reducible show wpList _ _ _ (⟨some 96, _, _, _, _, _⟩ :: _) _ _); refine wpList_load_row (o := ⟨some 96, .load 107 _, _, _, _, _⟩) rfl 107 _ rfl R2 rfl 107 _ (0, 0) _ HR9.out Tryz.underlying107 rfl (by rw [setA_size]; exact size_rset) ?_)
                      | (go_at_call 72
                         refine (IH.out (lessS K e0) W9 (H.out.ext HJ9.out.below) HLC9.out HLL9.out (by rw [← HNN.out]; omega) HLT9.out).mono ?_;rintro e w10 ⟨v10, rfl, hp10, hb10⟩;rw [← HNN.out] at hp10;obtain ⟨na, nc, rfl⟩ := hp10.form;obtain ⟨nl, hnl⟩ : ∃ k, k = N.length := ⟨_, rfl⟩
                         rw [← hnl] at hp10 hmr ⊢;have HNL := Lib.hid hnl;have HP10 := Lib.hid hp10;have HJ10 := Lib.hid (HJ9.out.ext hb10);have hb10' : w.heap.size + 1 + 1 + 1 ≤ w10.heap.size := lt_of_heap HJ10.out.done
                         clear hp10 hb10 hnl)
                      | ((with_reducible show wpList _ _ _ (⟨some 98, _, _, _, _, _⟩ :: _) _ _); refine wpList_appendR (o := ⟨some 98, .call _, _, _, _, _⟩) w10 rfl (.tmp 94) (.tmp 97) 104 112 rfl (w.heap.size + 1 + 1 + 1) _ 202 216 Tryz.underlying104 infoPt (by kernel_rfl) (by omega) (.slice (some ⟨g, 0, none⟩) (m + 1) cap) (m + 1) _ rfl (by have := HJ10.out.out.1; rw [List.length_append, ← HMM.out] at this; exact this) na nl nc rfl (N.flatMap ptC) (by rw [HNL.out]; exact flatMap_len ptC 202 ptC_len N) (Recs.news (OwnR.recs ptC_len HP10.out) ptC_len (by omega)) (fun u hu => by obtain ⟨p, _, hp⟩ := List.mem_flatMap.1 hu; exact ptC_one p u hp) (by simp only [maxLen]; omega) (by omega) hb10' ?_
                         intro v' w11 hown11 hg11 hat11;have HJ11 := Lib.hid (LpJ.appL HJ10.out (by rw [List.length_append, HMM.out]; rfl) HNL.out (by omega) hown11 hg11)
                         clear hown11 hg11 hat11))
                    go_roundw
                    case rel => exact ⟨b + 1, by omega, by go_num, by rw [HFO1.out, show (⟨K, 2, (e0 : Int)⟩ : PartD) :: loopsP (tsOf bs) f (lessS K e0) = [⟨K, 2, (e0 : Int)⟩] ++ N by rw [HNN.out]; rfl, ← List.append_assoc]; exact HJ11⟩
                    case measure => simp [intOf]; omega
      · obtain rfl : b = bn := by omega
        have HE : Hid (outD (tsOf bs) f inn b = loopsP (tsOf bs) (f + 1) inn) := by rw [Hid, ← HTL.out]; exact out_end (by rw [HTL.out]; exact hbn) (by rw [HTL.out]; exact HIN.out)
        obtain ⟨va, vc, rfl⟩ := HJ.out.out.form;go_wp2
        go_ret
        exact ⟨_, rfl, by rw [← HE.out]; exact HJ.out.out.mono (by omega), HJ.out.below⟩
end

section
open Go.RowKit Go.Shelf
attribute [local go_sem] Oper.semAt_some wide_fn wide_depth wide_fnR wide_depthR
def stP (ts : List TermD) (f : Nat) (inn : Nat → Bool) (dn : List Nat) : (Nat → Bool) × List PartD := dn.foldl (stepP ts (loopsP ts f) inn) (inn, [])
theorem stP_snoc (ts : List TermD) (f : Nat) (inn : Nat → Bool) (dn : List Nat) (x : Nat) : stP ts f inn (dn ++ [x]) = stepP ts (loopsP ts f) inn (stP ts f inn dn) x := by rw [stP, List.foldl_append]; rfl
theorem step_pre (ts : List TermD) (rec : (Nat → Bool) → List PartD) (inn : Nat → Bool) (st : (Nat → Bool) × List PartD) (x : Nat) : st.2.length ≤ (stepP ts rec inn st x).2.length := by
  unfold stepP
  split
  · split <;> simp
  · exact Nat.le_refl _
theorem stP_len (ts : List TermD) (f : Nat) (inn : Nat → Bool) : ∀ (r dn : List Nat), (stP ts f inn dn).2.length ≤ (stP ts f inn (dn ++ r)).2.length
  | [], dn => by simp
  | x :: r, dn => by
    rw [show dn ++ x :: r = (dn ++ [x]) ++ r by simp];refine Nat.le_trans ?_ (stP_len ts f inn r (dn ++ [x]));rw [stP_snoc];exact step_pre _ _ _ _ _
def offL (f : Nat → Bool) (dn : List Nat) : Nat → Bool := fun y => if dn.contains y then false else f y
theorem offL_nil (f : Nat → Bool) : offL f [] = f := by funext y; simp [offL]
theorem offL_snoc (f : Nat → Bool) (dn : List Nat) (x : Nat) : (fun k => if k = x then false else offL f dn k) = offL f (dn ++ [x]) := by
  funext k
  simp only [offL, List.contains_eq_mem, List.mem_append, List.mem_singleton]
  by_cases e : k = x <;> simp [e]
theorem offL_end (f : Nat → Bool) {s : Nat → Bool} (hc : Canon s) : offL f (listS s) = diffS f s := by
  funext k
  simp only [offL, diffS, List.contains_eq_mem, mem_listS hc]
  cases s k <;> simp
structure LoF (W0 : World) (P : Nat) (v0 : Value) (w : World) : Prop where
  h0 : W0.heap.size ≤ w.heap.size
  hP : P < w.heap.size
  hv : ∀ q, v0.ownBlock = some q → q < w.heap.size
def LoJ (W0 : World) (d : WalkD) (P base : Nat) (v0 : Value) (L : List PartD) (w : World) (inn : Nat → Bool) (st : (Nat → Bool) × List PartD) (W : World) : Prop :=
  ∃ v, BldJ W0 d P base v (L ++ st.2) W ∧ W.heap[w.heap.size]? = some (.cells #[.pointer (some ⟨P, 0, none⟩)] 119 (0, 0)) ∧ W.heap[w.heap.size + 1]? = some (setO inn) ∧ W.heap[w.heap.size + 1 + 1]? = some (setO st.1) ∧
    W.heap[w.heap.size + 1 + 1 + 1]? = some (.cells #[.pointer (some ⟨w.heap.size + 1, 0, none⟩)] 189 (0, 0)) ∧ Chg (SP P v0) w W ∧ ∀ q, v.ownBlock = some q → v0.ownBlock = some q ∨ w.heap.size + 1 + 1 + 1 < q
section
variable {W0 : World} {d : WalkD} {P base : Nat} {v0 : Value} {L : List PartD} {w : World} {inn : Nat → Bool} {st : (Nat → Bool) × List PartD} {D : Nat} {W W' : World}
theorem LoJ.steady (hD : w.heap.size ≤ D) (h0 : W0.heap.size ≤ w.heap.size) : Steady D (LoJ W0 d P base v0 L w inn st) := by
  unfold LoJ
  exact Steady.ex fun v => (BldJ.steady (by omega)).and ((Steady.block _ _ rfl).and ((Steady.block _ _ rfl).and ((Steady.block _ _ rfl).and ((Steady.block _ _ rfl).and ((Steady.chg hD).and (Steady.pure _ _))))))
theorem LoJ.off (hF : LoF W0 P v0 w) (h : LoJ W0 d P base v0 L w inn st W) {y : Nat} (hy : y < 200) : LoJ W0 d P base v0 L w inn ((fun k => if k = y then false else st.1 k), st.2) (W.setCell ⟨w.heap.size + 1 + 1, y, none⟩ (.bool false)) := by
  obtain ⟨v, j0, j1, j2, j3, j4, jc, jv⟩ := h
  obtain ⟨f0, f1, f2⟩ := hF
  have g := grown_setCell W (w.heap.size + 1 + 1) y (.bool false)
  refine ⟨v, j0.grown g fun q e => ?_, grown_row g j1 fun e => ?_, grown_row g j2 fun e => ?_, set_put j3 y hy false, grown_row g j4 fun e => ?_, jc.setCell (.inr (by show w.heap.size ≤ w.heap.size + 1 + 1; omega)) _, jv⟩
  · injection e with e;refine ⟨by omega, by omega, fun e2 => ?_⟩;rcases jv q e2 with h | h
    · have := f2 q h; omega
    · omega
  all_goals (injection e with e; omega)
theorem LoJ.app (hF : LoF W0 P v0 w) {v : Value} {M : List PartD} {v' : Value} {W3 : World} (j0 : BldJ W0 d P base v (L ++ st.2) W) (h : LoJ W0 d P base v0 L w inn st W) (hv : ∀ q, v.ownBlock = some q → v0.ownBlock = some q ∨ w.heap.size + 1 + 1 + 1 < q) (j0' : BldJ W0 d P base v' (L ++ st.2 ++ M) W3) (hc : Chg (SP P v) W W3)
    (hat : ∀ q, v'.ownBlock = some q → v.ownBlock = some q ∨ W.heap.size ≤ q) : LoJ W0 d P base v0 L w inn (st.1, st.2 ++ M) W3 := by
  obtain ⟨v1, k0, j1, j2, j3, j4, jc, jv⟩ := h
  obtain ⟨f0, f1, f2⟩ := hF
  have key : ∀ {k : Nat} {o : Obj}, W.heap[k]? = some o → (k = w.heap.size ∨ k = w.heap.size + 1 ∨ k = w.heap.size + 1 + 1 ∨ k = w.heap.size + 1 + 1 + 1) → W3.heap[k]? = some o := fun {k o} hk he => by
    refine hc.row hk fun hs => ?_;rcases hs with hs | hs
    · omega
    · rcases hv k hs with h | h
      · have := f2 k h; omega
      · omega
  have hlt := lt_of_heap j4
  refine ⟨v', by rw [← List.append_assoc]; exact j0', key j1 (by omega), key j2 (by omega), key j3 (by omega), key j4 (by omega), jc.then hc fun q hq => ?_, fun q hq => ?_⟩
  · rcases hq with rfl | hq
    · exact .inl (.inl rfl)
    · rcases hv q hq with h | h
      · exact .inl (.inr h)
      · exact .inr (by omega)
  · rcases hat q hq with h | h
    · exact hv q h
    · exact .inr (by omega)
end
theorem loops_any (W0 : World) (d : WalkD) (ts : List TermD) (hok : WalkOK W0 d ts) (hf : fitsB ts = true) (P base : Nat) :
    ∀ (f : Nat) (inn : Nat → Bool) (v : Value) (L : List PartD) (w : World), Canon inn → (∀ y, inn y = true → y < ts.length) → L.length + (loopsP ts f inn).length ≤ 1000 → (listS inn).length < f → BldJ W0 d P base v L w →
    Calls Tryz.prog 79 #[.pointer (some ⟨P, 0, none⟩), .agg (setA inn)] w (BldPost W0 d P base v w (L ++ loopsP ts f inn)) := by
  intro f
  induction f with
  | zero => intro inn v L w _ _ _ h; omega
  | succ f ih =>
    intro inn v L w hc hin hlen hlt h;have IH := Lib.hid ih;have HC := Lib.hid hc;have HIN := Lib.hid hin;have HLEN := Lib.hid hlen;have HLT := Lib.hid hlt;have HJ0 := Lib.hid h;have HF := Lib.hid hf;have HOK := Lib.hid hok;have hbn : ts.length = d.bn := hok.1;have hw0 : W0.heap.size ≤ w.heap.size := h.ext.size;have hPw : P < w.heap.size := lt_of_heap h.bld;have HLF : LoF W0 P v w := ⟨hw0, hPw, fun q hq => (h.own hq).2⟩
    have HBN := Lib.hid hbn;clear hc hin hlen hlt h ih hok hf hbn;refine (callsIn_wide (n := 0)).1 ?_;refine callsIn_of_wp_marks Tryz.func79 rfl trivial ?_;simp only [Tryz.ntmps79, List.size_toArray, List.length_cons, List.length_nil, Nat.reduceAdd, Nat.reduceSub, Array.replicate_succ, Array.replicate_zero, List.push_toArray, List.append_toArray, List.nil_append, List.cons_append];have hi1 : ((w.alloc (.cells #[.pointer (some ⟨P, 0, none⟩)] 119)).alloc (setO inn)).heap[w.heap.size + 1]? = some (setO inn) := heap_at _ _ _ (by simp)
    gi_wp2_with (first
      | (refine opIn_load_row 124 _ rfl (w.heap.size + 1) rfl 124 (setA inn) (0, 0) _ hi1 Tryz.underlying124 rfl (by rw [setA_size]; exact size_set) ?_)
      | (refine opIn_store_row 124 _ _ rfl (w.heap.size + 1 + 1) (setA inn) rfl rfl 124 Tryz.zeroCells124 (heap_at _ _ _ (by simp)) (by rw [setA_size]; exact size_set) (by rw [setA_size]; kernel_rfl) (setA_all _) ?_)
      | (gi_at_call 88; refine (callsIn_wide.2 (each_any _ _)).mono ?_; rintro e w' ⟨rfl, rfl⟩))
    clear hi1;obtain ⟨W1, hW1⟩ : ∃ W1, W1 = ((((w.alloc (.cells #[.pointer (some ⟨P, 0, none⟩)] 119)).alloc (setO inn)).alloc (.cells Tryz.zeroCells124 124)).setRow (w.heap.size + 1 + 1) (setA inn)).alloc (.cells #[.pointer (some ⟨w.heap.size + 1, 0, none⟩)] 189) := ⟨_, rfl⟩
    rw [← hW1];have hb1 : Below w.heap.size w W1 := by rw [hW1]; exact (below_setRow ((((Below.refl _ w).alloc (Nat.le_refl _) _).alloc (by simp) _).alloc (by simp; omega) _) (by omega) _).alloc (by simp; omega) _
    have hsz1 : W1.heap.size = w.heap.size + 1 + 1 + 1 + 1 := by rw [hW1]; simp
    have HST : Hid (LoJ W0 d P base v L w inn (stP ts f inn []) W1) := by
      have e : stP ts f inn [] = (inn, []) := rfl;rw [Hid, e];refine ⟨v, by rw [List.append_nil]; exact HJ0.out.ext' hb1, ?_, ?_, ?_, ?_, (Chg.refl _ _).of_ext hb1, fun q hq => .inl hq⟩
      · rw [hW1, Below.heap_alloc _ _ _ (by simp; omega), setRow_other _ _ _ _ (by omega), Below.heap_alloc _ _ _ (by simp; omega), Below.heap_alloc _ _ _ (by simp)]; exact heap_alloc_new _ _
      · rw [hW1, Below.heap_alloc _ _ _ (by simp), setRow_other _ _ _ _ (by omega), Below.heap_alloc _ _ _ (by simp)]; exact heap_at _ _ _ (by simp)
      · rw [hW1, Below.heap_alloc _ _ _ (by simp)]; exact setRow_heap _ _ _ _ _ _ (heap_at _ _ _ (by simp))
      · rw [hW1]; exact heap_at _ _ _ (by simp)
    clear hW1
    refine range_listN (ps := #[11]) (gf := 139) (lb := #[.pointer (some ⟨w.heap.size + 1 + 1 + 1, 0, none⟩)]) (enc := encN) (l := listS inn) rfl enter_each _ (each_iterI inn (w.heap.size + 1 + 1 + 1) (w.heap.size + 1)) (fun _ => rfl)
      (fun dn r W => Hid (LoJ W0 d P base v L w inn (stP ts f inn dn) W)) (fun _ _ => False) (fun dn r => LoJ.steady (by omega) hw0) (fun c => Steady.pure _ _)
      (fun dn r W h => by obtain ⟨v1, _, _, h2, _, h4, _⟩ := h.out; exact ⟨by rw [cell_of_row _ _ _ _ _ _ h4]; rfl, h2⟩) HST ?round ?done ?stop
    case round =>
      rintro lp dn x r W hd hJ;unfold encN
      gi_wp2
      refine ⟨Keep.refl _, hJ, ?_⟩;clear hJ lp W;rintro lp W hlp ⟨rc, hrc⟩ hJ;have hxin : inn x = true := (mem_listS HC.out x).1 (by rw [hd]; simp);have hxl : x < 200 := HC.out x hxin;have hxb : inn x = true → x < d.bn := fun h => by rw [← HBN.out]; exact HIN.out x h
      have HXIN := Lib.hid hxin;have HD := Lib.hid hd;have HRC := Lib.hid hrc;obtain ⟨v1, j0, j1, j2, j3, j4, jc, jv⟩ := hJ.out;have J0 := Lib.hid j0.bld;have J1 := Lib.hid j1;have J2 := Lib.hid j2;have JB := Lib.hid j0.ext;have hWs : w.heap.size + 1 + 1 + 1 < W.heap.size := lt_of_heap j4;clear hd hrc j0 j1 j2 j3 j4 jc jv hxin
      gi_wp2
      refine round_free 8 [some 12, some 13, some 14, some 15, some 16, some 17, some 18, some 6] (by kernel_rfl) (by kernel_rfl) (by repeat (first | exact noOut_round | refine noOut_then ?_ | refine noOut_block ?_)) (by kernel_rfl) (specB [.val (.pointer (some ⟨P, 0, none⟩)), .val (.pointer (some ⟨P, 0, none⟩)), .val (.pointer (some ⟨P, 0, none⟩)), .val (walkV d), .val (.int .i64 (x : Int)), .val (.agg (setA inn)), .val (.agg (setA (knotS ts x inn))), .new (setO fun _ => false)]) (specB_mono ?_) ?_ ?_
      · intro k hk;simp only [List.mem_cons, List.not_mem_nil, or_false] at hk;rcases hk with rfl | rfl | rfl | rfl | rfl | rfl | rfl | rfl
        · exact trivial
        · exact trivial
        · exact trivial
        · exact trivial
        · exact trivial
        · exact trivial
        · exact trivial
        · exact trivial
      · intro i hi ν lo hi' w1 K hB hD hK;have hcase : i = 0 ∨ i = 1 ∨ i = 2 ∨ i = 3 ∨ i = 4 ∨ i = 5 ∨ i = 6 ∨ i = 7 := by omega
        clear hi;rcases hcase with rfl | rfl | rfl | rfl | rfl | rfl | rfl | rfl
        · clear hD;refine wpOp_atK rfl rfl ?_;simp only [zA,zB,zC,zD,zE,zF,zJ,zK,zG,zH,zI] at hK ⊢;have q1 := cell_ext hB (show W.cell? ⟨w.heap.size, 0, none⟩ = some (.pointer (some ⟨P, 0, none⟩)) by rw [cell_of_row _ _ _ _ _ _ J1.out]; rfl);go_simp;exact hK _ _ (Below.refl _ _) rfl
        · have e0 := hD 0 (by kernel_rfl)
          replace e0 : ν 0 = (.pointer (some ⟨P, 0, none⟩)) := e0
          clear hD;refine wpOp_atK rfl rfl ?_;simp only [zA,zB,zC,zD,zE,zF,zJ,zK,zG,zH,zI, e0] at hK ⊢;go_simp;exact hK _ _ (Below.refl _ _) rfl
        · have e1 := hD 1 (by kernel_rfl)
          replace e1 : ν 1 = (.pointer (some ⟨P, 0, none⟩)) := e1
          clear hD;refine wpOp_atK rfl rfl ?_;simp only [zA,zB,zC,zD,zE,zF,zJ,zK,zG,zH,zI, e1] at hK ⊢;go_simp;exact hK _ _ (Below.refl _ _) rfl
        · have e2 := hD 2 (by kernel_rfl)
          replace e2 : ν 2 = (.pointer (some ⟨P, 0, none⟩)) := e2
          clear hD;refine wpOp_atK rfl rfl ?_;simp only [zA,zB,zC,zD,zE,zF,zJ,zK,zG,zH,zI, e2] at hK ⊢;refine wp_load_mid 116 _ rfl P 0 rfl _ _ (bld_walk (block_ext hB J0.out)) Tryz.underlying116 rfl size_walk ?_;exact hK _ _ (Below.refl _ _) rfl
        · clear hD;refine wpOp_atK rfl rfl ?_;simp only [zA,zB,zC,zD,zE,zF,zJ,zK,zG,zH,zI] at hK ⊢;go_simp;exact hK _ _ (Below.refl _ _) rfl
        · clear hD;refine wpOp_atK rfl rfl ?_;simp only [zA,zB,zC,zD,zE,zF,zJ,zK,zG,zH,zI] at hK ⊢;refine wp_load_row 124 _ rfl (w.heap.size + 1) rfl 124 _ (0, 0) _ (block_ext hB J2.out) Tryz.underlying124 rfl (by rw [setA_size]; exact size_set) ?_;exact hK _ _ (Below.refl _ _) rfl
        · have e3 := hD 3 (by kernel_rfl)
          replace e3 : ν 3 = (walkV d) := e3
          have e4 := hD 4 (by kernel_rfl)
          replace e4 : ν 4 = (.int .i64 (x : Int)) := e4
          have e5 := hD 5 (by kernel_rfl)
          replace e5 : ν 5 = (.agg (setA inn)) := e5
          clear hD;refine wpOp_atK rfl rfl ?_;simp only [zA,zB,zC,zD,zE,zF,zJ,zK,zG,zH,zI, e3, e4, e5] at hK ⊢;go_simp;refine (knot_any d ts x inn w1 hxl (HOK.out.ext (ext_trans JB.out hB)) (fits_facts HF.out).1 HC.out hxb).mono ?_;rintro e w3 ⟨rfl, hb3⟩;exact hK _ _ hb3 rfl
        · clear hD;refine wpOp_atK rfl rfl ?_;simp only [zA,zB,zC,zD,zE,zF,zJ,zK,zG,zH,zI] at hK ⊢;go_simp;refine hK _ _ (ext_alloc _ _) ⟨rfl, by simp, ?_⟩;rw [heap_alloc_new, zero_set]
      · intro ν lo hi w1 hB hS hI hD;have e0 : ν 0 = (.pointer (some ⟨P, 0, none⟩)) := hS 0 (by omega);have e1 : ν 1 = (.pointer (some ⟨P, 0, none⟩)) := hS 1 (by omega);have e2 : ν 2 = (.pointer (some ⟨P, 0, none⟩)) := hS 2 (by omega);have e3 : ν 3 = (walkV d) := hS 3 (by omega);have e4 : ν 4 = (.int .i64 (x : Int)) := hS 4 (by omega);have e5 : ν 5 = (.agg (setA inn)) := hS 5 (by omega);have e6 : ν 6 = (.agg (setA (knotS ts x inn))) := hS 6 (by omega);obtain ⟨e7, l7, h7⟩ := hS 7 (by omega);clear hS;simp only [List.drop_succ_cons, List.drop_zero, zA,zB,zC,zD,zE,zF,zJ,zK,zG,zH,zI, e0, e1, e2, e3, e4, e5, e6, e7];obtain ⟨K, hKK⟩ : ∃ K, K = knotS ts x inn := ⟨_, rfl⟩
        rw [← hKK];have i7 := hI 7 (by omega);generalize lo 7 = S7 at *;have hS7 := i7.1;have hw2 := below_setRow (g := S7) hB hS7 (setA K);have hs2 := setRow_heap w1 S7 _ (setA K) _ _ h7;refine wpList_store_row (o := ⟨none, .store 124 _ _, _, _, _, _⟩) rfl 124 _ _ rfl S7 (setA K) rfl rfl 124 _ h7 (by rw [setA_size]; exact size_set) rfl (setA_all _) ?_;have HJ2 := Lib.hid ((LoJ.steady (Nat.le_refl _) hw0).ext hJ.out hw2);have HK2 := Lib.hid (Keep.ext hw2);have hrc2 := block_ext hw2 HRC.out;have hS7b : S7 < w1.heap.size := lt_of_heap h7;have hsz2 : (w1.setRow S7 (setA K)).heap.size = w1.heap.size := by simp
        generalize w1.setRow S7 (setA K) = w2 at *;have HS2 := Lib.hid hs2;have HRC2 := Lib.hid hrc2;have HKK := Lib.hid hKK;have hsS : W.heap.size ≤ S7 := hS7;rw [← hsz2] at hS7b;clear hI hD hB e0 e1 e2 e3 e4 e5 e6 e7 l7 h7 i7 hw2 hs2 hrc2 hsz2 hKK hJ HRC hS7;go_wp2;obtain ⟨v2, j0, j1, j2, j3, j4, jc, jv⟩ := HJ2.out;obtain ⟨lb, hlb⟩ : ∃ b, b = (stP ts f inn dn).1 x := ⟨_, rfl⟩
        obtain ⟨kb, hkb⟩ : ∃ b, b = K x := ⟨_, rfl⟩
        have c1 := set_cell j3 x hxl;have c2 := set_cell HS2.out x hxl;rw [← hlb] at c1;rw [← hkb] at c2;have HLB := Lib.hid hlb;have HKB := Lib.hid hkb;clear hlb hkb j0 j1 j2 j3 j4 jc jv;cases lb with
        | false =>
          have HE : Hid (stP ts f inn (dn ++ [x]) = stP ts f inn dn) := by rw [Hid, stP_snoc, stepP, ← HLB.out, Bool.false_and]; rfl
          gi_wp2
          exact ⟨HK2.out, by rw [HE.out]; exact HJ2⟩
        | true =>
          cases kb with
          | false =>
            have HE : Hid (stP ts f inn (dn ++ [x]) = stP ts f inn dn) := by rw [Hid, stP_snoc, stepP, ← HKK.out, ← HKB.out, Bool.and_false]; rfl
            gi_wp2
            exact ⟨HK2.out, by rw [HE.out]; exact HJ2⟩
          | true =>
            have HCK : Hid (Canon K) := by rw [Hid, HKK.out]; exact knot_canon HC.out x
            gi_wp2_with (gi_at_call 88; refine (CallsIn.inRound _ (callsIn_wide.2 (each_any _ _))).mono ?_; rintro e w' ⟨rfl, rfl⟩)
            clear c1 c2;obtain ⟨w3, hw3⟩ : ∃ w3, w3 = w2.alloc (.cells #[.pointer (some ⟨S7, 0, none⟩)] 189) := ⟨_, rfl⟩
            rw [← hw3];have hb3 : Below w2.heap.size w2 w3 := by rw [hw3]; exact ext_alloc _ _
            have hg3 : w3.heap[w2.heap.size]? = some (.cells #[.pointer (some ⟨S7, 0, none⟩)] 189 (0, 0)) := by rw [hw3]; exact heap_alloc_new _ _
            have hrc3 := block_ext hb3 HRC2.out;have hsz3 : w3.heap.size = w2.heap.size + 1 := by rw [hw3]; simp
            have HST3 : Hid (LoJ W0 d P base v L w inn (offL (stP ts f inn dn).1 [], (stP ts f inn dn).2) w3 ∧ w3.heap[S7]? = some (setO K) ∧ w3.heap[w2.heap.size]? = some (.cells #[.pointer (some ⟨S7, 0, none⟩)] 189 (0, 0)) ∧ Keep W w3) :=
              ⟨by rw [offL_nil]; exact (LoJ.steady (Nat.le_refl _) hw0).ext HJ2.out hb3, block_ext hb3 HS2.out, hg3, HK2.out.trans (Keep.ext hb3)⟩
            clear hw3 hb3 hg3 HJ2 HK2 HRC2 HS2
            refine range_listI (ps := #[30]) (gf := 139) (lb := #[.pointer (some ⟨w2.heap.size, 0, none⟩)]) (enc := encN) (l := listS K) hrc3 rfl enter_each _ (each_iterI K w2.heap.size S7) (fun _ => rfl)
              (fun dn2 r2 Wi => Hid (LoJ W0 d P base v L w inn (offL (stP ts f inn dn).1 dn2, (stP ts f inn dn).2) Wi ∧ Wi.heap[S7]? = some (setO K) ∧ Wi.heap[w2.heap.size]? = some (.cells #[.pointer (some ⟨S7, 0, none⟩)] 189 (0, 0)) ∧ Keep W Wi)) (fun _ _ => False)
              (fun dn2 r2 => (LoJ.steady (by omega) hw0).and ((Steady.block _ _ rfl).and ((Steady.block _ _ rfl).and (Steady.keep _ _ (by omega))))) (fun c => Steady.pure _ _)
              (fun dn2 r2 Wi h => ⟨by rw [cell_of_row _ _ _ _ _ _ h.out.2.2.1]; rfl, h.out.2.1⟩) HST3 ?round2 ?done2 ?stop2
            case round2 =>
              rintro lp2 dn2 y r2 Wi hd2 hJi;unfold encN
              gi_wp2
              refine ⟨Keep.refl _, hJi, ?_⟩;clear hJi lp2 Wi;rintro lp2 Wi _ _ hJi;have hyl : y < 200 := listS_lt K y (by rw [hd2]; simp);have HN : Hid (LoJ W0 d P base v L w inn (offL (stP ts f inn dn).1 (dn2 ++ [y]), (stP ts f inn dn).2) (Wi.setCell ⟨w.heap.size + 1 + 1, y, none⟩ (.bool false)) ∧ (Wi.setCell ⟨w.heap.size + 1 + 1, y, none⟩ (.bool false)).heap[S7]? = some (setO K) ∧ (Wi.setCell ⟨w.heap.size + 1 + 1, y, none⟩ (.bool false)).heap[w2.heap.size]? = some (.cells #[.pointer (some ⟨S7, 0, none⟩)] 189 (0, 0)) ∧ Keep W (Wi.setCell ⟨w.heap.size + 1 + 1, y, none⟩ (.bool false))) := by
                obtain ⟨i0, i1, i2, i3⟩ := hJi.out;have g := grown_setCell Wi (w.heap.size + 1 + 1) y (.bool false);refine ⟨?_, grown_row g i1 fun e => by injection e with e; omega, grown_row g i2 fun e => by injection e with e; omega, i3.trans (Keep.setCell _ _ _)⟩;rw [← offL_snoc];exact i0.off HLF hyl
              obtain ⟨i0, i1, i2, i3⟩ := hJi.out;obtain ⟨vi, k0, k1, k2, k3, k4, kc, kv⟩ := i0;have hc := set_cell k3 y hyl;have hf := set_free k3 y;have hl := lt_of_heap k3;clear i1 i2 i3 k0 k1 k2 k3 k4 kc kv hJi hd2
              gi_wp2
              exact ⟨Keep.setCell _ _ _, HN⟩
            case stop2 => rintro c Wx h; exact h.elim
            case done2 =>
              rintro Wd hJd;obtain ⟨i0, i1, i2, i3⟩ := hJd.out;rw [offL_end _ HCK.out] at i0;have HJ3 := Lib.hid i0;have HS3 := Lib.hid i1;have HK3 := Lib.hid i3;clear i0 i1 i2 i3 hJd HST3 hrc3 hsz3;obtain ⟨v3, j0, j1, j2, j3, j4, jc, jv⟩ := HJ3.out;have g1 : ∀ n : ExtW Wd, n.val.cell? ⟨w.heap.size, 0, none⟩ = some (.pointer (some ⟨P, 0, none⟩)) := ExtW.cell (by rw [cell_of_row _ _ _ _ _ _ j1]; rfl);have g2 : ∀ w', (∃ n : ExtW Wd, w' = n.val) → w'.rangeAt P 0 [.slice d.pa d.pn d.pc, .slice d.ba d.bn d.bc, .slice d.ta d.bn d.tc, .slice d.fa d.bn d.fc] := fun w' ⟨n, e⟩ => by rw [e]; exact bld_walk (block_ext n.ext j0.bld)
              have g3 : ∀ w', (∃ n : ExtW Wd, w' = n.val) → w'.heap[S7]? = some (setO K) := fun w' ⟨n, e⟩ => by rw [e]; exact block_ext n.ext HS3.out
              have HWK := Lib.hid (HOK.out.ext (ext_trans j0.ext (ext_drewN (Below.refl _ Wd) 1)));clear j0 j1 j2 j3 j4 jc jv
              gi_wp2
              refine round_mix (fun w' => ∃ n : ExtW Wd, w' = n.val) [(0, 5, some (5, true)), (6, 1, none)] (by kernel_rfl) (by kernel_rfl) (by kernel_rfl) (by repeat (first | exact noOut_round | refine noOut_then ?_ | refine noOut_block ?_)) ⟨⟨_, ext_drewN (Below.refl _ _) 1⟩, rfl⟩ ?_;simp only [wpMix, List.take_succ_cons, List.take_zero, List.drop_succ_cons, List.drop_zero]
              repeat (first
                | go_big_quiet_skip
                | (refine wpQuiet_load_mid (o := ⟨some 36, .load 116 _, _, _, _, _⟩) (by rfl) 116 _ rfl P 0 rfl _ _ g2 Tryz.underlying116 rfl size_walk ?_; simp only [zJ,zG,zH,zI])
                | (refine wpQuiet_load_row (o := ⟨some 37, .load 124 _, _, _, _, _⟩) (by rfl) 124 _ rfl S7 rfl 124 (setA K) (0, 0) _ g3 Tryz.underlying124 rfl (by rw [setA_size]; exact size_set) ?_; simp only [zJ,zG,zH,zI])
                | go_big_quiet_step (fail))
              refine wpQuiet_nil ?_;refine wpOp_at rfl rfl ?_;go_simp;refine (entries_any d ts K Wd.drew HWK.out (fits_facts HF.out).1).mono ?_;rintro e w4 ⟨v4, rfl, ho4, hb4⟩;have hb4 := unDrew1 hb4;refine ⟨⟨⟨w4, hb4⟩, rfl⟩, ?_⟩;clear g1 g2 g3;obtain ⟨av, cv, rfl⟩ := ho4.form
              repeat (go_big_quiet_step (fail))
              refine wpQuiet_nil ?_;refine NoPanic.normal ?_;have HJ4 := Lib.hid ((LoJ.steady (Nat.le_refl _) hw0).ext HJ3.out hb4);have HS4 := Lib.hid (block_ext hb4 HS3.out);have HK4 := Lib.hid (HK3.out.trans (Keep.ext hb4));have hEl : (intsN (entriesS ts K)).length = (entriesS ts K).length := by simp [intsN]
              rw [hEl];obtain ⟨E, hE⟩ : ∃ E, E = entriesS ts K := ⟨_, rfl⟩
              rw [hEl, ← hE] at ho4;have HO4 := Lib.hid (ho4.mono (base' := Wd.heap.size) (Nat.le_refl _));have HEE := Lib.hid hE;rw [← hE];clear ho4 hEl hE HJ3 HS3 HK3;by_cases h1 : 1 < E.length
              · have h1' : (1 : Int) < (E.length : Int) := by omega
                have HE : Hid (stP ts f inn (dn ++ [x]) = (diffS (stP ts f inn dn).1 K, (stP ts f inn dn).2 ++ [⟨K, 3, -1⟩])) := by
                  rw [Hid, stP_snoc, stepP, ← HKK.out, ← HLB.out, ← HKB.out, Bool.true_and, if_pos rfl, ← HEE.out, if_pos h1]
                have hb5 : (L ++ (stP ts f inn dn).2).length + 1 ≤ 1000 := by
                  have q1 := stP_len ts f inn r (dn ++ [x]);rw [HE.out] at q1;have q2 : dn ++ [x] ++ r = listS inn := by rw [HD.out]; simp
                  rw [q2] at q1;have q3 := HLEN.out;have q4 : loopsP ts (f + 1) inn = (stP ts f inn (listS inn)).2 := rfl;rw [q4] at q3;simp at q1 ⊢;omega
                obtain ⟨v5, j0, j1, j2, j3, j4, jc, jv⟩ := HJ4.out;obtain ⟨a5, c5, hv5⟩ := OwnR.form j0.parts;obtain ⟨n5, hn5⟩ : ∃ n, n = (L ++ (stP ts f inn dn).2).length := ⟨_, rfl⟩
                rw [← hn5] at hv5;subst hv5;have hS5 : (Value.slice a5 n5 c5).ownBlock ≠ some S7 := own_other j0.parts.1 HS4.out (by decide);have g1 : ∀ n : ClsW (fun W' => w4.grownBy W' (Value.slice a5 n5 c5).ownBlock), n.val.cell? ⟨w.heap.size, 0, none⟩ = some (.pointer (some ⟨P, 0, none⟩)) := fun n => by rw [cell_of_row _ _ _ _ _ _ (grown_row n.prop j1 (own_other j0.parts.1 j1 (by decide)))]; rfl
                have g2 : ∀ n : ClsW (fun W' => w4.grownBy W' (Value.slice a5 n5 c5).ownBlock), n.val.cell? ⟨P, 4, none⟩ = some (.slice a5 n5 c5) := fun n => by rw [cell_of_row _ _ _ _ _ _ (grown_row n.prop j0.bld (own_other j0.parts.1 j0.bld (by decide)))]; rfl
                have g3 : ∀ w', (∃ n : ClsW (fun W' => w4.grownBy W' (Value.slice a5 n5 c5).ownBlock), w' = n.val) → w'.heap[S7]? = some (setO K) := fun w' ⟨n, e⟩ => by rw [e]; exact grown_row n.prop HS4.out hS5
                have hne : Nonempty (ClsW (fun W' => w4.grownBy W' (Value.slice a5 n5 c5).ownBlock)) := cls_ne (grown_same _ _);have J0 := Lib.hid (j0.ext' (drew_ext w4));have hown4 : w4.drew.ownsRow base 128 202 (.slice a5 n5 c5) n5 ((L ++ (stP ts f inn dn).2).flatMap partC) := by have := J0.out.parts.1; rwa [← hn5] at this
                have HOWN4 := Lib.hid hown4;have JV := Lib.hid jv;have HN5 := Lib.hid hn5;have hbs := J0.out.bs;have hn1000 : n5 + 1 ≤ 1000 := by omega
                clear j0 j1 j2 j3 j4 jc jv hown4 hn5
                gi_wp2
                refine round_mix (fun w' => ∃ n : ClsW (fun W' => w4.grownBy W' (Value.slice a5 n5 c5).ownBlock), w' = n.val) [(0, 7, some (7, true)), (8, 0, some (8, true)), (9, 2, some (11, false))] (by kernel_rfl) (by kernel_rfl) (by kernel_rfl) (by repeat (first | exact noOut_round | refine noOut_then ?_ | refine noOut_block ?_)) (cls_mk (grown_drew _ _)) ?_;simp only [wpMix, List.take_succ_cons, List.take_zero, List.drop_succ_cons, List.drop_zero]
                repeat (first
                  | go_big_quiet_skip
                  | (refine wpQuiet_load_row (o := ⟨some 47, .load 124 _, _, _, _, _⟩) (by rfl) 124 _ rfl S7 rfl 124 (setA K) (0, 0) _ g3 Tryz.underlying124 rfl (by rw [setA_size]; exact size_set) ?_; simp only [zJ,zG,zH,zI])
                  | (refine quiet_part (o := ⟨some 48, .build 128 _, _, _, _, _⟩) (by rfl) _ _ _ K 3 (-1) rfl rfl rfl rfl ?_; simp only [zJ,zG,zH,zI])
                  | go_big_quiet_step (fail))
                refine wpQuiet_nil ?_;refine wpOp_at rfl rfl ?_;refine op_rowPart _ ⟨K, 3, (-1)⟩ rfl rfl ?_;simp only [zJ,zG,zH,zI];refine ⟨cls_mk (grown_tr (grown_drew _ _) (World.grownBy_alloc _ _ _)), ?_⟩;refine wpQuiet_nil ?_;refine wpOp_at rfl rfl ?_;refine op_append1 w4.drew (.tmp 46) (.tmp 49) 120 128 rfl base _ 202 216 Tryz.underlying120 infoPart (by kernel_rfl) (by omega) (.slice a5 n5 c5) n5 _ (partC ⟨K, 3, (-1)⟩) rfl HOWN4.out w4.heap.size rfl rfl (partC_len _) (partC_one _) (by simp only [maxLen]; omega) (by omega) hbs ?_;intro g cap w5 hown5 hg5 hat5;have hP5 : w5.heap[P]? = some (bldO d (.slice a5 n5 c5)) := grown_row hg5 J0.out.bld (own_other HOWN4.out J0.out.bld (by decide));have hf5 : w5.frozen? ⟨P, 4, none⟩ = false := frozen_of_row _ _ _ _ _ hP5;have hl5 := lt_of_heap hP5;have hc5 : w5.cell? ⟨P, 4, none⟩ = some (.slice a5 n5 c5) := by rw [cell_of_row _ _ _ _ _ _ hP5]; rfl
                have hgg : w4.grownBy w5 (Value.slice a5 n5 c5).ownBlock := grown_tr (grown_drew _ _) hg5;have happ := J0.out.app (M := [⟨K, 3, (-1)⟩]) hg5 (by rw [← HN5.out]; simpa using hown5) (by rw [← HN5.out]; simp; omega)
                have hJN := LoJ.app (st := (diffS (stP ts f inn dn).1 K, (stP ts f inn dn).2)) HLF J0.out ((LoJ.steady (Nat.le_refl _) hw0).ext HJ4.out (drew_ext w4)) JV.out happ.1 happ.2 (fun q hq => by
                  simp only [Value.ownBlock, Option.some.injEq] at hq;subst hq;rcases hat5 with h | h
                  · exact .inl h.symm
                  · exact .inr (by rw [h]; exact Nat.le_succ _))
                have HBN5 := Lib.hid happ.1;have HJN := Lib.hid hJN
                have HKN : Hid (Keep W (w5.setCell ⟨P, 4, none⟩ (.slice (some ⟨g, 0, none⟩) (n5 + 1) cap))) := HK4.out.trans ((Keep.grown hgg (fun q o e ho => by
                  rcases HOWN4.out.2 with ⟨h, _⟩ | ⟨g', cap', cur, h, _, hg', _⟩
                  · rw [h] at e; cases e
                  · rw [h] at e;simp only [Value.ownBlock, Option.some.injEq] at e;subst e;have ho' : w4.drew.heap[g']? = some o := ho;rw [hg'] at ho';cases ho'
                    rfl)).trans (Keep.setCell _ _ _))
                have HAT : Hid (some g = (Value.slice a5 n5 c5).ownBlock ∨ g = w4.heap.size + 1) := hat5;have HGG := Lib.hid hgg;refine ⟨cls_mk hgg, ?_⟩;simp only [zJ,zG,zH,zI];clear hown5 hg5 hat5 hgg happ hJN hP5 g1 g2 g3
                repeat (go_big_quiet_step (fail))
                refine wpQuiet_nil ?_;refine wpOp_at rfl rfl ?_;go_simp;refine NoPanic.normal ?_
                gi_wp2
                exact ⟨HKN.out, by rw [HE.out]; exact HJN⟩
              · have h1' : ¬ (1 : Int) < (E.length : Int) := by omega
                have hlow : ∀ y, K y = true → 1 ≤ y ∧ y < ts.length := fun y hy => by
                  rw [HKK.out] at hy;obtain ⟨x', _, hx'⟩ := reach_step ((knot_iff HC.out x y).1 hy).2.1;exact good_nx (fits_facts HF.out).1 hx'
                have hE1 : E = [E.headD 0] := by
                  have h0 := entered HF.out HCK.out (y := x) HKB.out.symm hlow;rw [← HEE.out] at h0;exact entries_one h0 h1
                obtain ⟨e0, he0⟩ : ∃ e0, e0 = E.headD 0 := ⟨_, rfl⟩
                rw [← he0] at hE1;have heK : K e0 = true := ((mem_entries HCK.out e0).1 (by rw [← HEE.out, hE1]; simp)).1;have he200 : e0 < 200 := HCK.out e0 heK;have HE : Hid (stP ts f inn (dn ++ [x]) = (diffS (stP ts f inn dn).1 K, (stP ts f inn dn).2 ++ ⟨K, 2, (e0 : Int)⟩ :: loopsP ts f (lessS K e0))) := by
                  rw [Hid, stP_snoc, stepP, ← HKK.out, ← HLB.out, ← HKB.out, Bool.true_and, if_pos rfl, ← HEE.out, if_neg h1, ← he0]
                have hb6 : (L ++ (stP ts f inn dn).2).length + 1 + (loopsP ts f (lessS K e0)).length ≤ 1000 := by
                  have q1 := stP_len ts f inn r (dn ++ [x]);rw [HE.out] at q1;have q2 : dn ++ [x] ++ r = listS inn := by rw [HD.out]; simp
                  rw [q2] at q1;have q3 := HLEN.out;have q4 : loopsP ts (f + 1) inn = (stP ts f inn (listS inn)).2 := rfl;rw [q4] at q3;simp at q1 ⊢;omega
                have HB6 := Lib.hid hb6;have hb5 : (L ++ (stP ts f inn dn).2).length + 1 ≤ 1000 := by omega
                have hl1 : E.length = 1 := by rw [hE1]; rfl
                have ho4 := HO4.out;rw [hl1, hE1] at ho4;rw [hl1];have HLOW := Lib.hid hlow;clear HO4 hE1 he0 hlow hb6 h1;obtain ⟨g4, hav, cur4, HG4, HC4⟩ : ∃ g4, av = some ⟨g4, 0, none⟩ ∧ (∃ cur4, Hid (w4.heap[g4]? = some (.cells cur4 3 (0, 0))) ∧ Hid (cur4[0]? = some (.int .i64 (e0 : Int)))) := by
                  rcases ho4.1.2 with ⟨h, _⟩ | ⟨g4, cap4, cur4, h, _, hg4, hcap1, _, hcs, htk⟩
                  · cases h
                  · injection h with h1 h2 h3;refine ⟨g4, h1, cur4, hg4, ?_⟩;have : (cur4.toList.take 1)[0]? = some (.int .i64 (e0 : Int)) := by
                      simp only [intsN, intVals, List.map_cons, List.map_nil, List.length_cons, List.length_nil] at htk;exact congrArg (fun (l : List Value) => l[0]?) htk
                    rw [List.getElem?_take] at this;simpa [Hid] using this
                subst hav;have HO4 := Lib.hid ho4;clear ho4;obtain ⟨v5, j0, j1, j2, j3, j4, jc, jv⟩ := HJ4.out;obtain ⟨a5, c5, hv5⟩ := OwnR.form j0.parts;obtain ⟨n5, hn5⟩ : ∃ n, n = (L ++ (stP ts f inn dn).2).length := ⟨_, rfl⟩
                rw [← hn5] at hv5;subst hv5;have hS5 : (Value.slice a5 n5 c5).ownBlock ≠ some S7 := own_other j0.parts.1 HS4.out (by decide);have g1 : ∀ n : ClsW (fun W' => w4.grownBy W' (Value.slice a5 n5 c5).ownBlock), n.val.cell? ⟨w.heap.size, 0, none⟩ = some (.pointer (some ⟨P, 0, none⟩)) := fun n => by rw [cell_of_row _ _ _ _ _ _ (grown_row n.prop j1 (own_other j0.parts.1 j1 (by decide)))]; rfl
                have g2 : ∀ n : ClsW (fun W' => w4.grownBy W' (Value.slice a5 n5 c5).ownBlock), n.val.cell? ⟨P, 4, none⟩ = some (.slice a5 n5 c5) := fun n => by rw [cell_of_row _ _ _ _ _ _ (grown_row n.prop j0.bld (own_other j0.parts.1 j0.bld (by decide)))]; rfl
                have g3 : ∀ w', (∃ n : ClsW (fun W' => w4.grownBy W' (Value.slice a5 n5 c5).ownBlock), w' = n.val) → w'.heap[S7]? = some (setO K) := fun w' ⟨n, e⟩ => by rw [e]; exact grown_row n.prop HS4.out hS5
                have hne4 : (Value.slice a5 n5 c5).ownBlock ≠ some g4 := own_other j0.parts.1 HG4.out (by decide);have g4' : ∀ n : ClsW (fun W' => w4.grownBy W' (Value.slice a5 n5 c5).ownBlock), n.val.cell? ⟨g4, 0, none⟩ = some (.int .i64 (e0 : Int)) := fun n => by rw [cell_of_row _ _ _ _ _ _ (grown_row n.prop HG4.out hne4)]; exact HC4.out
                have hne : Nonempty (ClsW (fun W' => w4.grownBy W' (Value.slice a5 n5 c5).ownBlock)) := cls_ne (grown_same _ _);have J0 := Lib.hid (j0.ext' (drew_ext w4));have hown4 : w4.drew.ownsRow base 128 202 (.slice a5 n5 c5) n5 ((L ++ (stP ts f inn dn).2).flatMap partC) := by have := J0.out.parts.1; rwa [← hn5] at this
                have HOWN4 := Lib.hid hown4;have JV := Lib.hid jv;have HN5 := Lib.hid hn5;have hbs := J0.out.bs;have hn1000 : n5 + 1 ≤ 1000 := by omega
                clear j0 j1 j2 j3 j4 jc jv hown4 hn5
                gi_wp2
                refine round_mix (fun w' => ∃ n : ClsW (fun W' => w4.grownBy W' (Value.slice a5 n5 c5).ownBlock), w' = n.val) [(0, 10, some (10, true)), (11, 0, some (11, true)), (12, 2, some (14, false))] (by kernel_rfl) (by kernel_rfl) (by kernel_rfl) (by repeat (first | exact noOut_round | refine noOut_then ?_ | refine noOut_block ?_)) (cls_mk (grown_drew _ _)) ?_;simp only [wpMix, List.take_succ_cons, List.take_zero, List.drop_succ_cons, List.drop_zero]
                repeat (first
                  | go_big_quiet_skip
                  | (refine wpQuiet_load_row (o := ⟨some 58, .load 124 _, _, _, _, _⟩) (by rfl) 124 _ rfl S7 rfl 124 (setA K) (0, 0) _ g3 Tryz.underlying124 rfl (by rw [setA_size]; exact size_set) ?_; simp only [zJ,zG,zH,zI])
                  | (refine quiet_part (o := ⟨some 62, .build 128 _, _, _, _, _⟩) (by rfl) _ _ _ K 2 (e0 : Int) rfl rfl rfl rfl ?_; simp only [zJ,zG,zH,zI])
                  | go_big_quiet_step (fail))
                refine wpQuiet_nil ?_;refine wpOp_at rfl rfl ?_;refine op_rowPart _ ⟨K, 2, (e0 : Int)⟩ rfl rfl ?_;simp only [zJ,zG,zH,zI];refine ⟨cls_mk (grown_tr (grown_drew _ _) (World.grownBy_alloc _ _ _)), ?_⟩;refine wpQuiet_nil ?_;refine wpOp_at rfl rfl ?_;refine op_append1 w4.drew (.tmp 57) (.tmp 63) 120 128 rfl base _ 202 216 Tryz.underlying120 infoPart (by kernel_rfl) (by omega) (.slice a5 n5 c5) n5 _ (partC ⟨K, 2, (e0 : Int)⟩) rfl HOWN4.out w4.heap.size rfl rfl (partC_len _) (partC_one _) (by simp only [maxLen]; omega) (by omega) hbs ?_;intro g cap w5 hown5 hg5 hat5;have hP5 : w5.heap[P]? = some (bldO d (.slice a5 n5 c5)) := grown_row hg5 J0.out.bld (own_other HOWN4.out J0.out.bld (by decide));have hf5 : w5.frozen? ⟨P, 4, none⟩ = false := frozen_of_row _ _ _ _ _ hP5;have hl5 := lt_of_heap hP5;have hc5 : w5.cell? ⟨P, 4, none⟩ = some (.slice a5 n5 c5) := by rw [cell_of_row _ _ _ _ _ _ hP5]; rfl
                have hgg : w4.grownBy w5 (Value.slice a5 n5 c5).ownBlock := grown_tr (grown_drew _ _) hg5;have happ := J0.out.app (M := [⟨K, 2, (e0 : Int)⟩]) hg5 (by rw [← HN5.out]; simpa using hown5) (by rw [← HN5.out]; simp; omega)
                have hJN := LoJ.app (st := (diffS (stP ts f inn dn).1 K, (stP ts f inn dn).2)) HLF J0.out ((LoJ.steady (Nat.le_refl _) hw0).ext HJ4.out (drew_ext w4)) JV.out happ.1 happ.2 (fun q hq => by
                  simp only [Value.ownBlock, Option.some.injEq] at hq;subst hq;rcases hat5 with h | h
                  · exact .inl h.symm
                  · exact .inr (by rw [h]; exact Nat.le_succ _))
                have HBN5 := Lib.hid happ.1;have HJN := Lib.hid hJN
                have HKN : Hid (Keep W (w5.setCell ⟨P, 4, none⟩ (.slice (some ⟨g, 0, none⟩) (n5 + 1) cap))) := HK4.out.trans ((Keep.grown hgg (fun q o e ho => by
                  rcases HOWN4.out.2 with ⟨h, _⟩ | ⟨g', cap', cur, h, _, hg', _⟩
                  · rw [h] at e; cases e
                  · rw [h] at e;simp only [Value.ownBlock, Option.some.injEq] at e;subst e;have ho' : w4.drew.heap[g']? = some o := ho;rw [hg'] at ho';cases ho'
                    rfl)).trans (Keep.setCell _ _ _))
                have HAT : Hid (some g = (Value.slice a5 n5 c5).ownBlock ∨ g = w4.heap.size + 1) := hat5;have HGG := Lib.hid hgg;refine ⟨cls_mk hgg, ?_⟩;simp only [zJ,zG,zH,zI];clear hown5 hg5 hat5 hgg happ hJN hP5 g1 g2 g3 g4'
                repeat (go_big_quiet_step (fail))
                refine wpQuiet_nil ?_;refine wpOp_at rfl rfl ?_;go_simp;refine NoPanic.normal ?_;have HS5 := Lib.hid hS5;have hP7 : P ≠ S7 := by omega
                have hS6 : (w5.setCell ⟨P, 4, none⟩ (.slice (some ⟨g, 0, none⟩) (n5 + 1) cap)).heap[S7]? = some (setO K) := grown_row (grown_setCell w5 P 4 _) (grown_row HGG.out HS4.out hS5) (fun e => by injection e with e; omega);have hP4 : P ≠ g4 := by
                  intro e;have h5 := HG4.out;rw [← e] at h5;have h6 := J0.out.bld;have h7 : w4.drew.heap[P]? = some (.cells cur4 3 (0, 0)) := h5;rw [h6] at h7;injection h7 with h7;injection h7 with _ h7 _;exact absurd h7 (by decide)
                have hg6 : (w5.setCell ⟨P, 4, none⟩ (.slice (some ⟨g, 0, none⟩) (n5 + 1) cap)).heap[g4]? = some (.cells cur4 3 (0, 0)) := grown_row (grown_setCell w5 P 4 _) (grown_row HGG.out HG4.out hne4) (fun e => by injection e with e; exact hP4 e);clear hc5 hf5 hl5 HGG hS5;generalize w5.setCell ⟨P, 4, none⟩ (.slice (some ⟨g, 0, none⟩) (n5 + 1) cap) = w6 at *;obtain ⟨v6, hv6⟩ : ∃ v6, v6 = Value.slice (some ⟨g, 0, none⟩) (n5 + 1) cap := ⟨_, rfl⟩
                have hv6o : ∀ q, v6.ownBlock = some q → v.ownBlock = some q ∨ w.heap.size + 1 + 1 + 1 < q := fun q hq => by
                  rw [hv6] at hq;simp only [Value.ownBlock, Option.some.injEq] at hq;subst hq;rcases HAT.out with h | h
                  · exact JV.out g h.symm
                  · right;have := lt_of_heap HS4.out;omega
                rw [← hv6] at HBN5;have HV6 := Lib.hid hv6o;clear hv6o;have hj6 := HJN.out;obtain ⟨v9, q0, q1, _⟩ := hj6;have g1 : ∀ n : ExtW w6, n.val.cell? ⟨w.heap.size, 0, none⟩ = some (.pointer (some ⟨P, 0, none⟩)) := ExtW.cell (by rw [cell_of_row _ _ _ _ _ _ q1]; rfl);have g3 : ∀ w', (∃ n : ExtW w6, w' = n.val) → w'.heap[S7]? = some (setO K) := fun w' ⟨n, e⟩ => by rw [e]; exact block_ext n.ext hS6
                have g4' : ∀ n : ExtW w6, n.val.cell? ⟨g4, 0, none⟩ = some (.int .i64 (e0 : Int)) := ExtW.cell (by rw [cell_of_row _ _ _ _ _ _ hg6]; exact HC4.out);clear q0 q1 hS6 hg6
                gi_wp2
                refine round_mix (fun w' => ∃ n : ExtW w6, w' = n.val) [(0, 5, some (5, true)), (6, 0, some (6, false))] (by kernel_rfl) (by kernel_rfl) (by kernel_rfl) (by repeat (first | exact noOut_round | refine noOut_then ?_ | refine noOut_block ?_)) ⟨⟨_, ext_drewN (Below.refl _ _) 1⟩, rfl⟩ ?_;simp only [wpMix, List.take_succ_cons, List.take_zero, List.drop_succ_cons, List.drop_zero]
                repeat (first
                  | go_big_quiet_skip
                  | (refine wpQuiet_load_row (o := ⟨some 68, .load 124 _, _, _, _, _⟩) (by rfl) 124 _ rfl S7 rfl 124 (setA K) (0, 0) _ g3 Tryz.underlying124 rfl (by rw [setA_size]; exact size_set) ?_; simp only [zJ,zG,zH,zI])
                  | go_big_quiet_step (fail))
                refine wpQuiet_nil ?_;clear g1 g3 g4';refine wpOp_at rfl rfl ?_;go_simp;refine (less_any K e0 he200 w6.drew).mono ?_;rintro e w7 ⟨rfl, hb7⟩;have hb7 := unDrew1 hb7;refine ⟨⟨⟨w7, hb7⟩, rfl⟩, ?_⟩;refine wpQuiet_nil ?_;refine wpOp_at rfl rfl ?_;have hJ7 := (LoJ.steady (Nat.le_refl _) hw0).ext HJN.out hb7;have hB7 : BldJ W0 d P base v6 (L ++ ((stP ts f inn dn).2 ++ [⟨K, 2, (e0 : Int)⟩])) w7 := by rw [← List.append_assoc]; exact HBN5.out.ext' hb7
                have hcall := IH.out (lessS K e0) v6 (L ++ ((stP ts f inn dn).2 ++ [⟨K, 2, (e0 : Int)⟩])) w7 (less_canon HCK.out e0) (fun y hy => (HLOW.out y (mem_less.1 hy).2).2) (by have := HB6.out; simp at this ⊢; omega)
                  (by
                    have h5 := less_len (s := K) (inn := inn) (e := e0) (fun y hy => by rw [HKK.out] at hy; exact ((knot_iff HC.out x y).1 hy).2.1.inn) HC.out heK;have := HLT.out
                    omega) hB7
                have HCALL := Lib.hid hcall;have HJ7 := Lib.hid hJ7;have HB7 := Lib.hid hB7;have HBB7 := Lib.hid hb7;clear hcall hJ7 hB7 hb7;go_simp;refine HCALL.out.mono ?_;rintro e w8 ⟨rfl, v8, k0, kc, kv⟩;have hJ8 := LoJ.app (st := (diffS (stP ts f inn dn).1 K, (stP ts f inn dn).2 ++ [⟨K, 2, (e0 : Int)⟩])) HLF HB7.out HJ7.out HV6.out k0 kc kv;have HJ8 := Lib.hid hJ8;have HK8 := Lib.hid ((HKN.out.trans (Keep.ext HBB7.out)).trans (HB7.out.keep kc));clear hJ8 k0 kc kv;refine NoPanic.normal ?_
                gi_wp2
                refine ⟨HK8.out, ?_⟩;rw [HE.out];have h9 := HJ8.out;simp only [List.append_assoc, List.cons_append, List.nil_append] at h9;exact h9
    case done =>
      rintro D W hD hJ hK;have HJD := Lib.hid ((LoJ.steady (D := w.heap.size) (Nat.le_refl _) hw0).put (.deferred none) (l := D) hJ.out (by omega) hK rfl);have HKD := Lib.hid hK;clear hJ
      gi_wp2
      refine ⟨by simp, .inl ⟨_, _, rfl, run_takeDeferred HKD.out, ?_⟩⟩;obtain ⟨v9, j0, _, _, _, _, jc, jv⟩ := HJD.out;refine ⟨.tuple #[], by simp [results, Tryz.results79, go_sem], rfl, v9, ?_, jc, fun q hq => ?_⟩
      · exact j0
      · rcases jv q hq with h | h
        · exact .inl h
        · exact .inr (by omega)
    case stop => rintro D c W hD h; exact h.elim
end
end Go.Proofs.YtblhmdhfhaencaaGreat
