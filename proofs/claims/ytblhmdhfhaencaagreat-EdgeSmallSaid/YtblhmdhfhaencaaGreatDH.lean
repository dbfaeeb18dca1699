/-
 Building tiles: tiles of the call's own; a part's set gone through.
-/
import Derived.Test.YtblhmdhfhaencaaGreatQN
import Derived.Test.YtblhmdhfhaencaaGreatRowG
import Derived.Test.YtblhmdhfhaencaaGreatCC
import Derived.Test.YtblhmdhfhaencaaGreatDA
import Derived.Test.YtblhmdhfhaencaaGreatTD
import Derived.Test.YtblhmdhfhaencaaGreatLR
import Derived.Test.YtblhmdhfhaencaaGreatEA
import Derived.Deep.LoopGhost
import Derived.BigRegion
import Derived.Deep.CutBlock
import Derived.Deep.DeepCutAuto
import Derived.Test.YtblhmdhfhaencaaGreatRJ
namespace Go.Proofs.YtblhmdhfhaencaaGreat
set_option linter.unusedSimpArgs false
set_option linter.unusedVariables false
set_option linter.unusedSectionVars false
set_option maxRecDepth 100000
set_option maxHeartbeats 40000000
section
open Go.RowKit Go.Shelf
attribute [local go_sem] Oper.semAt_some wide_fn wide_depth wide_fnR wide_depthR
abbrev bsV (t : TileR) : Value := .slice t.ba t.bn t.bc
structure TilesIn (W : World) (base : Nat) (v : Value) (ls : List TileR) : Prop where
 own : OwnR 76 3 tileC W base v ls
 each : ∀ t ∈ ls, OwnI W base (bsV t) t.d.blocks ∧ I64 t.d.kind ∧ I64 t.d.parent
 sepv : ∀ t ∈ ls, Sep (bsV t) v
 pw : ls.Pairwise fun s t => Sep (bsV s) (bsV t)
section
variable {W W' W3 : World} {base base' : Nat} {v : Value} {ls : List TileR}
theorem TilesIn.grown {row : Option Nat} (h : TilesIn W base v ls) (hg : W.grownBy W' row) (hr : ∀ q, row = some q → q < base ∨ W.heap.size ≤ q) : TilesIn W' base v ls where
 own := h.own.kept hg (by
  cases e : v.ownBlock with
  | none => exact .inl rfl
  | some q => exact .inr fun e2 => by have := h.own.low e; have := hr q e2.symm; omega)
 each := fun t ht => ⟨(h.each t ht).1.kept hg (by
  cases e : (bsV t).ownBlock with
  | none => exact .inl rfl
  | some q => exact .inr fun e2 => by have := (h.each t ht).1.1.lt q e; have := hr q e2.symm; omega), (h.each t ht).2⟩
 sepv := h.sepv
 pw := h.pw
theorem TilesIn.ext (h : TilesIn W base v ls) (hb : Below W.heap.size W W') : TilesIn W' base v ls :=
 h.grown (row := none) ⟨hb.os, hb.tape, hb.output, hb.size, fun k hk _ => hb.block k hk⟩ fun q e => by cases e
theorem TilesIn.mono (h : TilesIn W base v ls) (hb : base' ≤ base) : TilesIn W base' v ls := ⟨h.own.mono hb, fun t ht => ⟨(h.each t ht).1.mono hb, (h.each t ht).2⟩, h.sepv, h.pw⟩
theorem own_le {w : World} {base : Nat} {a : Option Addr} {n c : Nat} {xs : List Int} (h : OwnI w base (.slice a n c) xs) : n ≤ c := by
 rcases h.1.2 with ⟨e, _⟩ | ⟨g, cap, cur, e, _, _, hc, _⟩
 · injection e with _ e1 e2; omega
 · injection e with _ e1 e2; omega
theorem TilesIn.ok {a : Option Addr} {n c : Nat} (h : TilesIn W base (.slice a n c) ls) : TilesOK W a n ls :=
 ⟨h.own.recs tileC_len, fun t ht => ⟨(h.each t ht).1.ints, own_le (h.each t ht).1, (h.each t ht).2⟩⟩
theorem tiles_one (W : World) (B : Nat) (t : TileR) (h : W.heap[B]? = some (.cells (tileC t).toArray 76 (0, 0))) (base : Nat) (hb : base ≤ B) (ho : OwnI W base (bsV t) t.d.blocks) (hk : I64 t.d.kind ∧ I64 t.d.parent) (hn : (bsV t).ownBlock ≠ some B) : TilesIn W base (.slice (some ⟨B, 0, none⟩) 1 1) [t] where
 own := by
  refine ⟨⟨by simp [tileC], .inr ⟨B, 1, (tileC t).toArray, rfl, hb, h, by simp, by simp [maxLen], by simp [tileC], ?_⟩⟩, by simp⟩;simp [tileC]
 each := fun s hs => by
  have : s = t := by simpa using hs
  subst this;exact ⟨ho, hk⟩
 sepv := fun s hs g hg e => by
  have : s = t := by simpa using hs
  subst this;simp only [Value.ownBlock, Option.some.injEq] at e;subst e;exact hn hg
 pw := List.pairwise_singleton _ _
theorem TilesIn.add {v' : Value} (h : TilesIn W base v ls) (x : TileR) (hx : x.ba = none) (hx2 : x.bn = 0) (hx3 : x.bc = 0) (hx4 : x.d.blocks = []) (hk : I64 x.d.kind ∧ I64 x.d.parent) (hg : W.grownBy W3 v.ownBlock)
  (ho : W3.ownsRow base 76 3 v' (ls.length + 1) (ls.flatMap tileC ++ tileC x)) (hat : v'.ownBlock = v.ownBlock ∨ ∃ q, v'.ownBlock = some q ∧ W.heap.size ≤ q) (hn : ls.length ≤ 1000) : TilesIn W3 base v' (ls ++ [x]) where
 own := by
  refine ⟨?_, by simp; omega⟩;rw [List.length_append, List.flatMap_append];simpa using ho
 each := fun t ht => by
  rcases List.mem_append.1 ht with ht | ht
  · refine ⟨(h.each t ht).1.kept hg ?_, (h.each t ht).2⟩;cases e : (bsV t).ownBlock with
    | none => exact .inl rfl
    | some q => exact .inr fun e2 => h.sepv t ht q e e2.symm
  · have : t = x := by simpa using ht
    subst this;refine ⟨?_, hk⟩;rw [bsV, hx, hx2, hx3, hx4];exact OwnI.nil _ _
 sepv := fun t ht g hg1 hg2 => by
  rcases List.mem_append.1 ht with ht | ht
  · rcases hat with e | ⟨q, e, hq⟩
    · rw [e] at hg2; exact h.sepv t ht g hg1 hg2
    · rw [e] at hg2;injection hg2 with hg2;have := ((h.each t ht).1.1.lt g hg1).2;omega
  · have : t = x := by simpa using ht
    subst this;rw [bsV, hx] at hg1;cases hg1
 pw := by
  rw [List.pairwise_append];refine ⟨h.pw, List.pairwise_singleton _ _, fun s _ t ht g _ hg2 => ?_⟩;have : t = x := by simpa using ht
  subst this;rw [bsV, hx] at hg2;cases hg2
theorem flat_set3 : ∀ (ls : List TileR) (k : Nat) (t t' : TileR), ls[k]? = some t → t'.d.kind = t.d.kind ∧ t'.d.parent = t.d.parent → (ls.flatMap tileC).set (k * 3 + 2) (bsV t') = (ls.set k t').flatMap tileC
 | x :: ls, 0, t, t', h, he => by
   simp only [List.getElem?_cons_zero, Option.some.injEq] at h;subst h;simp [tileC, he.1, he.2]
 | x :: ls, k + 1, t, t', h, he => by
   have ih := flat_set3 ls k t t' (by simpa using h) he;rw [List.flatMap_cons, List.set_cons_succ, List.flatMap_cons, ← ih];have e : (k + 1) * 3 + 2 = (tileC x).length + (k * 3 + 2) := by rw [tileC_len]; omega
   rw [e, List.set_append_right _ _ (by omega)]
   congr 2
   omega
theorem TilesIn.turn {g n c : Nat} (h : TilesIn W base (.slice (some ⟨g, 0, none⟩) n c) ls) {k : Nat} {t t' : TileR} (hk : ls[k]? = some t) (hg : W.grownBy W3 (bsV t).ownBlock) (ho : OwnI W3 base (bsV t') t'.d.blocks) (he : t'.d.kind = t.d.kind ∧ t'.d.parent = t.d.parent)
  (hat : (bsV t').ownBlock = (bsV t).ownBlock ∨ ∃ q, (bsV t').ownBlock = some q ∧ W.heap.size ≤ q) : TilesIn (W3.setCell ⟨g, k * 3 + 2, none⟩ (bsV t')) base (.slice (some ⟨g, 0, none⟩) n c) (ls.set k t') := by
 have hlt := (List.getElem?_eq_some_iff.1 hk).1
 have htm := List.mem_of_getElem? hk
 have hlen : ls.length = n := by obtain ⟨a, c', e⟩ := h.own.form; injection e with _ e _; exact e.symm
 have hgb := h.own.low (k := g) rfl
 have g2 := grown_setCell W3 g (k * 3 + 2) (bsV t')
 have hne : ∀ s ∈ ls, (bsV s).ownBlock ≠ some g := fun s hs e => h.sepv s hs g e rfl
 have keep : ∀ s, OwnI W base (bsV s) s.d.blocks → Sep (bsV t) (bsV s) → (bsV s).ownBlock ≠ some g → OwnI (W3.setCell ⟨g, k * 3 + 2, none⟩ (bsV t')) base (bsV s) s.d.blocks := fun s hs hsep hng => by
  refine (hs.kept hg ?_).kept g2 ?_
  · cases e : (bsV s).ownBlock with
    | none => exact .inl rfl
    | some q => exact .inr fun e2 => hsep q e2.symm e
  · cases e : (bsV s).ownBlock with
    | none => exact .inl rfl
    | some q => exact .inr fun e2 => hng (e.trans e2)
 have sepT : ∀ s, OwnI W base (bsV s) s.d.blocks → Sep (bsV t) (bsV s) → Sep (bsV t') (bsV s) := fun s hs hsep q e1 e2 => by
  rcases hat with e | ⟨q', e, hq⟩
  · rw [e] at e1; exact hsep q e1 e2
  · rw [e] at e1;injection e1 with e1;have := (hs.1.lt q e2).2;omega
 have sepg : (bsV t').ownBlock ≠ some g := fun e => by
  rcases hat with e1 | ⟨q', e1, hq⟩
  · rw [e1] at e; exact hne t htm e
  · rw [e1] at e; injection e with e; omega
 have hpw : ∀ i s, ls[i]? = some s → i ≠ k → Sep (bsV t) (bsV s) := fun i s hi hik => by
  have hil := (List.getElem?_eq_some_iff.1 hi).1;have e1 := (List.getElem?_eq_some_iff.1 hi).2;have e2 := (List.getElem?_eq_some_iff.1 hk).2;rcases Nat.lt_or_ge i k with hl | hl
  · have := (List.pairwise_iff_getElem.1 h.pw) i k hil hlt hl;rw [e1, e2] at this;exact this.symm
  · have := (List.pairwise_iff_getElem.1 h.pw) k i hlt hil (by omega);rw [e1, e2] at this;exact this
 refine ⟨?_, fun s hs => ?_, fun s hs => ?_, ?_⟩
 · have h3 : OwnR 76 3 tileC W3 base (.slice (some ⟨g, 0, none⟩) n c) ls := h.own.kept hg (.inr fun e => hne t htm e.symm);have h4 : OwnR 76 3 tileC (W3.setCell ⟨g, k * 3 + 2, none⟩ (bsV t')) base (.slice (some ⟨g, 0, none⟩) n c) (ls.set k t') := by
    refine ⟨?_, by rw [List.length_set]; exact h.own.2⟩;have h6 := h3.1;rw [hlen] at h6;have h5 := (h6.stored (k * 3 + 2) (bsV t')).1;rw [List.length_set, hlen];have e : (ls.flatMap tileC).set (k * 3 + 2) (bsV t') = (ls.set k t').flatMap tileC := flat_set3 ls k t t' hk he;rw [← e];exact h5
   exact h4
 · obtain ⟨i, hi, e⟩ := List.mem_iff_getElem.1 hs;rw [List.getElem_set] at e
   split at e
   · rename_i hki
     subst e;refine ⟨ho.kept g2 ?_, by rw [he.1, he.2]; exact (h.each t htm).2⟩;cases e : (bsV t').ownBlock with
     | none => exact .inl rfl
     | some q => exact .inr fun e2 => sepg (e.trans e2)
   · rename_i hki
     have hi' : i < ls.length := by simpa using hi
     have hsm : s ∈ ls := by rw [← e]; exact List.getElem_mem hi'
     exact ⟨keep s (h.each s hsm).1 (hpw i s (by rw [List.getElem?_eq_getElem hi', e]) (fun e => hki e.symm)) (hne s hsm), (h.each s hsm).2⟩
 · obtain ⟨i, hi, e⟩ := List.mem_iff_getElem.1 hs;rw [List.getElem_set] at e
   split at e
   · subst e;intro q e1 e2;simp only [Value.ownBlock, Option.some.injEq] at e2;subst e2;exact sepg e1
   · have hi' : i < ls.length := by simpa using hi
     exact h.sepv s (by rw [← e]; exact List.getElem_mem hi')
 · rw [List.pairwise_iff_getElem];intro i j hi hj hij;have hi' : i < ls.length := by simpa using hi
   have hj' : j < ls.length := by simpa using hj
   rw [List.getElem_set, List.getElem_set];by_cases e1 : k = i
   · subst e1;rw [if_pos rfl, if_neg (by omega)];exact sepT _ (h.each _ (List.getElem_mem hj')).1 (hpw j _ (List.getElem?_eq_getElem hj') (by omega))
   · rw [if_neg e1];by_cases e2 : k = j
     · subst e2;rw [if_pos rfl];exact (sepT _ (h.each _ (List.getElem_mem hi')).1 (hpw i _ (List.getElem?_eq_getElem hi') (by omega))).symm
     · rw [if_neg e2];exact (List.pairwise_iff_getElem.1 h.pw) i j hi' hj' hij
end
end

section
open Go.RowKit Go.Shelf
theorem own_heap {W : World} {base og n c : Nat} {xs : List Int} (h : OwnI W base (.slice (some ⟨og, 0, none⟩) n c) xs) : ∃ cur, W.heap[og]? = some (.cells cur 3 (0, 0)) := by
 rcases h.1.2 with ⟨h, _⟩ | ⟨g4, cap4, cur4, h, _, hg4, _⟩
 · cases h
 · injection h with h;injection h with h;injection h with h;subst h;exact ⟨cur4, hg4⟩
section
variable {W0 W W3 : World} {base : Nat} {vp : Value} {qs : List PartD} {ob og n : Nat} {own : List Int} {out : Value} {ls : List TileR}
end
theorem td_app (ls : List TileR) (x : TileR) : tdOf (ls ++ [x]) = tdOf ls ++ [x.d] := by simp [tdOf]
theorem td_set (ls : List TileR) (k : Nat) (x : TileR) : tdOf (ls.set k x) = (tdOf ls).set k x.d := by simp [tdOf, List.map_set]
end

section
open Go.RowKit
attribute [local go_sem] Oper.semAt_some wide_fn wide_depth wide_fnR wide_depthR
def upS (K : Nat → Bool) (x : Nat) : Nat → Bool := fun y => decide (y < x) && K y
def orS (d K : Nat → Bool) (x : Nat) : Nat → Bool := fun y => d y || (decide (y < x) && K y)
theorem upS_zero (K : Nat → Bool) : upS K 0 = fun _ => false := by funext y; simp [upS]
theorem orS_zero (d K : Nat → Bool) : orS d K 0 = d := by funext y; simp [orS]
theorem upS_step (K : Nat → Bool) (x : Nat) {v : Bool} (hv : v = K x) : (fun y => if y = x then v else upS K x y) = upS K (x + 1) := by
 subst hv
 funext y
 simp only [upS]
 by_cases e : y = x
 · subst e; simp
 · have : decide (y < x + 1) = decide (y < x) := by rw [decide_eq_decide]; omega
   rw [if_neg e, this]
theorem orS_step (d K : Nat → Bool) (x : Nat) {v : Bool} (hv : v = (d x || K x)) : (fun y => if y = x then v else orS d K x y) = orS d K (x + 1) := by
 subst hv
 funext y
 simp only [orS]
 by_cases e : y = x
 · subst e; simp
 · have : decide (y < x + 1) = decide (y < x) := by rw [decide_eq_decide]; omega
   rw [if_neg e, this]
theorem orS_at (d K : Nat → Bool) (x : Nat) : orS d K x x = d x := by simp [orS]
theorem upS_end {K : Nat → Bool} {n : Nat} (h : ∀ y, K y = true → y < n) : upS K n = K := by
 funext y
 simp only [upS]
 cases hk : K y with
 | false => simp
 | true => simp [h y hk]
theorem orS_end {d K e : Nat → Bool} {n : Nat} (h : ∀ y, K y = true → y < n) (he : ∀ y, e y = (d y || K y)) : orS d K n = e := by
 funext y
 rw [he]
 simp only [orS]
 cases hk : K y with
 | false => simp
 | true => simp [h y hk]
structure LpJ (w : World) (fo : Obj) (inn dn : Nat → Bool) (v : Value) (M : List PartD) (W : World) : Prop where
 fn : W.heap[w.heap.size]? = some fo
 inn : W.heap[w.heap.size + 1]? = some (rsetO inn)
 done : W.heap[w.heap.size + 1 + 1]? = some (rsetO dn)
 out : PtsIn W (w.heap.size + 1 + 1 + 1) v M
 below : Below w.heap.size w W
theorem LpJ.ext {w : World} {fo : Obj} {inn dn : Nat → Bool} {v : Value} {M : List PartD} {W W' : World} (h : LpJ w fo inn dn v M W) (hb : Below W.heap.size W W') : LpJ w fo inn dn v M W' :=
 ⟨block_ext hb h.fn, block_ext hb h.inn, block_ext hb h.done, h.out.ext hb, ext_trans h.below hb⟩
theorem LpJ.mark {w : World} {fo : Obj} {inn dn dn' : Nat → Bool} {v : Value} {M : List PartD} {W : World} (h : LpJ w fo inn dn v M W) {x : Nat} (hx : x < 200) {b : Bool} (e : (fun k => if k = x then b else dn k) = dn') : LpJ w fo inn dn' v M (W.setCell ⟨w.heap.size + 1 + 1, x, none⟩ (.bool b)) := by
 have hg := grown_setCell W (w.heap.size + 1 + 1) x (.bool b)
 refine ⟨grown_row hg h.fn (by simp; omega), grown_row hg h.inn (by simp), rset_to h.done hx e, h.out.kept hg ?_, h.below.setCell (by simp; omega) _⟩
 cases hv : v.ownBlock with
 | none => exact .inl rfl
 | some k => exact .inr (by have := OwnR.low h.out hv; simp; omega)
theorem LpJ.other {w : World} {fo : Obj} {inn dn : Nat → Bool} {v : Value} {M : List PartD} {W : World} (h : LpJ w fo inn dn v M W) {S x : Nat} (hS : w.heap.size + 1 + 1 < S) (hv : ∀ k, v.ownBlock = some k → k < S) (b : Bool) : LpJ w fo inn dn v M (W.setCell ⟨S, x, none⟩ (.bool b)) := by
 have hg := grown_setCell W S x (.bool b)
 refine ⟨grown_row hg h.fn (by simp; omega), grown_row hg h.inn (by simp; omega), grown_row hg h.done (by simp; omega), h.out.kept hg ?_, h.below.setCell (by simp; omega) _⟩
 cases hb : v.ownBlock with
 | none => exact .inl rfl
 | some k => exact .inr (by have := hv k hb; simp; omega)
theorem LpJ.app {w : World} {fo : Obj} {inn dn : Nat → Bool} {v v' : Value} {M : List PartD} {m : Nat} {p : PartD} {W W' : World} (h : LpJ w fo inn dn v M W) (hm : m = M.length) (hm1 : m + 1 ≤ 1000) (ho : W'.ownsRow (w.heap.size + 1 + 1 + 1) 112 202 v' (m + 1) (M.flatMap ptC ++ ptC p)) (hg : W.grownBy W' v.ownBlock) : LpJ w fo inn dn v' (M ++ [p]) W' := by
 have key : ∀ k, v.ownBlock = some k → w.heap.size + 1 + 1 + 1 ≤ k := fun k hk => (OwnR.low h.out hk).1
 have hne : ∀ k, k < w.heap.size + 1 + 1 + 1 → v.ownBlock ≠ some k := fun k hk e => by have := key k e; omega
 have hz := lt_of_heap h.done
 refine ⟨grown_row hg h.fn (hne _ (by omega)), grown_row hg h.inn (hne _ (by omega)), grown_row hg h.done (hne _ (by omega)), ⟨?_, ?_⟩, h.below.grown hg (by omega) (fun q e => by have := key q e; omega)⟩
 · rw [List.length_append, List.flatMap_append, ← hm];simpa using ho
 · have := h.out.2;rw [List.length_append];simp;omega
theorem LpJ.appL {w : World} {fo : Obj} {inn dn : Nat → Bool} {v v' : Value} {M N : List PartD} {m k : Nat} {W W' : World} (h : LpJ w fo inn dn v M W) (hm : m = M.length) (hk : k = N.length) (hm1 : m + k ≤ 1000) (ho : W'.ownsRow (w.heap.size + 1 + 1 + 1) 112 202 v' (m + k) (M.flatMap ptC ++ N.flatMap ptC)) (hg : W.grownBy W' v.ownBlock) : LpJ w fo inn dn v' (M ++ N) W' := by
 have key : ∀ k, v.ownBlock = some k → w.heap.size + 1 + 1 + 1 ≤ k := fun k hk => (OwnR.low h.out hk).1
 have hne : ∀ k, k < w.heap.size + 1 + 1 + 1 → v.ownBlock ≠ some k := fun k hk e => by have := key k e; omega
 have hz := lt_of_heap h.done
 refine ⟨grown_row hg h.fn (hne _ (by omega)), grown_row hg h.inn (hne _ (by omega)), grown_row hg h.done (hne _ (by omega)), ⟨?_, ?_⟩, h.below.grown hg (by omega) (fun q e => by have := key q e; omega)⟩
 · rw [List.length_append, List.flatMap_append, ← hm, ← hk];exact ho
 · rw [List.length_append];omega
theorem quiet_pt {ops : Array Oper} {rest : List Oper} {o : Oper} {a : Act} {C : World → Prop} {Q : Act → Prop} (hw : Region.wanted o (yielded ops a.tmps) = true) (x y z : Operand) (s : Nat → Bool) (kd e : Int) (ho : o.op = .build 112 #[(0, x), (1, y), (2, z)])
  (hx : a.eval x = .int .i64 kd) (hy : a.eval y = .agg (setA s)) (hz : a.eval z = .int .i64 e) (h : wpQuiet Tryz.prog ops C Q rest (a.put o.dst (ptV ⟨s, kd, e⟩))) : wpQuiet Tryz.prog ops C Q (o :: rest) a :=
 BigFrame.wpQuiet_want hw fun _ hK => ⟨ptV ⟨s, kd, e⟩, fun w hC => by
  unfold Oper.quietAt execOp;simp only [ho, List.map_toArray, List.map_cons, List.map_nil, hx, hy, hz, Sem.run_bind, run_build_pt, Result.andThen_ok, Sem.run_pure]
  exact ⟨rfl, rfl⟩, hK _ h⟩
theorem loops17_any (pa : Option Addr) (pn pc : Nat) (ba : Option Addr) (bn bc : Nat) (bs : List BlkH) (hf : fitsB (tsOf bs) = true) :
  ∀ (f : Nat) (inn : Nat → Bool) (w : World), BlksOK w ba bn bs → Canon inn → (∀ y, inn y = true → y < bn) → (loopsP (tsOf bs) f inn).length ≤ 1000 → (listS inn).length < f →
  Calls Tryz.prog 72 #[funcV pa pn pc ba bn bc, .agg (setA inn)] w (PtsPost w (loopsP (tsOf bs) f inn)) := by
 intro f
 induction f with
 | zero => intro inn w _ _ _ _ h; omega
 | succ f ih =>
   intro inn w hb hc hin hlen hlt;have hg : goodB (tsOf bs) = true := (fits_facts hf).1;have hgg := (goodB_iff _).1 hg;have hbn : bn ≤ 200 := by have := hgg.1.2; rw [tsOf_len, hb.1.1] at this; exact this
   have HTL : Hid ((tsOf bs).length = bn) := by rw [Hid, tsOf_len, hb.1.1]
   have IH := Lib.hid ih;have H := Lib.hid hb;have HC := Lib.hid hc;have HIN := Lib.hid hin;have HLEN := Lib.hid hlen;have HLT := Lib.hid hlt;have HG := Lib.hid hg;have HF := Lib.hid hf;clear ih hb hc hin hlen hlt hgg hg
   go_enter Tryz.func72, Tryz.ntmps72
   go_upto_region 3 with (fail)
   obtain ⟨W, hW⟩ : ∃ W, W = ((w.alloc (funcO pa pn pc ba bn bc)).alloc (rsetO inn)).alloc (.cells Tryz.zeroCells107 107) := ⟨_, rfl⟩
   rw [← hW]
   have h0 : LpJ w (funcO pa pn pc ba bn bc) inn (donD (tsOf bs) f inn 0) (.slice none 0 0) (outD (tsOf bs) f inn 0) W :=
    ⟨by rw [hW, Below.heap_alloc _ _ _ (by simp; omega), Below.heap_alloc _ _ _ (by simp)]; exact heap_alloc_new _ _, by rw [hW, Below.heap_alloc _ _ _ (by simp), heap_at _ _ _ (by simp)],
     by rw [hW, heap_at _ _ _ (by simp), zero_rset, done_start], OwnR.nil _ _ _ _ _, by rw [hW]; exact ((ext_alloc _ _).alloc (by simp) _).alloc (by simp; omega) _⟩
   have H0 := Lib.hid h0;clear hW h0;go_wp2
   go_loopw [5, 7, 8, 9, 10, 11] (fun s5 s7 _ _ _ _ wr => ∃ b : Nat, b ≤ bn ∧ s7 = .int .i64 (b : Int) ∧ Hid (LpJ w (funcO pa pn pc ba bn bc) inn (donD (tsOf bs) f inn b) s5 (outD (tsOf bs) f inn b) wr)) (fun _ s7 _ _ _ _ _ => bn - (intOf s7).toNat)
   case atStart => exact ⟨0, by omega, rfl, H0⟩
   case round =>
    obtain ⟨b, hb, rfl, HJ⟩ := hrel;clear H0;have kf := HJ.out.fn;have k1 : wr.cell? ⟨w.heap.size, 1, none⟩ = some (.slice ba bn bc) := by rw [cell_of_row _ _ _ _ _ _ kf]; rfl
    clear kf;by_cases hlt : b < bn
    · have hlt' : (b : Int) < (bn : Int) := by omega
      have hb200 : b < 200 := by omega
      have HSK : Hid (inn b = false ∨ donD (tsOf bs) f inn b b = true ∨ walkF (nx (tsOf bs)) inn b b = false → ∀ W', Below wr.heap.size wr W' → LpJ w (funcO pa pn pc ba bn bc) inn (donD (tsOf bs) f inn (b + 1)) u5 (outD (tsOf bs) f inn (b + 1)) W') := fun h W' hW' => by
       obtain ⟨e1, e2⟩ := loop_skip HC.out h;rw [e1, e2];exact HJ.out.ext hW'
      have ci := rset_cell HJ.out.inn b hb200;have cd := rset_cell HJ.out.done b hb200;obtain ⟨ib, hib⟩ : ∃ x, x = inn b := ⟨_, rfl⟩
      rw [← hib] at ci;have HIB := Lib.hid hib;clear hib;go_upto_region 6 with (fail)
      cases ib with
      | false =>
        have HN := Lib.hid (HSK.out (.inl HIB.out.symm) wr (Below.refl _ _));go_wp2
        go_roundw
        case rel => exact ⟨b + 1, by omega, by go_num, HN⟩
        case measure => simp [intOf]; omega
      | true =>
        obtain ⟨db, hdb⟩ : ∃ x, x = donD (tsOf bs) f inn b b := ⟨_, rfl⟩
        rw [← hdb] at cd;have HDB := Lib.hid hdb;clear hdb;cases db with
        | true =>
          have HN := Lib.hid (HSK.out (.inr (.inl HDB.out.symm)) wr (Below.refl _ _));go_wp2
          go_roundw
          case rel => exact ⟨b + 1, by omega, by go_num, HN⟩
          case measure => simp [intOf]; omega
        | false =>
          obtain ⟨wb, hwb⟩ : ∃ x, x = walkF (nx (tsOf bs)) inn b b := ⟨_, rfl⟩
          have hix : ∀ w9, (Instr.index 107 (.agg (setA (walkF (nx (tsOf bs)) inn b))) (.int .i64 (b : Int))).run Tryz.prog w9 = .ok (.bool wb) w9 := fun w9 => by rw [hwb]; exact index_rset w9 _ b hb200
          have HWB := Lib.hid hwb;clear hwb
          go_upto_if 36 with (first
           | ((with_reducible show wpList _ _ _ (⟨some 29, _, _, _, _, _⟩ :: _) _ _); refine wpList_load_rowW (o := ⟨some 29, .load 25 _, _, _, _, _⟩) (by kernel_rfl) 25 _ rfl w.heap.size rfl 25 _ (0, 0) _ HJ.out.fn Tryz.underlying25 rfl size_func ?_)
           | ((with_reducible show wpList _ _ _ (⟨some 31, _, _, _, _, _⟩ :: _) _ _); refine wpList_load_rowW (o := ⟨some 31, .load 107 _, _, _, _, _⟩) (by kernel_rfl) 107 _ rfl (w.heap.size + 1) rfl 107 _ (0, 0) _ HJ.out.inn Tryz.underlying107 rfl (by rw [setA_size]; exact size_rset) ?_)
           | (go_at_call 98
              (with_reducible refine (behind17_any pa pn pc ba bn bc bs b inn wr (H.out.ext HJ.out.below) HG.out hb200 HC.out (HIN.out b)).mono ?_)
              rintro e w2 ⟨rfl, hb2⟩;have HB2 := Lib.hid hb2;have HJ2 := Lib.hid (HJ.out.ext hb2)
              clear hb2))
          clear hix;cases wb with
          | false =>
            have HN := Lib.hid (HSK.out (.inr (.inr HWB.out.symm)) w2 HB2.out);go_wp2
            go_roundw
            case rel => exact ⟨b + 1, by omega, by go_num, HN⟩
            case measure => simp [intOf]; omega
          | true =>
            clear HSK ci cd k1;have hfd := loop_found HC.out HIB.out.symm HDB.out.symm HWB.out.symm;have hkt := fun x => knot_two (ts := tsOf bs) (b := b) HC.out x;have hkl : ∀ y, knotS (tsOf bs) b inn y = true → 1 ≤ y ∧ y < bn := fun y hy => by rw [← HTL.out]; exact knot_low HF.out HC.out hy
            have hkc : Canon (knotS (tsOf bs) b inn) := knot_canon HC.out b;have hkb : knotS (tsOf bs) b inn b = true := by rw [hkt b, ← HWB.out]; rfl
            obtain ⟨K, hK⟩ : ∃ K, K = knotS (tsOf bs) b inn := ⟨_, rfl⟩
            rw [← hK] at hkl hkc hkb;simp only [← hK] at hfd hkt;have HKT := Lib.hid hkt;have HKL := Lib.hid hkl;have HKC := Lib.hid hkc;have HKB := Lib.hid hkb;have HFD := Lib.hid hfd;obtain ⟨dd, hdd⟩ : ∃ d, d = donD (tsOf bs) f inn b := ⟨_, rfl⟩
            rw [← hdd] at HJ2 HJ;have HDD := Lib.hid hdd;clear hkt hkl hkc hkb hK hfd hdd;have hown : ∀ k, u5.ownBlock = some k → k < w2.heap.size := fun k hk => (OwnR.low HJ2.out.out hk).2;have hSl : w.heap.size + 1 + 1 < w2.heap.size := lt_of_heap HJ2.out.done;go_upto_region 8 with (fail)
            obtain ⟨S, hSd⟩ : ∃ S, S = w2.heap.size := ⟨_, rfl⟩
            obtain ⟨W3, hW3⟩ : ∃ W, W = w2.alloc (.cells Tryz.zeroCells107 107) := ⟨_, rfl⟩
            rw [← hW3, ← hSd];rw [← hSd] at hown hSl;have hj3 : LpJ w (funcO pa pn pc ba bn bc) inn (orS dd K 0) u5 (outD (tsOf bs) f inn b) W3 := by rw [orS_zero, hW3]; exact HJ2.out.ext (ext_alloc _ _)
            have hs3 : W3.heap[S]? = some (rsetO (upS K 0)) := by rw [hW3, hSd, heap_alloc_new, zero_rset, upS_zero]
            have HJ3 := Lib.hid hj3;have HSJ3 := Lib.hid hs3;have HOW := Lib.hid hown;clear hW3 hSd hj3 hs3 hown HJ HJ2 HB2;go_wp2
            go_loopw [9] (fun s9 wi => ∃ x : Nat, x ≤ bn ∧ s9 = .int .i64 (x : Int) ∧ Hid (LpJ w (funcO pa pn pc ba bn bc) inn (orS dd K x) u5 (outD (tsOf bs) f inn b) wi) ∧ Hid (wi.heap[S]? = some (rsetO (upS K x)))) (fun s9 _ => bn - (intOf s9).toNat)
            case atStart => exact ⟨0, by omega, rfl, HJ3, HSJ3⟩
            case round =>
             obtain ⟨x, hx, rfl, HJi, HSJi⟩ := hrel;clear HJ3 HSJ3;have kf := HJi.out.fn;have k1 : wr.cell? ⟨w.heap.size, 1, none⟩ = some (.slice ba bn bc) := by rw [cell_of_row _ _ _ _ _ _ kf]; rfl
             clear kf;by_cases hxl : x < bn
             · have hxl' : (x : Int) < (bn : Int) := by omega
               have hx200 : x < 200 := by omega
               go_upto_region 11 with (fail)
               go_cut [] (fun wx => Hid (LpJ w (funcO pa pn pc ba bn bc) inn (orS dd K x) u5 (outD (tsOf bs) f inn b) wx) ∧ Hid (wx.heap[S]? = some (rsetO (upS K (x + 1)))))
               case first =>
                clear k1;have hkx := HKT.out x;obtain ⟨bv, hbv⟩ : ∃ z, z = walkF (nx (tsOf bs)) inn b x := ⟨_, rfl⟩
                obtain ⟨cv, hcv⟩ : ∃ z, z = walkF (nx (tsOf bs)) inn x b := ⟨_, rfl⟩
                rw [← hbv, ← hcv] at hkx;have hix : ∀ w9, (Instr.index 107 (.agg (setA (walkF (nx (tsOf bs)) inn b))) (.int .i64 (x : Int))).run Tryz.prog w9 = .ok (.bool bv) w9 := fun w9 => by rw [hbv]; exact index_rset w9 _ x hx200
                have hiy : ∀ w9, (Instr.index 107 (.agg (setA (walkF (nx (tsOf bs)) inn x))) (.int .i64 (b : Int))).run Tryz.prog w9 = .ok (.bool cv) w9 := fun w9 => by rw [hcv]; exact index_rset w9 _ b hb200
                have HKX := Lib.hid hkx;clear hbv hcv hkx;cases bv with
                | false =>
                  go_wp2_with (first
                   | ((with_reducible show wpList _ _ _ (⟨some 45, _, _, _, _, _⟩ :: _) _ _); refine wpList_load_rowW (o := ⟨some 45, .load 25 _, _, _, _, _⟩) (by kernel_rfl) 25 _ rfl w.heap.size rfl 25 _ (0, 0) _ HJi.out.fn Tryz.underlying25 rfl size_func ?_)
                   | ((with_reducible show wpList _ _ _ (⟨some 47, _, _, _, _, _⟩ :: _) _ _); refine wpList_load_rowW (o := ⟨some 47, .load 107 _, _, _, _, _⟩) (by kernel_rfl) 107 _ rfl (w.heap.size + 1) rfl 107 _ (0, 0) _ HJi.out.inn Tryz.underlying107 rfl (by rw [setA_size]; exact size_rset) ?_)
                   | (go_at_call 98
                      (with_reducible refine (behind17_any pa pn pc ba bn bc bs b inn wr (H.out.ext HJi.out.below) HG.out hb200 HC.out (HIN.out b)).mono ?_)
                      rintro e w4 ⟨rfl, hb9⟩;have HJ4 := Lib.hid (HJi.out.ext hb9);have HSJ4 := Lib.hid (block_ext hb9 HSJi.out);clear hb9;have hcs := rset_cell HSJ4.out x hx200
                      have hfs := rset_free HSJ4.out x))
                  go_meet
                  exact ⟨HJ4.out.other hSl HOW.out false, rset_to HSJ4.out hx200 (upS_step K x (by rw [HKX.out]; rfl))⟩
                | true =>
                  go_wp2_with (first
                   | ((with_reducible show wpList _ _ _ (⟨some 45, _, _, _, _, _⟩ :: _) _ _); refine wpList_load_rowW (o := ⟨some 45, .load 25 _, _, _, _, _⟩) (by kernel_rfl) 25 _ rfl w.heap.size rfl 25 _ (0, 0) _ HJi.out.fn Tryz.underlying25 rfl size_func ?_)
                   | ((with_reducible show wpList _ _ _ (⟨some 47, _, _, _, _, _⟩ :: _) _ _); refine wpList_load_rowW (o := ⟨some 47, .load 107 _, _, _, _, _⟩) (by kernel_rfl) 107 _ rfl (w.heap.size + 1) rfl 107 _ (0, 0) _ HJi.out.inn Tryz.underlying107 rfl (by rw [setA_size]; exact size_rset) ?_)
                   | ((with_reducible show wpList _ _ _ (⟨some 52, _, _, _, _, _⟩ :: _) _ _); refine wpList_load_rowW (o := ⟨some 52, .load 25 _, _, _, _, _⟩) (by kernel_rfl) 25 _ rfl w.heap.size rfl 25 _ (0, 0) _ HJ4.out.fn Tryz.underlying25 rfl size_func ?_)
                   | ((with_reducible show wpList _ _ _ (⟨some 54, _, _, _, _, _⟩ :: _) _ _); refine wpList_load_rowW (o := ⟨some 54, .load 107 _, _, _, _, _⟩) (by kernel_rfl) 107 _ rfl (w.heap.size + 1) rfl 107 _ (0, 0) _ HJ4.out.inn Tryz.underlying107 rfl (by rw [setA_size]; exact size_rset) ?_)
                   | (go_at_call 98
                      (with_reducible refine (behind17_any pa pn pc ba bn bc bs x inn w4 (H.out.ext HJ4.out.below) HG.out hx200 HC.out (HIN.out x)).mono ?_)
                      rintro e w5 ⟨rfl, hb9⟩;have HJ5 := Lib.hid (HJ4.out.ext hb9);have HSJ5 := Lib.hid (block_ext hb9 HSJ4.out);clear hb9;have hcs := rset_cell HSJ5.out x hx200
                      have hfs := rset_free HSJ5.out x)
                   | (go_at_call 98
                      (with_reducible refine (behind17_any pa pn pc ba bn bc bs b inn wr (H.out.ext HJi.out.below) HG.out hb200 HC.out (HIN.out b)).mono ?_)
                      rintro e w4 ⟨rfl, hb9⟩;have HJ4 := Lib.hid (HJi.out.ext hb9);have HSJ4 := Lib.hid (block_ext hb9 HSJi.out)
                      clear hb9))
                  go_meet
                  exact ⟨HJ5.out.other hSl HOW.out cv, rset_to HSJ5.out hx200 (upS_step K x (by rw [HKX.out, Bool.true_and]))⟩
               case rest =>
                obtain ⟨hj5, hs5⟩ := hcut;have cd := rset_cell hj5.out.done x hx200;have fd := rset_free hj5.out.done x;have cs := rset_cell hs5.out x hx200;rw [orS_at] at cd;rw [show upS K (x + 1) x = K x by simp [upS]] at cs;have hsl := lt_of_heap hj5.out.done;obtain ⟨kx, hkx⟩ : ∃ z, z = K x := ⟨_, rfl⟩
                obtain ⟨dx, hdx⟩ : ∃ z, z = dd x := ⟨_, rfl⟩
                rw [← hkx] at cs;rw [← hdx] at cd;have HKX := Lib.hid hkx;have HDX := Lib.hid hdx
                have HNX : Hid (∀ v, v = (dd x || K x) → LpJ w (funcO pa pn pc ba bn bc) inn (orS dd K (x + 1)) u5 (outD (tsOf bs) f inn b) (wc.setCell ⟨w.heap.size + 1 + 1, x, none⟩ (.bool v)) ∧ (wc.setCell ⟨w.heap.size + 1 + 1, x, none⟩ (.bool v)).heap[S]? = some (rsetO (upS K (x + 1)))) := fun v hv =>
                 ⟨hj5.out.mark hx200 (orS_step dd K x hv), grown_row (grown_setCell wc (w.heap.size + 1 + 1) x (.bool v)) hs5.out (by simp; omega)⟩
                clear hkx hdx;cases dx with
                | true =>
                  have HN := Lib.hid (HNX.out true (by rw [← HDX.out]; rfl));go_wp2
                  go_roundw
                  case rel => exact ⟨x + 1, by omega, by go_num, HN.out.1, HN.out.2⟩
                  case measure => simp [intOf]; omega
                | false =>
                  have HN := Lib.hid (HNX.out kx (by rw [← HDX.out, HKX.out]; rfl));go_wp2
                  go_roundw
                  case rel => exact ⟨x + 1, by omega, by go_num, HN.out.1, HN.out.2⟩
                  case measure => simp [intOf]; omega
             · obtain rfl : x = bn := by omega
               have hj4 : LpJ w (funcO pa pn pc ba x bc) inn (donD (tsOf bs) f inn (b + 1)) u5 (outD (tsOf bs) f inn b) wr := by
                have e : orS dd K x = donD (tsOf bs) f inn (b + 1) := orS_end (fun y hy => (HKL.out y hy).2) (fun y => by rw [HFD.out.1 y, HDD.out]);rw [← e]; exact HJi.out
               have hs4 : wr.heap[S]? = some (rsetO K) := by rw [← upS_end (K := K) (n := x) (fun y hy => (HKL.out y hy).2)]; exact HSJi.out
               have HJ4 := Lib.hid hj4;have HSJ4 := Lib.hid hs4;have HLN2 : Hid ((outD (tsOf bs) f inn (b + 1)).length ≤ 1000) := Nat.le_trans (out_len (f := f) (inn := inn) (by rw [HTL.out]; exact hbn) (by rw [HTL.out]; exact HIN.out) (b := b + 1) (by rw [HTL.out]; omega)) HLEN.out;have hE0 := entered HF.out HKC.out HKB.out (fun y hy => by rw [HTL.out]; exact HKL.out y hy);have HME : Hid (∀ e, e ∈ entriesS (tsOf bs) K → K e = true) := fun e he => ((mem_entries HKC.out e).1 he).1;obtain ⟨E, hE⟩ : ∃ E, E = entriesS (tsOf bs) K := ⟨_, rfl⟩
               rw [← hE] at hE0 HME;have HEE := Lib.hid hE;have HFD2 := HFD.out.2;rw [← hE] at HFD2;have HFO := Lib.hid HFD2;clear hj4 hs4 HJi HSJi hE HFD2 HFD
               go_upto_region 14 with (first
                | (refine wpList_load_row (o := ⟨some 70, .load 25 _, _, _, _, _⟩) rfl 25 _ rfl w.heap.size rfl 25 _ (0, 0) _ HJ4.out.fn Tryz.underlying25 rfl size_func ?_)
                | (refine wpList_load_row (o := ⟨some 71, .load 107 _, _, _, _, _⟩) rfl 107 _ rfl S rfl 107 _ (0, 0) _ HSJ4.out Tryz.underlying107 rfl (by rw [setA_size]; exact size_rset) ?_)
                | (go_at_call 107
                   refine (entries17_any pa pn pc ba x bc bs K wr (H.out.ext HJ4.out.below) HG.out).mono ?_;rintro e w6 ⟨ve, rfl, hoe, hbe⟩;rw [← HEE.out] at hoe;have hel : (intsN E).length = E.length := (by simp [intsN])
                   obtain ⟨ea, ec, rfl⟩ := hoe.form;have hoe2 := hoe.ints;have HOE6 := Lib.hid hoe;rw [hel] at hoe2 ⊢;have HE6 := Lib.hid hoe2;have HJ6 := Lib.hid (HJ4.out.ext hbe);have HSJ6 := Lib.hid (block_ext hbe HSJ4.out);have HSZ6 := Lib.hid (lt_of_heap HSJ4.out)
                   clear hoe hoe2 hbe hel))
               clear HJ4 HSJ4;have hel0 : 0 < E.length := List.length_pos_iff.2 hE0;clear hE0;by_cases h1 : 1 < E.length
               · have h1' : ((E.length : Int) != 1) = true := by simp; omega
                 rw [if_pos h1] at HFO;have HFO1 : Hid (outD (tsOf bs) f inn (b + 1) = outD (tsOf bs) f inn b ++ [⟨K, 3, -1⟩]) := HFO.out;clear HFO;obtain ⟨va, vc, rfl⟩ := HJ6.out.out.form;obtain ⟨m, hm⟩ : ∃ m, m = (outD (tsOf bs) f inn b).length := ⟨_, rfl⟩
                 have hm1 : m + 1 ≤ 1000 := by have := HLN2.out; rw [HFO1.out] at this; simp at this; omega
                 rw [← hm] at HJ6 HOW ⊢;have hown6 := HJ6.out.out.1;rw [← hm] at hown6;have HOWN6 := Lib.hid hown6;have HMM := Lib.hid hm;have hb6 : w.heap.size + 1 + 1 + 1 ≤ w6.heap.size := lt_of_heap HJ6.out.done;clear hm hown6
                 go_wp2_with (first
                  | (refine wpList_load_row (o := ⟨some 77, .load 107 _, _, _, _, _⟩) rfl 107 _ rfl S rfl 107 _ (0, 0) _ HSJ6.out Tryz.underlying107 rfl (by rw [setA_size]; exact size_rset) ?_)
                  | (refine wpList_pt (o := ⟨some 78, .build 112 _, _, _, _, _⟩) rfl _ _ _ K 3 (-1) rfl rfl rfl rfl ?_)
                  | (refine wpList_rowPt (o := ⟨some 79, .buildSlice _ _ _, _, _, _, _⟩) rfl _ ⟨K, 3, -1⟩ rfl rfl ?_)
                  | (refine wpList_append1 (o := ⟨some 80, .call _, _, _, _, _⟩) rfl w6 (.tmp 76) (.tmp 79) 104 112 rfl (w.heap.size + 1 + 1 + 1) _ 202 216 Tryz.underlying104 infoPt (by kernel_rfl) (by omega) (.slice va m vc) m _ (ptC ⟨K, 3, -1⟩) rfl HOWN6.out w6.heap.size rfl rfl (ptC_len _) (ptC_one _) (by simp only [maxLen]; omega) (by omega) hb6 ?_
                     intro g cap w7 hown7 hg7 hat7;have HJ7 := Lib.hid (LpJ.app HJ6.out HMM.out hm1 hown7 hg7)
                     clear hown7 hg7 hat7))
                 go_roundw
                 case rel => exact ⟨b + 1, by omega, by go_num, by rw [HFO1.out]; exact HJ7⟩
                 case measure => simp [intOf]; omega
               · have hE1 : E = [E.headD 0] := entries_one (fun e => by rw [e] at hel0; simp at hel0) h1;obtain ⟨e0, he0⟩ : ∃ e0, e0 = E.headD 0 := ⟨_, rfl⟩
                 rw [← he0] at hE1;rw [if_neg h1, ← he0] at HFO;have HFO1 : Hid (outD (tsOf bs) f inn (b + 1) = outD (tsOf bs) f inn b ++ ⟨K, 2, (e0 : Int)⟩ :: loopsP (tsOf bs) f (lessS K e0)) := HFO.out;have hKe : K e0 = true := HME.out e0 (by rw [hE1]; simp);have he200 : e0 < 200 := HKC.out e0 hKe;subst hE1;have h11 : [e0].length = 1 := rfl;have HOE := HOE6.out;rw [h11] at HE6 ⊢;obtain ⟨eb, eo, rfl, hce0, _⟩ := HE6.out.2.2 0 (by simp);have hce : w6.cell? ⟨eb, eo, none⟩ = some (.int .i64 (e0 : Int)) := hce0;obtain ⟨eg, ec', heq⟩ := own_form HOE.1 (by simp [intsN]);injection heq with heq _ _;injection heq with heq;injection heq with heq1 heq2;subst heq1 heq2;obtain ⟨ecur, heg⟩ := own_heap HOE;have hebl := (HOE.1.lt eb rfl).1;have HEG := Lib.hid heg;obtain ⟨va, vc, rfl⟩ := HJ6.out.out.form;obtain ⟨m, hm⟩ : ∃ m, m = (outD (tsOf bs) f inn b).length := ⟨_, rfl⟩
                 rw [← hm] at HJ6 HOW ⊢;have hmr : m + 1 + (loopsP (tsOf bs) f (lessS K e0)).length ≤ 1000 := by have := HLN2.out; rw [HFO1.out] at this; simp at this; omega
                 have hown6 := HJ6.out.out.1;rw [← hm] at hown6;have HOWN6 := Lib.hid hown6;have HMM := Lib.hid hm;have hb6 : w.heap.size + 1 + 1 + 1 ≤ w6.heap.size := lt_of_heap HJ6.out.done;have HNB : Hid ((Value.slice va m vc).ownBlock ≠ some eb) := fun e => by have := HOW.out eb e; have := HSZ6.out; omega
                 have HNS : Hid ((Value.slice va m vc).ownBlock ≠ some S) := fun e => by have := HOW.out S e; omega
                 have HSZ := Lib.hid (lt_of_heap HSJ6.out);clear hm hown6 HOE hce0 heg he0 h1 hel0 HFO;go_upto_region 16 with (fail)
                 have g1 : ∀ n : ClsW (fun W' => w6.grownBy W' (Value.slice va m vc).ownBlock), n.val.cell? ⟨eb, 0, none⟩ = some (.int .i64 (e0 : Int)) := fun n => by
                  have h1 := grown_row n.prop HEG.out HNB.out;rw [cell_of_row _ _ _ _ _ _ h1, ← cell_of_row _ _ _ _ _ _ HEG.out];exact hce
                 have g3 : ∀ w', (∃ n : ClsW (fun W' => w6.grownBy W' (Value.slice va m vc).ownBlock), w' = n.val) → w'.heap[S]? = some (rsetO K) := fun w' ⟨n, e⟩ => by rw [e]; exact grown_row n.prop HSJ6.out HNS.out
                 have hne : Nonempty (ClsW (fun W' => w6.grownBy W' (Value.slice va m vc).ownBlock)) := cls_ne (grown_same _ _);clear hce;refine region_mix (fun w' => ∃ n : ClsW (fun W' => w6.grownBy W' (Value.slice va m vc).ownBlock), w' = n.val) [(0, 6, some (6, true)), (7, 0, some (7, true)), (8, 1, none)] (by kernel_rfl) (by kernel_rfl) (cls_mk (grown_drew _ _)) ?_;simp only [wpMix, List.take_succ_cons, List.take_zero, List.drop_succ_cons, List.drop_zero]
                 repeat (first
                  | go_big_quiet_skip
                  | (refine wpQuiet_load_row (o := ⟨some 82, .load 107 _, _, _, _, _⟩) (by rfl) 107 _ rfl S rfl 107 (setA K) (0, 0) _ g3 Tryz.underlying107 rfl (by rw [setA_size]; exact size_rset) ?_; simp only [zJ,zG,zH,zI])
                  | (refine quiet_pt (o := ⟨some 86, .build 112 _, _, _, _, _⟩) (by rfl) _ _ _ K 2 (e0 : Int) rfl rfl rfl rfl ?_; simp only [zJ,zG,zH,zI])
                  | go_big_quiet_step (fail))
                 refine wpQuiet_nil ?_;refine wpOp_at rfl rfl ?_;refine op_rowPt _ ⟨K, 2, (e0 : Int)⟩ rfl rfl ?_;simp only [zJ,zG,zH,zI];refine ⟨cls_mk (grown_tr (grown_drew _ _) (World.grownBy_alloc _ _ _)), ?_⟩;refine wpQuiet_nil ?_;refine wpOp_at rfl rfl ?_;refine op_append1 w6.drew (.tmp 81) (.tmp 87) 104 112 rfl (w.heap.size + 1 + 1 + 1) _ 202 216 Tryz.underlying104 infoPt (by kernel_rfl) (by omega) (.slice va m vc) m _ (ptC ⟨K, 2, (e0 : Int)⟩) rfl (by have := (HJ6.out.out.ext (drew_ext w6)).1; rwa [← HMM.out] at this) w6.heap.size rfl rfl (ptC_len _) (ptC_one _) (by simp only [maxLen]; omega) (by omega) hb6 ?_;intro g cap w7 hown7 hg7 hat7;have hgg : w6.grownBy w7 (Value.slice va m vc).ownBlock := grown_tr (grown_drew _ _) hg7;have HJ7 := Lib.hid (LpJ.app HJ6.out HMM.out (by omega) hown7 hgg);have HSJ7 := Lib.hid (grown_row hgg HSJ6.out HNS.out);have HE7 : Hid (w7.cell? ⟨eb, 0, none⟩ = some (.int .i64 (e0 : Int))) := by
                  have h1 := g1 ⟨w7, hgg⟩;exact h1
                 have HS7 := Lib.hid hgg.size;have hown7' := hown7;have HOWN7 := Lib.hid hown7';have HAT7 := Lib.hid hat7;refine ⟨cls_mk hgg, ?_⟩;simp only [zJ,zG,zH,zI];clear hown7 hown7' hg7 hat7 hgg g1 g3 hne HJ6 HSJ6 HEG HOWN6 HOE6 HE6
                 repeat (go_big_quiet_step (fail))
                 refine wpQuiet_nil ?_;refine NoPanic.normal ?_;obtain ⟨v7, hv7⟩ : ∃ v, v = Value.slice (some ⟨g, 0, none⟩) (m + 1) cap := ⟨_, rfl⟩
                 have hob7 : ∀ k, v7.ownBlock = some k → k < w7.heap.size := fun k hk => by
                  rw [hv7] at hk; exact (HOWN7.out.lt k hk).2
                 have HOB7 := Lib.hid hob7;have HV7 := Lib.hid hv7;clear hv7 hob7;have hne7 := HE7.out;have hsz7 := HS7.out
                 go_upto_region 18 with (first
                  | ((with_reducible show wpList _ _ _ (⟨some 89, _, _, _, _, _⟩ :: _) _ _); refine wpList_load_row (o := ⟨some 89, .load 107 _, _, _, _, _⟩) rfl 107 _ rfl S rfl 107 _ (0, 0) _ HSJ7.out Tryz.underlying107 rfl (by rw [setA_size]; exact size_rset) ?_)
                  | ((with_reducible show wpList _ _ _ (⟨none, _, _, _, _, _⟩ :: _) _ _); refine wpList_store_row (o := ⟨none, .store 107 _ _, _, _, _, _⟩) rfl 107 _ _ rfl w7.heap.size (setA K) rfl rfl 107 _ (heap_alloc_new _ _) (by rw [setA_size]; exact size_rset) rfl (setA_all _) ?_))
                 obtain ⟨R2, hR2⟩ : ∃ R, R = w7.heap.size := ⟨_, rfl⟩
                 obtain ⟨W8, hW8⟩ : ∃ W, W = (w7.alloc (.cells Tryz.zeroCells107 107)).setRow w7.heap.size (setA K) := ⟨_, rfl⟩
                 rw [← hW8, ← hR2, put_none];have hr8 : W8.heap[R2]? = some (rsetO K) := by rw [hW8, hR2]; exact setRow_heap _ _ _ _ _ _ (heap_alloc_new _ _)
                 have hb8 : Below w7.heap.size w7 W8 := by rw [hW8]; exact below_setRow (ext_alloc _ _) (Nat.le_refl _) _
                 have he8 := cell_ext hb8 hne7;have hcR := rset_cell hr8 e0 he200;have hfR := rset_free hr8 e0;have hlR := lt_of_heap hr8;have HR8 := Lib.hid hr8;have HB8 := Lib.hid hb8;have HR2 := Lib.hid hR2;rw [hKe] at hcR;clear hW8 hR2 hr8 hb8 hne7 hsz7 HSJ7;go_upto_region 19 with (fail)
                 obtain ⟨W9, hW9⟩ : ∃ W, W = W8.setCell ⟨R2, e0, none⟩ (.bool false) := ⟨_, rfl⟩
                 rw [← hW9];have hr9 : W9.heap[R2]? = some (rsetO (lessS K e0)) := by rw [hW9]; exact rset_to HR8.out he200 (by funext k; simp only [lessS]; by_cases e : k = e0 <;> simp [e])
                 have hb9 : Below w7.heap.size w7 W9 := by rw [hW9]; exact HB8.out.setCell (by show w7.heap.size ≤ R2; rw [HR2.out]; exact Nat.le_refl _) _
                 have HR9 := Lib.hid hr9;have HB9 := Lib.hid hb9;have HJ9 := Lib.hid (HJ7.out.ext hb9);have hlt9 : (listS (lessS K e0)).length < f := by
                  have h1 := less_len (s := K) (inn := inn) (fun y hy => by rw [HKT.out y, Bool.and_eq_true] at hy; exact ((walkF_iff HC.out b y).1 hy.1).2.inn) HC.out hKe;have := HLT.out;omega
                 have HLT9 := Lib.hid hlt9;have HLC9 : Hid (Canon (lessS K e0)) := less_canon HKC.out e0;have HLL9 : Hid (∀ y, lessS K e0 y = true → y < x) := fun y hy => (HKL.out y (mem_less.1 hy).2).2;clear hW9 hr9 hb9 hlt9 hcR hfR hlR he8 HR8 HB8 HR2;obtain ⟨N, hN⟩ : ∃ N, N = loopsP (tsOf bs) f (lessS K e0) := ⟨_, rfl⟩
                 rw [← hN] at hmr;have HNN := Lib.hid hN;clear hN
                 go_wp2_with (first
                  | ((with_reducible show wpList _ _ _ (⟨some 95, _, _, _, _, _⟩ :: _) _ _); refine wpList_load_row (o := ⟨some 95, .load 25 _, _, _, _, _⟩) rfl 25 _ rfl w.heap.size rfl 25 _ (0, 0) _ HJ9.out.fn Tryz.underlying25 rfl size_func ?_)
                  | ((with_reducible show wpList _ _ _ (⟨some 96, _, _, _, _, _⟩ :: _) _ _); refine wpList_load_row (o := ⟨some 96, .load 107 _, _, _, _, _⟩) rfl 107 _ rfl R2 rfl 107 _ (0, 0) _ HR9.out Tryz.underlying107 rfl (by rw [setA_size]; exact size_rset) ?_)
                  | (go_at_call 72
                     refine (IH.out (lessS K e0) W9 (H.out.ext HJ9.out.below) HLC9.out HLL9.out (by rw [← HNN.out]; omega) HLT9.out).mono ?_;rintro e w10 ⟨v10, rfl, hp10, hb10⟩;rw [← HNN.out] at hp10;obtain ⟨na, nc, rfl⟩ := hp10.form;obtain ⟨nl, hnl⟩ : ∃ k, k = N.length := ⟨_, rfl⟩
                     rw [← hnl] at hp10 hmr ⊢;have HNL := Lib.hid hnl;have HP10 := Lib.hid hp10;have HJ10 := Lib.hid (HJ9.out.ext hb10);have hb10' : w.heap.size + 1 + 1 + 1 ≤ w10.heap.size := lt_of_heap HJ10.out.done
                     clear hp10 hb10 hnl)
                  | ((with_reducible show wpList _ _ _ (⟨some 98, _, _, _, _, _⟩ :: _) _ _); refine wpList_appendR (o := ⟨some 98, .call _, _, _, _, _⟩) w10 rfl (.tmp 94) (.tmp 97) 104 112 rfl (w.heap.size + 1 + 1 + 1) _ 202 216 Tryz.underlying104 infoPt (by kernel_rfl) (by omega) (.slice (some ⟨g, 0, none⟩) (m + 1) cap) (m + 1) _ rfl (by have := HJ10.out.out.1; rw [List.length_append, ← HMM.out] at this; exact this) na nl nc rfl (N.flatMap ptC) (by rw [HNL.out]; exact flatMap_len ptC 202 ptC_len N) (Recs.news (OwnR.recs ptC_len HP10.out) ptC_len (by omega)) (fun u hu => by obtain ⟨p, _, hp⟩ := List.mem_flatMap.1 hu; exact ptC_one p u hp) (by simp only [maxLen]; omega) (by omega) hb10' ?_
                     intro v' w11 hown11 hg11 hat11;have HJ11 := Lib.hid (LpJ.appL HJ10.out (by rw [List.length_append, HMM.out]; rfl) HNL.out (by omega) hown11 hg11)
                     clear hown11 hg11 hat11))
                 go_roundw
                 case rel => exact ⟨b + 1, by omega, by go_num, by rw [HFO1.out, show (⟨K, 2, (e0 : Int)⟩ : PartD) :: loopsP (tsOf bs) f (lessS K e0) = [⟨K, 2, (e0 : Int)⟩] ++ N by rw [HNN.out]; rfl, ← List.append_assoc]; exact HJ11⟩
                 case measure => simp [intOf]; omega
    · obtain rfl : b = bn := by omega
      have HE : Hid (outD (tsOf bs) f inn b = loopsP (tsOf bs) (f + 1) inn) := by rw [Hid, ← HTL.out]; exact out_end (by rw [HTL.out]; exact hbn) (by rw [HTL.out]; exact HIN.out)
      obtain ⟨va, vc, rfl⟩ := HJ.out.out.form;go_wp2
      go_ret
      exact ⟨_, rfl, by rw [← HE.out]; exact HJ.out.out.mono (by omega), HJ.out.below⟩
end
end Go.Proofs.YtblhmdhfhaencaaGreat
