/-
 TileRight: a slice of tiles copied, and one of them turned.
-/
import Derived.Test.YtblhmdhfhaencaaCP
import Derived.Test.YtblhmdhfhaencaaQO
import Derived.Test.YtblhmdhfhaencaaFlatBase
import Derived.Test.YtblhmdhfhaencaaTL
import Derived.Test.YtblhmdhfhaencaaVP
import Derived.Test.YtblhmdhfhaencaaQR
import Derived.Test.YtblhmdhfhaencaaEQ
import Derived.Test.YtblhmdhfhaencaaMidR
import Derived.Test.YtblhmdhfhaencaaTD
import Derived.Test.YtblhmdhfhaencaaTI
namespace Go.Proofs.Ytblhmdhfhaencaa
set_option linter.unusedSimpArgs false
set_option linter.unusedVariables false
set_option linter.unusedSectionVars false
set_option maxRecDepth 100000
set_option maxHeartbeats 40000000
section
open Go.RowKit

theorem totL_set : ∀ (l : List TileD) (k : Nat) (t : TileD), totL (l.set k t) ≤ totL l + t.blocks.length
 | [], k, t => by simp [totL]
 | x :: l, 0, t => by simp [totL]; omega
 | x :: l, k + 1, t => by
   have := totL_set l k t
   simp only [totL, List.set_cons_succ, List.map_cons, List.sum_cons] at this ⊢
   omega
theorem td_set2 (ls : List TileR) (k : Nat) (x : TileR) : tdOf (ls.set k x) = (tdOf ls).set k x.d := by simp [tdOf, List.map_set]
/-- what each tile of a slice is -/
def EachT (w : World) (ls : List TileR) : Prop := ∀ t ∈ ls, Ints w t.ba t.bn t.d.blocks ∧ t.bn ≤ t.bc ∧ I64 t.d.kind ∧ I64 t.d.parent
theorem EachT.ext {w w' : World} {ls : List TileR} (h : EachT w ls) (hb : Below w.heap.size w w') : EachT w' ls := fun t ht => ⟨(h t ht).1.ext hb, (h t ht).2⟩
theorem EachT.set {w : World} {ls : List TileR} (h : EachT w ls) (k : Nat) {t : TileR} (ht : Ints w t.ba t.bn t.d.blocks ∧ t.bn ≤ t.bc ∧ I64 t.d.kind ∧ I64 t.d.parent) : EachT w (ls.set k t) := fun s hs => by
 rcases List.mem_or_eq_of_mem_set hs with hs | hs
 · exact h s hs
 · rw [hs]; exact ht
abbrev rowT (w : World) (base : Nat) (v : Value) (ls : List TileR) : Prop := w.ownsRow base 53 3 v ls.length (ls.flatMap tileC)
theorem trow_ok {w : World} {base : Nat} {a : Option Addr} {n c : Nat} {ls : List TileR} (h : w.ownsRow base 53 3 (.slice a n c) n (ls.flatMap tileC)) (hn : ls.length = n) (he : EachT w ls) (hl : n ≤ 1000) : TilesOK w a n ls := by
 subst hn
 obtain ⟨a', c', e, h1, _⟩ := recs_of_own tileC_len h (by omega)
 injection e with e1 e2 e3
 subst e1
 exact ⟨h1, he⟩
/-- the copy has a row of its own, in which each tile's blocks stand -/
theorem trow_form {w : World} {base : Nat} {v : Value} {n : Nat} {ls : List TileR} (h : w.ownsRow base 53 3 v n (ls.flatMap tileC)) (hl : ls.length = n) (hn : 0 < n) (hn2 : n ≤ 1000) : ∃ g cap cur, v = .slice (some ⟨g, 0, none⟩) n cap ∧ base ≤ g ∧ n ≤ cap ∧ w.heap[g]? = some (.cells cur 53 (0, 0)) ∧ ∀ k t, ls[k]? = some t → w.cell? ⟨g, k * 3 + 2, none⟩ = some (bsV t) ∧ w.frozen? ⟨g, k * 3 + 2, none⟩ = false := by
 subst hl
 obtain ⟨a', c', e, h1, _⟩ := recs_of_own tileC_len h (by omega)
 rcases h.2 with ⟨_, h0⟩ | ⟨g, cap, cur, rfl, hb, hg, hcap, _⟩
 · omega
 · refine ⟨g, cap, cur, rfl, hb, hcap, hg, fun k t hk => ⟨?_, frozen_of_row _ _ _ _ _ hg⟩⟩
   injection e with e1 e2 e3
   subst e1
   obtain ⟨b, o, e, hc⟩ := h1.2.2 k t hk
   injection e with e
   injection e with e1 e2
   subst e1 e2
   have := hc 2 (by omega)
   rw [Nat.zero_add] at this
   exact this
/-- one tile's blocks turned in the copy -/
theorem trow_turn {w : World} {base g n c k : Nat} {ls : List TileR} {t t' : TileR} (h : w.ownsRow base 53 3 (.slice (some ⟨g, 0, none⟩) n c) n (ls.flatMap tileC)) (hk : ls[k]? = some t) (he : t'.d.kind = t.d.kind ∧ t'.d.parent = t.d.parent) :
  (w.setCell ⟨g, k * 3 + 2, none⟩ (bsV t')).ownsRow base 53 3 (.slice (some ⟨g, 0, none⟩) n c) n ((ls.set k t').flatMap tileC) := by
 rw [← flat_set3 ls k t t' hk he]
 exact (h.stored (k * 3 + 2) (bsV t')).1
theorem blocks_totL : ∀ (l : List TileD) (k : Nat) (t : TileD), l[k]? = some t → t.blocks.length ≤ totL l
 | x :: l, 0, t, h => by
   simp only [List.getElem?_cons_zero, Option.some.injEq] at h
   subst h
   simp [totL]
 | x :: l, k + 1, t, h => by
   have := blocks_totL l k t (by simpa using h)
   simp only [totL, List.map_cons, List.sum_cons] at this ⊢
   omega
theorem pick_at (turn : Int) {n : Nat} (hn : 1 ≤ n) : ∃ k : Nat, pickI turn (n : Int) = (k : Int) ∧ k < n := by
 refine ⟨(turn % (n : Int)).toNat, ?_, ?_⟩
 · have := Int.emod_nonneg turn (b := (n : Int)) (by omega)
   rw [pickI, if_neg (by omega)]
   omega
 · have := Int.emod_nonneg turn (b := (n : Int)) (by omega)
   have := Int.emod_lt_of_pos turn (b := (n : Int)) (by omega)
   omega
theorem infoT3 : (Try.prog.info? 53).map (fun i => (i.zero, i.size, i.bytes)) = some (some (.agg #[.int .i64 0, .int .i64 0, .slice none 0 0]), 3, 40) := by kernel_rfl
theorem flatT_one (ls : List TileR) : ∀ u ∈ ls.flatMap tileC, u.oneCell' = true := by
 intro u hu
 obtain ⟨t, _, h⟩ := List.mem_flatMap.1 hu
 simp only [tileC, List.mem_cons, List.not_mem_nil, or_false] at h
 rcases h with rfl | rfl | rfl <;> rfl
/-- append([]api.Tile{}, l...) -/
theorem wpList_tcopy {Q : Exit → Act → World → Prop} {ops : Array Oper} {rest : List Oper} {o : Oper} {a : Act} (W : World) (hgd : o.guard = none) (s x : Operand) (ho : o.op = .call { callee := .builtin .append, args := #[s, x], argTypes := #[26, 26] }) (H : Nat) (hH : W.heap.size = H)
  (hs : a.eval s = .slice (some ⟨H, 0, none⟩) 0 0) (A : Option Addr) (n c : Nat) (hx : a.eval x = .slice A n c) (ls : List TileR) (h : TilesOK W A n ls) (hn : 1 ≤ n) (hn2 : n ≤ 1000)
  (k : ∀ g cap w', Below W.heap.size W w' → w'.ownsRow W.heap.size 53 3 (.slice (some ⟨g, 0, none⟩) n cap) n (ls.flatMap tileC) → wpList Try.prog ops Q rest (a.put o.dst (.slice (some ⟨g, 0, none⟩) n cap)) w') :
  wpList Try.prog ops Q (o :: rest) a (W.alloc (.cells #[] 53)) := by
 subst hH
 refine wpList_appendR (W.alloc (.cells #[] 53)) hgd s x 26 53 ho W.heap.size _ 3 40 Try.underlying26 infoT3 rfl (by omega) (.slice (some ⟨W.heap.size, 0, none⟩) 0 0) 0 [] hs (World.ownsRow_lit W #[] 0 (by omega) (by unfold maxLen; omega) rfl) A n c hx (ls.flatMap tileC)
  (by rw [flatMap_len _ 3 tileC_len, h.1.1]) ((h.ext ((Below.refl _ W).alloc (Nat.le_refl _) _)).1.news tileC_len (by omega)) (flatT_one ls) (by unfold maxLen; omega) (by omega) (by simp) ?_
 intro v' w' ho hg hv
 rw [Nat.zero_add, List.nil_append] at ho
 obtain ⟨g, cap, cur, rfl, _⟩ := trow_form ho h.1.1 hn hn2
 exact k g cap w' (((Below.refl _ W).alloc (Nat.le_refl _) _).grown hg (by simp) (fun k hk => by simp [Value.ownBlock] at hk; omega)) ho
/-- all but the first -/
theorem ints_less {w : World} {b o n : Nat} {xs : List Int} (h : Ints w (some ⟨b, o, none⟩) n xs) (hn : 1 ≤ n) : Ints w (some ⟨b, o + 1, none⟩) (n - 1) (xs.drop 1) := by
 obtain ⟨h1, h2, h3⟩ := h
 refine ⟨by rw [List.length_drop, h1], by omega, fun k hk => ?_⟩
 obtain ⟨b', o', e, hc, hi⟩ := h3 (k + 1) (by omega)
 injection e with e
 injection e with e1 e2
 subst e1 e2
 have e : (xs.drop 1).getD k 0 = xs.getD (k + 1) 0 := by simp [List.getD_eq_getElem?_getD, Nat.add_comm]
 rw [e]
 exact ⟨b, o + 1, rfl, by rw [show o + 1 + k = o + (k + 1) by omega]; exact hc, hi⟩
theorem ints_less1 {w : World} {a : Option Addr} {xs : List Int} (h : xs.length = 1) : Ints w a 0 (xs.drop 1) := ⟨by rw [List.length_drop, h], by omega, fun k hk => by omega⟩
/-- the turned copy, at the end -/
theorem leaf_twice {W27 w : World} {g2 n cap2 kk : Nat} {ls : List TileR} {t t2 : TileR} (hk : ls[kk]? = some t) (he : t2.d.kind = t.d.kind ∧ t2.d.parent = t.d.parent) (FT : w.ownsRow W27.heap.size 53 3 (.slice (some ⟨g2, 0, none⟩) n cap2) n (ls.flatMap tileC)) (hl : ls.length = n) (hn : n ≤ 1000)
  (hE : EachT W27 ls) (E : Below W27.heap.size W27 w) (FD : OwnI w W27.heap.size (bsV t2) t2.d.blocks) (hne : (bsV t2).ownBlock ≠ some g2) : TilesOK (w.setCell ⟨g2, kk * 3 + 2, none⟩ (bsV t2)) (some ⟨g2, 0, none⟩) n (ls.set kk t2) := by
 have hg : W27.heap.size ≤ g2 := (FT.lt g2 rfl).1
 have g := grown_setCell w g2 (kk * 3 + 2) (bsV t2)
 have h1 := hE t (List.mem_of_getElem? hk)
 have h2 : OwnI (w.setCell ⟨g2, kk * 3 + 2, none⟩ (bsV t2)) W27.heap.size (bsV t2) t2.d.blocks := FD.kept g (.inr hne)
 have h3 := own_le FD
 refine trow_ok (trow_turn FT hk he) (by rw [List.length_set, hl]) (EachT.set (hE.ext (E.setCell hg _)) kk ⟨?_, h3, by rw [he.1, he.2]; exact h1.2.2⟩) hn
 obtain ⟨a', c', e⟩ := h2.form
 rw [bsV] at e
 injection e with e1 e2 e3
 have h5 : OwnI (w.setCell ⟨g2, kk * 3 + 2, none⟩ (bsV t2)) W27.heap.size (.slice t2.ba t2.d.blocks.length t2.bc) t2.d.blocks := by rw [← e2]; exact h2
 rw [e2]
 exact h5.ints
theorem add_zero0 (g j : Nat) : (⟨g, 0, none⟩ : Addr).add j = ⟨g, 0 + j, none⟩ := by
 simp only [Addr.add]
 split <;> simp_all
theorem ownI_of_row {w : World} {base g m c : Nat} {bl : List Int} {x : Int} (h : w.ownsRow base 3 1 (.slice (some ⟨g, 0, none⟩) m c) m (bl.map (Value.int .i64) ++ [.int .i64 x])) (hb : ∀ z ∈ bl, I64 z) (hx : I64 x) (hl : bl.length + 1 = m) (hm : m ≤ 1000) : OwnI w base (.slice (some ⟨g, 0, none⟩) m c) (bl ++ [x]) := by
 subst hl
 have e : intVals (bl ++ [x]) = bl.map (Value.int .i64) ++ [.int .i64 x] := by simp [intVals]
 refine ⟨by rw [e, List.length_append]; exact h, fun z hz => ?_, by simp; omega⟩
 rcases List.mem_append.1 hz with hz | hz
 · exact hb z hz
 · simp at hz; rw [hz]; exact hx
end

section
theorem build_rightK {ts : List TermD} {qs : List PartD} (hf : fitsB ts = true) (h : BuildOK ts qs) : rightB ts (tilesP ts.length qs) = true := build_right hf h.1 (by
 have hl := (fits_facts hf).2.1.2
 have hP := parts_listS hl (parts_ok hf)
 intro i j hij hj
 have h1 := h.2 i j hij hj
 have hm : ∀ k, k < qs.length → firstP (qs.getD k zPart) < 200 := fun k hk => (hP _ (h.1.mem_iff.2 (by rw [List.getD_eq_getElem?_getD, List.getElem?_eq_getElem hk]; exact List.getElem_mem _))).2.1
 have h2 := hm i (by omega)
 have h3 := hm j hj
 unfold keyP at h1
 omega)
theorem totL_le : ∀ (l : List TileD) (m : Nat), (∀ t ∈ l, t.blocks.length ≤ m) → totL l ≤ l.length * m
 | [], m, _ => by simp [totL]
 | t :: l, m, h => by
   have h1 := totL_le l m fun s hs => h s (by simp [hs])
   have h2 := h t (by simp)
   simp only [totL, List.map_cons, List.sum_cons, List.length_cons, Nat.add_mul] at h1 ⊢
   omega
theorem ownBl_len (n : Nat) (qs : List PartD) (j : Nat) : (ownBl n qs j).length ≤ n := by
 unfold ownBl intsN
 rw [List.length_map]
 have := List.length_filter_le (fun x => lastP qs x qs.length == j) (List.range n)
 rwa [List.length_range] at this
theorem tilesP_tot {ts : List TermD} {qs : List PartD} (hf : fitsB ts = true) (h : BuildOK ts qs) : (tilesP ts.length qs).length ≤ ts.length ∧ totL (tilesP ts.length qs) ≤ 40000 := by
 have hl := (fits_facts hf).2.1.2
 have h1 := parts_len hf
 rw [h.1.length_eq] at h1
 have h2 : (tilesP ts.length qs).length ≤ ts.length := by rw [tilesP_len]; exact h1
 refine ⟨h2, ?_⟩
 have h3 := totL_le (tilesP ts.length qs) ts.length fun t ht => by
  unfold tilesP at ht
  rcases List.mem_cons.1 ht with rfl | ht
  · exact ownBl_len _ _ _
  · obtain ⟨k, _, rfl⟩ := List.mem_map.1 ht
    exact ownBl_len _ _ _
 have h4 : (tilesP ts.length qs).length * ts.length ≤ 200 * 200 := Nat.mul_le_mul (by omega) (by omega)
 omega
end

section
/-- what TileParts asks of one tile -/
structure RdOK (ts : List TermD) (l : List TileD) (bn k : Nat) (kd : Int) (bl al en : List Int) (upn : Nat) : Prop where
 kind : kd = 1 ∨ kd = 2 ∨ kd = 3 ∨ kd = 4
 one : kd = 2 ∨ kd = 4 → ∃ e0 : Nat, en = [(e0 : Int)] ∧ bl.contains (e0 : Int) = true
 two : kd = 3 → 2 ≤ en.length
 root : k = 0 → en = []
 zero : kd = 1 ↔ k = 0
 less : 1 ≤ k → al.length < upn
 own : ∀ x ∈ bl, ∃ b : Nat, x = b ∧ b < bn ∧ ownF l b = k ∧ al.contains x = true
 low : ∀ x ∈ al, ∃ b : Nat, x = b ∧ b < bn
 ring : kd ≠ 2 → kd ≠ 3 → ∀ b : Nat, (b : Int) ∈ bl → walkF (nx ts) (setK l k) b b = false
 gate : kd = 2 → ∀ e0 : Nat, en = [(e0 : Int)] → ∀ b : Nat, (b : Int) ∈ bl → walkF (nx ts) (lessS (setK l k) e0) b b = false
 all : kd = 2 ∨ kd = 3 → ∀ (L : List Nat) (b : Nat), (b : Int) ∈ al → L.Nodup → (∀ y, L.contains y = walkF (nx ts) (setK l k) b y) → L.length = al.length
theorem rd_ok {ts : List TermD} {l : List TileD} (h : rightB ts l = true) {k : Nat} (hk : k < l.length) : RdOK ts l ts.length k (l.getD k zTile).kind (blkL l k) (allL l k) (intsN (entriesS ts (setK l k))) (allL l (parL l k)).length where
 kind := kind_four h hk
 one := fun h2 => by
  obtain ⟨e, he, hm⟩ := one_entry h hk h2
  exact ⟨e, by rw [he]; rfl, List.contains_iff_mem.2 hm⟩
 two := fun h3 => by have := two_entries h hk h3; simpa [intsN] using this
 root := fun h0 => by subst h0; rw [root_entries h hk]; rfl
 zero := (stands_all5 ((right_facts h).2.2.2.2.2 k hk).1).1.symm
 less := fun h1 => all_less h hk h1
 own := fun x hx => by
  have h1 := all_mem h hk (own_all h hk hx)
  obtain ⟨b, rfl⟩ : ∃ b : Nat, x = b := ⟨x.toNat, by omega⟩
  obtain ⟨h2, h3⟩ := own_of h hk hx
  exact ⟨b, rfl, h2, h3, List.contains_iff_mem.2 (own_all h hk hx)⟩
 low := fun x hx => by
  have h1 := all_mem h hk hx
  exact ⟨x.toNat, by omega, by omega⟩
 ring := fun h2 h3 b hb => no_ring h hk h2 h3 hb
 gate := fun h2 e0 he b hb => by
  have h1 := ring_entry h hk h2 hb
  have h3 : (entriesS ts (setK l k)).headD 0 = e0 := by
   cases e : entriesS ts (setK l k) with
   | nil => rw [e] at he; cases he
   | cons x r =>
     rw [e] at he
     simp only [intsN, List.map_cons, List.cons.injEq] at he
     simp only [List.headD_cons]
     omega
  rwa [h3] at h1
 all := fun h2 L b hb hn hL => by
  rw [all_len h hk]
  have hc := set_canon h hk
  have hs : setK l k b = true := (set_iff h hk b).2 hb
  rw [all_walk h hk h2 hs] at hL
  refine ((List.perm_ext_iff_of_nodup hn (List.Pairwise.filter _ List.nodup_range)).2 fun y => ?_).length_eq
  have e : y ∈ List.filter (setK l k) (List.range 200) ↔ setK l k y = true := mem_listS hc y
  rw [e, ← hL y, List.contains_iff_mem]
theorem set_in {ts : List TermD} {l : List TileD} (h : rightB ts l = true) {k : Nat} (hk : k < l.length) (y : Nat) : setK l k y = ((allL l k).contains (y : Int) && decide ((y : Int) ≠ -1)) := by
 have e : decide ((y : Int) ≠ -1) = true := by rw [decide_eq_true_eq]; omega
 rw [e, Bool.and_true, Bool.eq_iff_iff, set_iff h hk y, List.contains_iff_mem]
theorem less_in {ts : List TermD} {l : List TileD} (h : rightB ts l = true) {k : Nat} (hk : k < l.length) (e0 y : Nat) : lessS (setK l k) e0 y = ((allL l k).contains (y : Int) && decide ((y : Int) ≠ (e0 : Int))) := by
 rw [lessS, Bool.and_comm]
 congr 1
 · rw [Bool.eq_iff_iff, set_iff h hk y, List.contains_iff_mem]
 · rw [Bool.eq_iff_iff]; simp; omega
end

section
open Go.RowKit Go.Shelf
attribute [local go_sem] Oper.semAt_some wide_fn wide_depth wide_fnR wide_depthR

def encE (x : EdgeD) : Array Value := #[.agg #[.int .i64 x.fr, .int .i64 x.arm, .int .i64 x.to]]
theorem cell_heap {w w' : World} {b o : Nat} (h : w'.heap[b]? = w.heap[b]?) : w'.cell? ⟨b, o, none⟩ = w.cell? ⟨b, o, none⟩ := by
 unfold World.cell?
 simp only [h]
theorem Ints.heap {w w' : World} {a : Option Addr} {n : Nat} {xs : List Int} (h : Ints w a n xs) (hb : ∀ b o, a = some ⟨b, o, none⟩ → w'.heap[b]? = w.heap[b]?) : Ints w' a n xs :=
 ⟨h.1, h.2.1, fun k hk => by
  obtain ⟨b, o, e, hc, hi⟩ := h.2.2 k hk
  exact ⟨b, o, e, (cell_heap (hb b o e)).trans hc, hi⟩⟩
theorem each40_any (pa : Option Addr) (pn pc : Nat) (ba : Option Addr) (bn bc : Nat) (w : World) : Calls Try.prog 40 #[funcV pa pn pc ba bn bc] w fun e w' => e = .returned (.func (.func 75) #[] #[.pointer (some ⟨w.heap.size, 0, none⟩)]) ∧ w' = w.alloc (funcO pa pn pc ba bn bc) := by
 go_enter Try.func40, Try.ntmps40
 go_wp2
 go_ret
 exact ⟨rfl, rfl⟩
theorem eachE_iterTI (pa : Option Addr) (pn pc : Nat) (ba : Option Addr) (bn bc : Nat) (bs : List BlkH) (G : Nat) : IterTI Try.prog 75 #[.pointer (some ⟨G, 0, none⟩)] encE (edgesL (tsOf bs)) (fun W => W.heap[G]? = some (funcO pa pn pc ba bn bc) ∧ BlksOK W ba bn bs) := by
 intro l K Kx T W hK hKx hInv hT0 hTg hY h0
 refine callsIn_of_wp Try.func75 rfl trivial ?_ rfl
 simp only [Try.ntmps75, List.size_toArray, List.length_cons, List.length_nil, Nat.reduceAdd, Nat.reduceSub, Array.replicate_succ, Array.replicate_zero, List.push_toArray, List.append_toArray, List.nil_append, List.cons_append]
 have HY := Lib.hid hY
 have HI := Lib.hid hInv
 have HK0 := Lib.hid hK
 have HT0 := Lib.hid hT0
 have HTG := Lib.hid hTg
 have H0 : Hid (K (edgesFrom (tsOf bs) 0) W) := h0
 have hg0 : W.cell? ⟨G, 1, none⟩ = some (.slice ba bn bc) := by rw [cell_of_row _ _ _ _ _ _ (hInv _ _ h0).1]; rfl
 have hbn := (hInv _ _ h0).2.1.2.1
 have HLN := Lib.hid (hInv _ _ h0).2.1.1
 clear hY hInv hK hKx h0 hT0 hTg
 gi_wp2
 gi_loopw [3, 4, 5, 6, 10] (fun _ _ _ _ i wr => ∃ k : Nat, i = .int .i64 k ∧ k ≤ bn ∧ Hid (K (edgesFrom (tsOf bs) k) wr)) (fun _ _ _ _ i _ => bn - (intOf i).toNat)
 case atStart => exact ⟨0, rfl, by omega, H0.out⟩
 case round =>
  obtain ⟨k, rfl, hk, HK⟩ := hrel
  clear hg0
  by_cases hlt : k < bn
  · obtain ⟨x, b, o, hbx, hxo, rfl, c0, c1, c2, c3, c4⟩ := (HI.out _ _ HK.out).2.cells hlt
    have htd := tsOf_at bs k x hbx
    have HES : Hid (edgesFrom (tsOf bs) k = armsF k 0 (toD x.t) ++ edgesFrom (tsOf bs) (k + 1)) := by
     rw [Hid, edgesFrom_step _ _ (by rw [tsOf_len, HLN.out]; exact hlt), edgesAt, htd]
    have HXO := Lib.hid hxo
    have hlt' : (k : Int) < (bn : Int) := by omega
    clear hbx htd hxo
    gi_wp2_with (
     (gi_at_call 67
      refine (callsIn_wide.2 (to_any x.t _ HXO.out)).mono ?_
      rintro e w2 ⟨v, rfl, ho, hb⟩
      obtain ⟨va, vc, rfl⟩ := ho.form
      have hbw := ext_trans (ext_alloc wr (blkO x)) hb
      have HV := Lib.hid ho.ints
      have HK2 := Lib.hid (HK0.out _ _ _ HK.out hbw)
      have HNT : Hid (∀ q o, va = some ⟨q, o, none⟩ → ¬ T w2 q) := (fun q o e ht => by
       have h1 := HT0.out _ _ _ HK.out (HTG.out _ _ _ _ HK.out hbw ht)
       have h2 := (ho.1.lt q (by rw [e]; rfl)).1
       simp at h2
       omega)
      clear ho hb hbw))
    obtain ⟨wo, rfl⟩ : ∃ wo : World, wo = wr := ⟨_, rfl⟩
    gi_loopw [5, 6, 19] (fun _ _ i wi => ∃ j : Nat, i = .int .i64 j ∧ j ≤ (toD x.t).length ∧ Hid (K (armsF k j ((toD x.t).drop j) ++ edgesFrom (tsOf bs) (k + 1)) wi) ∧ Hid (Ints wi va (toD x.t).length (toD x.t)) ∧ Hid (∀ q o, va = some ⟨q, o, none⟩ → ¬ T wi q)) (fun _ _ i _ => (toD x.t).length - (intOf i).toNat)
    case atStart => exact ⟨0, rfl, by omega, by rw [Hid, List.drop_zero, ← HES.out]; exact HK2.out, HV, HNT⟩
    case round =>
     obtain ⟨j, rfl, hj, HKj, HVj, HNTj⟩ := hrel
     clear HK2 HV HNT
     by_cases hjl : j < (toD x.t).length
     · obtain ⟨b3, o3, rfl, hcy, _⟩ := HVj.out.2.2 j hjl
       have HL : Hid (armsF k j ((toD x.t).drop j) ++ edgesFrom (tsOf bs) (k + 1) = ⟨k, j, (toD x.t).getD j 0⟩ :: (armsF k (j + 1) ((toD x.t).drop (j + 1)) ++ edgesFrom (tsOf bs) (k + 1))) := by
        rw [Hid, List.drop_eq_getElem_cons hjl]
        simp [armsF, List.getD_eq_getElem?_getD, hjl]
       have hjl' : (j : Int) < ((toD x.t).length : Int) := by omega
       obtain ⟨fn, tmps, assign, body, hy, hR⟩ := HY.out _ ⟨k, j, (toD x.t).getD j 0⟩ wr (by rw [HL.out]; rfl) HKj.out
       unfold encE at hy
       have hT : nxL (armsF k j ((toD x.t).drop j) ++ edgesFrom (tsOf bs) (k + 1)) ⟨k, j, (toD x.t).getD j 0⟩ = armsF k (j + 1) ((toD x.t).drop (j + 1)) ++ edgesFrom (tsOf bs) (k + 1) := by rw [HL.out]; rfl
       rw [hT] at hR
       have HR2 := Lib.hid hR
       clear hT hR
       have hj2 := toD_len x.t
       generalize (toD x.t).getD j 0 = y at *
       gi_wp2
       refine HR2.out.mono ?_
       rintro e W' (⟨rfl, hJ', hT'⟩ | ⟨rfl, hX'⟩)
       · have HKn := Lib.hid hJ'
         have HVn := Lib.hid (HVj.out.heap fun b o e => hT'.2.1 b (by
          obtain ⟨b4, o4, e4, hc4, _⟩ := HVj.out.2.2 j hjl
          rw [e4] at e
          injection e with e
          injection e with e _ _
          subst e
          exact World.block_lt_of_cell? _ _ hc4) (HNTj.out b o e))
         have HNn : Hid (∀ q o, some (⟨b3, o3, none⟩ : Addr) = some ⟨q, o, none⟩ → ¬ T W' q) := fun q o e ht => by
          rcases hT'.2.2 q ht with h | h
          · exact HNTj.out q o e h
          · have := World.block_lt_of_cell? _ _ hcy
            injection e with e
            injection e with e _ _
            subst e
            simp at this
            omega
         clear hJ' hT' hy HR2 hcy
         gi_wp2
         go_roundw
         case rel => exact ⟨j + 1, by go_num, by omega, HKn, HVn, HNn⟩
         case measure => simp [intOf]; omega
       · have HX := Lib.hid hX'
         clear hX' hy HR2
         gi_wp2
         exact bodyPost_ret (v := .tuple #[]) (by simp [results, Try.results75, go_sem]) rfl ⟨⟨_, rfl⟩, Or.inr HX.out⟩
     · obtain rfl : j = (toD x.t).length := by omega
       have HKe : Hid (K (edgesFrom (tsOf bs) (k + 1)) wr) := by
        have := HKj.out
        rw [List.drop_length] at this
        exact this
       clear HKj HVj HNTj
       gi_wp2
       go_roundw
       case rel => exact ⟨k + 1, by go_num, by omega, HKe⟩
       case measure => simp [intOf]; omega
  · obtain rfl : k = bn := by omega
    have HE : Hid (edgesFrom (tsOf bs) k = []) := edgesFrom_end _ _ (by rw [tsOf_len, HLN.out]; omega)
    gi_wp2
    go_end0
    exact ⟨⟨_, rfl⟩, Or.inl ⟨_, HE.out, HK.out⟩⟩
end
end Go.Proofs.Ytblhmdhfhaencaa
