/-
  Loads and stores of whole rows, parts of rows, inside a fence (any). No program in sight.
-/
import Derived.Test.YtblhmdhfhaencaaGreatLentG
import Derived.Deep.MidRow
import Derived.Test.YtblhmdhfhaencaaGreatTR
import Derived.Test.YtblhmdhfhaencaaGreatVP
import Derived.RangeFuncNested
namespace Go.Proofs.YtblhmdhfhaencaaGreat
set_option linter.unusedSimpArgs false
set_option linter.unusedVariables false
set_option linter.unusedSectionVars false
set_option maxRecDepth 100000
set_option maxHeartbeats 40000000
section
open Go.RowKit
section
variable {P : Program} {F : Fence} {n : Nat} {op : Oper} {a : Act} {w : World} {K : Act → World → Prop} {Q : Exit → Act → World → Prop}
theorem opIn_load_row (ty : TypeId) (x : Operand) (ho : op.op = .load ty x)
    (g : Nat) (hx : a.eval x = .pointer (some ⟨g, 0, none⟩)) (t : TypeId) (cs : Array Value) (fr : Nat × Nat) (d : TypeDesc) (hg : w.heap[g]? = some (.cells cs t fr))
    (hu : P.underlying ty = some d) (hd : (match d with | .struct _ | .array _ _ => true | _ => false) = true) (hi : (P.info? ty).map (·.size) = some cs.size)
    (h : K (a.put op.dst (.agg cs)) w) : op.wpIn F n P a w K Q := by
  refine ⟨fun f hf => by simp [Oper.about, ho] at hf, ?_⟩
  rw [Oper.semAt_eq _ _ _ (by simp [ho])]
  unfold execOp
  simp only [ho, hx, Instr.loadAt, Instr.sureAddr, Sem.run_bind, Sem.run_pure, Result.andThen_ok, run_loadVar_row w g t ty cs fr d hg hu hd hi]
  exact h
theorem opIn_store_row (ty : TypeId) (x y : Operand) (ho : op.op = .store ty x y)
    (g : Nat) (cells : Array Value) (hx : a.eval x = .pointer (some ⟨g, 0, none⟩)) (hy : a.eval y = .agg cells)
    (t : TypeId) (old : Array Value) (hg : w.heap[g]? = some (.cells old t (0, 0))) (hi : (P.info? ty).map (·.size) = some cells.size)
    (hold : old.size = cells.size) (h1 : cells.all (·.oneCell') = true)
    (h : K (a.put op.dst undef) (w.setRow g cells)) : op.wpIn F n P a w K Q := by
  refine ⟨fun f hf => by simp [Oper.about, ho] at hf, ?_⟩
  rw [Oper.semAt_eq _ _ _ (by simp [ho])]
  unfold execOp
  simp only [ho, hx, hy, Instr.storeAt, Instr.sureAddr, Sem.run_bind, Sem.run_pure, Result.andThen_ok, run_storeVar_row w g t ty old cells hg hi hold h1]
  exact h
end
end

section
open Go.RowKit Go.Shelf
attribute [local go_sem] Oper.semAt_some wide_fn wide_depth wide_fnR wide_depthR
def WiJ (w : World) (f g : Nat → Bool) (W : World) : Prop :=
  W.heap[w.heap.size]? = some (setO f) ∧ W.heap[w.heap.size + 1]? = some (setO g) ∧ W.heap[w.heap.size + 1 + 1]? = some (.cells #[.bool false] 4 (0, 0)) ∧ W.heap[w.heap.size + 1 + 1 + 1]? = some (.cells #[.pointer (some ⟨w.heap.size, 0, none⟩)] 189 (0, 0)) ∧ Below w.heap.size w W
theorem WiJ.steady {w : World} {f g : Nat → Bool} {D : Nat} (hD : w.heap.size ≤ D) : Steady D (WiJ w f g) := by
  unfold WiJ
  exact (Steady.block _ _ rfl).and ((Steady.block _ _ rfl).and ((Steady.block _ _ rfl).and ((Steady.block _ _ rfl).and (Steady.below (Nat.le_refl _) hD))))
theorem within_any (f g : Nat → Bool) (w : World) :
    Calls Tryz.prog 137 #[.agg (setA f), .agg (setA g)] w fun e w' => e = .returned (.bool (withinB f g)) ∧ Below w.heap.size w w' := by
  refine (callsIn_wide (n := 0)).1 ?_
  refine callsIn_of_wp_marks Tryz.func137 rfl trivial ?_
  simp only [Tryz.ntmps137, List.size_toArray, List.length_cons, List.length_nil, Nat.reduceAdd, Nat.reduceSub, Array.replicate_succ, Array.replicate_zero, List.push_toArray, List.append_toArray, List.nil_append, List.cons_append]
  gi_wp2_with (gi_at_call 88; refine (callsIn_wide.2 (each_any _ _)).mono ?_; rintro e w' ⟨rfl, rfl⟩)
  refine range_list (ps := #[7]) (gf := 139) (lb := #[.pointer (some ⟨w.heap.size + 1 + 1 + 1, 0, none⟩)]) (enc := encN) (l := listS f) rfl enter_each _ (each_iterI f (w.heap.size + 1 + 1 + 1) w.heap.size) (fun _ => rfl)
    (fun dn r W => Hid (dn.all g = true ∧ WiJ w f g W)) (fun c W => c = .ret ∧ W.heap[w.heap.size + 1 + 1]? = some (.cells #[.bool (withinB f g)] 4 (0, 0)) ∧ Below w.heap.size w W)
    (fun dn r => (Steady.pure _ _).and (WiJ.steady (by simp; omega))) (fun c => (Steady.pure _ _).and ((Steady.block _ _ rfl).and (Steady.below (Nat.le_refl _) (by simp; omega)))) (fun dn r W h => ⟨by rw [cell_of_row _ _ _ _ _ _ h.out.2.2.2.2.1]; rfl, h.out.2.1⟩) ?start ?round ?done ?stop
  case start =>
    refine ⟨rfl, ?_, ?_, ?_, ?_, ?_⟩
    · rw [Below.heap_alloc _ _ _ (by simp; omega), Below.heap_alloc _ _ _ (by simp; omega), Below.heap_alloc _ _ _ (by simp)]; exact heap_alloc_new _ _
    · rw [Below.heap_alloc _ _ _ (by simp), Below.heap_alloc _ _ _ (by simp)]; exact heap_at _ _ _ (by simp)
    · rw [Below.heap_alloc _ _ _ (by simp)]; exact heap_at _ _ _ (by simp)
    · exact heap_at _ _ _ (by simp)
    · exact (((ext_alloc _ _).alloc (by simp) _).alloc (by simp; omega) _).alloc (by simp; omega) _
  case round =>
    rintro lp dn x r W0 hd hJ;unfold encN
    gi_wp2
    refine ⟨Keep.refl _, hJ, ?_⟩;clear hJ lp W0;rintro lp W0 hJ;obtain ⟨ja, j1, j2, j3, j4, jb⟩ := hJ.out;have hxl : x < 200 := listS_lt f x (by rw [hd]; simp);have hcx := set_cell j2 x hxl;by_cases hgx : g x = true
    · rw [hgx] at hcx;have HN : Hid ((dn ++ [x]).all g = true ∧ WiJ w f g W0) := ⟨by simp only [List.all_append, ja, List.all_cons, hgx, List.all_nil, Bool.and_self], j1, j2, j3, j4, jb⟩
      clear hJ ja j1 j2 j3 j4 jb hgx
      gi_wp2
      exact ⟨Keep.refl _, HN⟩
    · have hgx' : g x = false := by simpa using hgx
      rw [hgx'] at hcx;have HE : Hid (withinB f g = false) := by
        have : (listS f).all g = false := by rw [hd, List.all_append, List.all_cons, hgx', Bool.false_and, Bool.and_false]
        rw [Hid, withinB, this, Bool.false_and]
      have hf1 : W0.frozen? ⟨w.heap.size + 1 + 1, 0, none⟩ = false := frozen_of_row _ _ _ _ _ j3;have hc1 : W0.cell? ⟨w.heap.size + 1 + 1, 0, none⟩ = some (.bool false) := by rw [cell_of_row _ _ _ _ _ _ j3]; rfl
      have hl1 := lt_of_heap j3;have HR := Lib.hid j3;have HB := Lib.hid jb;clear hJ ja j1 j2 j3 j4 jb hgx hgx'
      gi_wp2
      have hst := heap_setCell_same W0 (w.heap.size + 1 + 1) 0 _ _ (.bool false) HR.out;exact ⟨(Keep.setCell _ _ _), rfl, by rw [HE.out]; simpa using hst, HB.out.setCell (by simp; omega) _⟩
  case done =>
    rintro D W hD hJ hK;obtain ⟨ja, j1, j2, j3, j4, jb⟩ := hJ.out;have HE : Hid (withinB f g = !eqS f g) := by rw [Hid, withinB, ja, Bool.true_and]
    have hc1 : W.cell? ⟨w.heap.size + 1 + 1, 0, none⟩ = some (.bool false) := by rw [cell_of_row _ _ _ _ _ _ j3]; rfl
    have hf1 : W.frozen? ⟨w.heap.size + 1 + 1, 0, none⟩ = false := frozen_of_row _ _ _ _ _ j3;have hl1 := lt_of_heap j3;have HB := Lib.hid jb;have HJ1 := Lib.hid j1;have HJ2 := Lib.hid j2;have HJ3 := Lib.hid j3;have HD : Hid (w.heap.size + 1 + 1 + 1 < D) := by simp at hD; simp [Hid]; omega
    clear hJ ja j1 j2 j3 j4 jb hD
    gi_wp2
    refine opIn_load_row 124 _ rfl w.heap.size rfl 124 _ (0, 0) _ HJ1.out Tryz.underlying124 rfl (by rw [setA_size]; exact size_set) ?_
    gi_wp2
    refine opIn_load_row 124 _ rfl (w.heap.size + 1) rfl 124 _ (0, 0) _ HJ2.out Tryz.underlying124 rfl (by rw [setA_size]; exact size_set) ?_;have heq := equal_set W f g
    gi_wp2
    have hDP : D ≠ w.heap.size + 1 + 1 := by have := HD.out; omega
    have gg := grown_setCell W (w.heap.size + 1 + 1) 0 (.bool (!eqS f g));have hK2 := grown_row gg hK (by simp; omega);have hb2 : Below w.heap.size w (W.setCell ⟨w.heap.size + 1 + 1, 0, none⟩ (.bool (!eqS f g))) := HB.out.setCell (by simp; omega) _;have hv2 : (W.setCell ⟨w.heap.size + 1 + 1, 0, none⟩ (.bool (!eqS f g))).heap[w.heap.size + 1 + 1]? = some (.cells #[.bool (!eqS f g)] 4 (0, 0)) := by
      have := heap_setCell_same W (w.heap.size + 1 + 1) 0 _ _ (.bool (!eqS f g)) HJ3.out;simpa using this
    generalize W.setCell ⟨w.heap.size + 1 + 1, 0, none⟩ (.bool (!eqS f g)) = W2 at *;have hb3 := (Steady.below (n₀ := w.heap.size) (B := w.heap.size) (w₀ := w) (Nat.le_refl _) (Nat.le_refl _)).put (.deferred none) (l := D) hb2 (by have := HD.out; omega) hK2 rfl;have hv3 : (W2.putObj D (.deferred none)).heap[w.heap.size + 1 + 1]? = some (.cells #[.bool (!eqS f g)] 4 (0, 0)) := (World.putObj_heap_other (by omega)).trans hv2;have hc3 : (W2.putObj D (.deferred none)).cell? ⟨w.heap.size + 1 + 1, 0, none⟩ = some (.bool (!eqS f g)) := by rw [cell_of_row _ _ _ _ _ _ hv3]; rfl
    refine ⟨by simp, .inl ⟨_, _, rfl, run_takeDeferred hK2, ?_⟩⟩;exact ⟨.bool (!eqS f g), by simp [results, Tryz.results137, go_sem, hc3], by rw [HE.out], hb3⟩
  case stop =>
    rintro D c W hD ⟨rfl, hv, hb⟩ hK;have hv2 : (W.putObj D (.deferred none)).heap[w.heap.size + 1 + 1]? = some (.cells #[.bool (withinB f g)] 4 (0, 0)) := (World.putObj_heap_other (by simp at hD; omega)).trans hv;have hb2 := (Steady.below (n₀ := w.heap.size) (B := w.heap.size) (w₀ := w) (Nat.le_refl _) (Nat.le_refl _)).put (.deferred none) (l := D) hb (by simp at hD; omega) hK rfl;have hc : (W.putObj D (.deferred none)).cell? ⟨w.heap.size + 1 + 1, 0, none⟩ = some (.bool (withinB f g)) := by rw [cell_of_row _ _ _ _ _ _ hv2]; rfl
    gi_wp2
    refine ⟨by simp, .inl ⟨_, _, rfl, run_takeDeferred hK, ?_⟩⟩;exact ⟨.bool (withinB f g), by simp [results, Tryz.results137, go_sem, hc], rfl, hb2⟩
end

section
open Go.RowKit Go.Shelf
abbrev bldO (d : WalkD) (v : Value) : Obj := .cells #[.slice d.pa d.pn d.pc, .slice d.ba d.bn d.bc, .slice d.ta d.bn d.tc, .slice d.fa d.bn d.fc, v] 122 (0, 0)
theorem zero_part : Tryz.zeroCells128.size = 202 := by kernel_rfl
abbrev partO (p : PartD) : Obj := .cells (partC p).toArray 128 (0, 0)
theorem part_set0 {W : World} {B : Nat} {p : PartD} (h : W.heap[B]? = some (partO p)) : W.rangeAt B 0 (setA p.s).toList := by
  intro k v hk
  have hlt : k < (setA p.s).toList.length := by
    rcases Nat.lt_or_ge k (setA p.s).toList.length with h | h
    · exact h
    · rw [List.getElem?_eq_none h] at hk; cases hk
  rw [cell_of_row _ _ _ _ _ _ h]
  simp only [partC, List.getElem?_toArray, Nat.zero_add]
  rw [List.getElem?_append_left hlt]
  exact hk
theorem aroundP_take (L : List PartD) (p : PartD) (k : Nat) (hk : k < L.length) : aroundP (L.take (k + 1)) p = aroundP (L.take k) p + (if withinB p.s (L.getD k zPart).s then 1 else 0) := by
  rw [aroundP, aroundP, takeS L k zPart hk, List.filter_append, List.length_append]
  congr 1
  generalize L.getD k zPart = q
  by_cases h : withinB p.s q.s = true <;> simp [h]
theorem around_any (P base : Nat) (a : Option Addr) (n c : Nat) (d : WalkD) (L : List PartD) (p : PartD) (w : World) (hB : w.heap[P]? = some (bldO d (.slice a n c))) (hL : PartsIn w base (.slice a n c) L) (hn : n ≤ 1000000) :
    Calls Tryz.prog 86 #[.pointer (some ⟨P, 0, none⟩), partV p] w fun e w' => e = .returned (.int .i64 (aroundP L p : Int)) ∧ Below w.heap.size w w' := by
  have hlen : L.length = n := by
    obtain ⟨_, _, e⟩ := OwnR.form hL;injection e with _ e _;exact e.symm
  have hsl : w.cell? ⟨P, 4, none⟩ = some (.slice a n c) := by rw [cell_of_row _ _ _ _ _ _ hB]; rfl
  have HL := Lib.hid hL
  clear hB hL
  go_enter Tryz.func86, Tryz.ntmps86
  go_upto_region 1 with (fail)
  obtain ⟨W, hW⟩ : ∃ W, W = w.alloc (partO p) := ⟨_, rfl⟩
  rw [← hW]
  have hp : W.heap[w.heap.size]? = some (partO p) := by rw [hW]; exact heap_alloc_new _ _
  have hb : Below w.heap.size w W := by rw [hW]; exact ext_alloc _ _
  have hc := cell_ext hb hsl
  have HP := Lib.hid hp
  have HB := Lib.hid hb
  have hsz : w.heap.size < W.heap.size := lt_of_heap hp
  clear hp hb hW hsl
  go_wp2
  go_loopw [4, 12] (fun s4 s12 wr => ∃ k : Nat, k ≤ n ∧ s4 = .int .i64 (aroundP (L.take k) p : Int) ∧ s12 = .int .i64 (k : Int) ∧ Hid (Below W.heap.size W wr)) (fun _ s12 _ => n - (intOf s12).toNat)
  case atStart => exact ⟨0, by omega, rfl, rfl, Below.refl _ _⟩
  case round =>
    obtain ⟨k, hk, rfl, rfl, HR⟩ := hrel;by_cases hlt : k < n
    · have hlt' : (k : Int) < (n : Int) := by omega
      have hLr : PartsIn wr base (.slice a n c) L := HL.out.ext (ext_trans HB.out HR.out);have hform : ∃ g, a = some ⟨g, 0, none⟩ := by
        obtain ⟨g, c', e⟩ := own_form hLr.1 (by omega);injection e with e _ _;exact ⟨g, e⟩
      obtain ⟨g, rfl⟩ := hform;have hr := part_range hLr hlt;have HTK := Lib.hid (aroundP_take L p k (by omega));have hle : aroundP (L.take k) p ≤ k := by
        have h1 := List.length_filter_le (fun x => withinB p.s x.s) (L.take k);have h2 := List.length_take_le k L;unfold aroundP;omega
      have HPr := Lib.hid (block_ext HR.out HP.out);generalize L.getD k zPart = q at *;obtain ⟨bb, hbb⟩ : ∃ bb, bb = withinB p.s q.s := ⟨_, rfl⟩
      rw [← hbb] at HTK;generalize aroundP (L.take k) p = m at *;clear hLr;go_upto_region 4 with (first
        | (refine wpList_load_mid rfl 128 _ rfl g (k * 202) rfl (partC q) _ hr Tryz.underlying128 rfl (size_partC _) ?_)
        | (refine wpList_store_row rfl 128 _ _ rfl wr.heap.size (partC q).toArray rfl rfl 128 Tryz.zeroCells128 (heap_alloc_new _ _) (size_partA _) (by rw [zero_part, List.size_toArray, partC_len]) (all_oneCell_toArray (partC_one _)) ?_))
      obtain ⟨W2, hW2⟩ : ∃ W2, W2 = (wr.alloc (.cells Tryz.zeroCells128 128)).setRow wr.heap.size (partC q).toArray := ⟨_, rfl⟩
      rw [← hW2];have hq2 : W2.heap[wr.heap.size]? = some (partO q) := by rw [hW2]; exact setRow_heap _ _ _ _ _ _ (heap_alloc_new _ _)
      have hb2 : Below wr.heap.size wr W2 := by rw [hW2]; exact below_setRow (ext_alloc _ _) (Nat.le_refl _) _
      have hp2 := block_ext hb2 HPr.out;have h1 := part_set0 hp2;have h2 := part_set0 hq2;have HB2 := Lib.hid (ext_trans HR.out hb2);clear hW2 hq2 hb2 hp2 hr;generalize wr.heap.size = gq at *;cases bb with
      | true =>
        have HTK2 : Hid (aroundP (L.take (k + 1)) p = m + 1) := HTK.out;have HBB : Hid (withinB p.s q.s = true) := hbb.symm;clear hbb HTK
        go_wp2_with (first
          | (refine wpList_load_mid (op := ⟨some 17, .load 124 _, _, _, _, _⟩) rfl 124 _ rfl w.heap.size 0 rfl (setA p.s).toList _ h1 Tryz.underlying124 rfl (by rw [Array.length_toList, setA_size]; exact size_set) ?_)
          | (refine wpList_load_mid (op := ⟨some 19, .load 124 _, _, _, _, _⟩) rfl 124 _ rfl gq 0 rfl (setA q.s).toList _ h2 Tryz.underlying124 rfl (by rw [Array.length_toList, setA_size]; exact size_set) ?_)
          | (go_at_call 137
             refine (within_any p.s q.s W2).mono ?_;rintro e w3 ⟨rfl, hb3⟩;rw [HBB.out];have HB3 := Lib.hid (ext_trans HB2.out hb3);clear hb3))
        go_roundw
        case rel => exact ⟨k + 1, by omega, by rw [HTK2.out]; go_num, by go_num, HB3⟩
        case measure => simp [intOf]; omega
      | false =>
        have HTK2 : Hid (aroundP (L.take (k + 1)) p = m) := HTK.out;have HBB : Hid (withinB p.s q.s = false) := hbb.symm;clear hbb HTK
        go_wp2_with (first
          | (refine wpList_load_mid (op := ⟨some 17, .load 124 _, _, _, _, _⟩) rfl 124 _ rfl w.heap.size 0 rfl (setA p.s).toList _ h1 Tryz.underlying124 rfl (by rw [Array.length_toList, setA_size]; exact size_set) ?_)
          | (refine wpList_load_mid (op := ⟨some 19, .load 124 _, _, _, _, _⟩) rfl 124 _ rfl gq 0 rfl (setA q.s).toList _ h2 Tryz.underlying124 rfl (by rw [Array.length_toList, setA_size]; exact size_set) ?_)
          | (go_at_call 137
             refine (within_any p.s q.s W2).mono ?_;rintro e w3 ⟨rfl, hb3⟩;rw [HBB.out];have HB3 := Lib.hid (ext_trans HB2.out hb3);clear hb3))
        go_roundw
        case rel => exact ⟨k + 1, by omega, by rw [HTK2.out], by go_num, HB3⟩
        case measure => simp [intOf]; omega
    · obtain rfl : k = n := by omega
      have HT : Hid (L.take k = L) := List.take_of_length_le (by omega);go_wp2
      go_ret
      exact ⟨by rw [HT.out]; rfl, ext_trans HB.out HR.out⟩
end

section
open Go.RowKit
theorem range_outerN {P : Program} {σ α : Type} {g : Operand} {ps : Array Tmp} {assign body : Code} {Q : Exit → Act → World → Prop} {a : Act} {w : World} {gf : Nat} {lb : Array Value}
    (hg : a.eval g = .func (.func gf) #[] lb) (eg : ∀ args w, (callFunc gf args).run P w = .ok (.enter gf args) w)
    {enc : α → Array Value} {ok : σ → α → Prop} {nx : σ → α → σ} {s0 : σ} {Fin : σ → Prop} {Inv : σ → World → Prop} (hit : Iter P gf lb enc ok nx s0 Fin Inv)
    (hps : ∀ x, (enc x).size = ps.size)
    (J : σ → World → Prop) (Jx : Code → World → Prop) (A : σ → α → Act → World → Prop)
    (hJ : ∀ s, Steady w.heap.size (J s)) (hJx : ∀ c, Steady w.heap.size (Jx c)) (hA : ∀ s x a, Steady w.heap.size (A s x a)) (hInv : ∀ s W, J s W → Inv s W)
    (h0 : J s0 w)
    (hassign : ∀ (l : Nat) (s : σ) (x : α) (W : World), ok s x → J s W →
      assign.wpIn (Fence.wide.inRound l) 0 P (Exit.then (fun a1 W1 => Keep W W1 ∧ J s W1 ∧ A s x a1 W1) (fun _ _ _ => False)) { tmps := (ps.zip (enc x)).foldl (fun t (p, v) => t.setIfInBounds p v) a.tmps, defers := [] } W)
    (hbody : ∀ (l : Nat) (s : σ) (x : α) (a1 : Act) (W : World), w.heap.size ≤ l → (∃ r, W.heap[l]? = some (.loop r)) → ok s x → J s W → A s x a1 W →
      body.wpIn (Fence.wide.inRound l) 0 P (roundEnd (fun W' => Keep W W' ∧ J (nx s x) W') (fun c W' => Keep W W' ∧ Jx c W')) a1 W)
    (hdone : ∀ (D : Nat) (s : σ) (W : World), w.heap.size ≤ D → Fin s → J s W → W.heap[D]? = some (.deferred (some [])) → Q .normal { a with defers := { target := .collected D, args := #[] } :: a.defers } W)
    (hstop : ∀ (D : Nat) (c : Code) (W : World), w.heap.size ≤ D → Jx c W → W.heap[D]? = some (.deferred (some [])) → c.wpIn Fence.wide 0 P Q { a with defers := { target := .collected D, args := #[] } :: a.defers } W) :
    (Code.rangeFunc g ps assign body).wpIn Fence.wide 0 P Q a w := by
  refine wpIn_rangeFunc ?_
  intro fn hfn
  obtain ⟨rec, hrec⟩ : ∃ rec : LoopState → Option Code → Loop, rec = fun st pe => { state := st, pending := pe, fn, tmps := a.tmps, params := ps, assign, body, defers := w.heap.size } := ⟨_, rfl⟩
  obtain ⟨W1, hW1⟩ : ∃ W1, (w.alloc (.deferred (some []))).alloc (.loop (rec .ready none)) = W1 := ⟨_, rfl⟩
  have hL1 : W1.heap[w.heap.size + 1]? = some (.loop (rec .ready none)) := by
    rw [← hW1]; have := World.alloc_heap_new (w.alloc (.deferred (some []))) (.loop (rec .ready none)); rwa [World.size_alloc] at this
  have hK1 : W1.heap[w.heap.size]? = some (.deferred (some [])) := by
    rw [← hW1]; exact (Below.heap_alloc _ _ _ (by simp)).trans (World.alloc_heap_new w _)
  have hb1 : Below w.heap.size w W1 := by
    rw [← hW1]; exact ((Below.refl _ w).alloc (Nat.le_refl _) _).alloc (by simp) _
  have hI1 : J s0 W1 := (hJ s0).ext h0 hb1
  have keepE : ∀ {W W' : World} {k : Nat} {o : Obj}, W.heap[k]? = some o → Below W.heap.size W W' → W'.heap[k]? = some o :=
    fun hk hb => (hb.block _ (Array.getElem?_eq_some_iff.1 hk).1).trans hk
  refine ⟨w.heap.size + 1, [{ target := .collected w.heap.size, args := #[] }], W1, { target := .fn (.func gf) lb, args := #[.func (.yield (w.heap.size + 1)) #[] #[]] }, W1, gf,
    #[.func (.yield (w.heap.size + 1)) #[] #[]] ++ lb, W1, ?_, ?_, ?_, ?_, fun h => by simp [Fence.wide] at h, ?_⟩
  · rw [← hW1, hrec]; exact run_enterLoop_outer _ _ _ _ _
  · simp only [resolve, hg];simp [go_sem]
  · intro f' hf'; trivial
  · simp [invoke, go_sem, eg]
  · refine (hit (w.heap.size + 1)
      (fun s W => J s W ∧ W.heap[w.heap.size + 1]? = some (.loop (rec .ready none)) ∧ W.heap[w.heap.size]? = some (.deferred (some [])))
      (fun W => ∃ c, Jx c W ∧ W.heap[w.heap.size + 1]? = some (.loop (rec .done (some c))) ∧ W.heap[w.heap.size]? = some (.deferred (some [])))
      W1 (fun s A B h hb => ⟨(hJ s).ext h.1 hb, keepE h.2.1 hb, keepE h.2.2 hb⟩)
      (fun A B h hb => by obtain ⟨c, h1, h2, h3⟩ := h; exact ⟨c, (hJx c).ext h1 hb, keepE h2 hb, keepE h3 hb⟩)
      (fun s W h => hInv s W h.1) ?_ ⟨hI1, hL1, hK1⟩).mono ?_
    · rintro s x W hok ⟨hi, hl, hk⟩;have hy := run_yield (P := P) (args := enc x) hl (by rw [hrec]; exact hps x);rw [hrec] at hy;refine ⟨fn, _, assign, body, hy, roundIn_of_wpIn hfn (wpIn_mono (hassign _ s x W hok hi) ?_)⟩;rintro e a1 V hp;cases e with
      | normal =>
        obtain ⟨hkp, hiV, hAV⟩ := hp;have hlV := hkp _ _ hl rfl;have hkV := hkp _ _ hk rfl;have hlt : w.heap.size + 1 < V.heap.size := (Array.getElem?_eq_some_iff.1 hlV).1;refine ⟨_, run_beginRound hlV (by rw [hrec]), ?_⟩;have hl2 : (V.putObj (w.heap.size + 1) (.loop { rec .ready none with state := .busy })).heap[w.heap.size + 1]? = some (.loop { rec .ready none with state := .busy }) := World.putObj_heap_same hlt;have hk2 : (V.putObj (w.heap.size + 1) (.loop { rec .ready none with state := .busy })).heap[w.heap.size]? = some (.deferred (some [])) := (World.putObj_heap_other (by omega)).trans hkV;refine wpIn_mono (hbody _ s x a1 _ (by omega) ⟨_, hl2⟩ hok ((hJ s).put _ hiV (by omega) hlV rfl) ((hA s x a1).put _ hAV (by omega) hlV rfl)) ?_;have fin : ∀ (jump : Option Code) (W3 : World), Keep (V.putObj (w.heap.size + 1) (.loop { rec .ready none with state := .busy })) W3 →
            (Instr.endRound (w.heap.size + 1) jump).run P W3 = .ok (.bool jump.isNone) (W3.putObj (w.heap.size + 1) (.loop (rec (if jump.isNone then .ready else .done) jump))) ∧
            W3.heap[w.heap.size + 1]? = some (.loop { rec .ready none with state := .busy }) ∧
            (W3.putObj (w.heap.size + 1) (.loop (rec (if jump.isNone then .ready else .done) jump))).heap[w.heap.size + 1]? = some (.loop (rec (if jump.isNone then .ready else .done) jump)) ∧
            (W3.putObj (w.heap.size + 1) (.loop (rec (if jump.isNone then .ready else .done) jump))).heap[w.heap.size]? = some (.deferred (some [])) := fun jump W3 hk3 => by
          have hl3 := hk3 _ _ hl2 rfl;have := run_endRound (P := P) jump hl3;rw [hrec] at this ⊢;exact ⟨this, by rw [hrec] at hl3; exact hl3, World.putObj_heap_same (Array.getElem?_eq_some_iff.1 hl3).1, (World.putObj_heap_other (by omega)).trans (hk3 _ _ hk2 rfl)⟩
        rintro e a3 W3 hp;cases e with
        | normal =>
          obtain ⟨hk3, hi3⟩ := hp;obtain ⟨hr, hl3, hl4, hk4⟩ := fin none W3 hk3;exact ⟨_, _, hr, .inl ⟨rfl, (hJ _).put _ hi3 (by omega) hl3 rfl, hl4, hk4⟩⟩
        | ret =>
          obtain ⟨hk3, hi3⟩ := hp;obtain ⟨hr, hl3, hl4, hk4⟩ := fin (some .ret) W3 hk3;exact ⟨_, _, hr, .inr ⟨rfl, .ret, (hJx _).put _ hi3 (by omega) hl3 rfl, hl4, hk4⟩⟩
        | exit id =>
          obtain ⟨hk3, hi3⟩ := hp;obtain ⟨hr, hl3, hl4, hk4⟩ := fin (some (.exit id)) W3 hk3;exact ⟨_, _, hr, .inr ⟨rfl, .exit id, (hJx _).put _ hi3 (by omega) hl3 rfl, hl4, hk4⟩⟩
        | goto t =>
          obtain ⟨hk3, hi3⟩ := hp;obtain ⟨hr, hl3, hl4, hk4⟩ := fin (some (.goto t)) W3 hk3;exact ⟨_, _, hr, .inr ⟨rfl, .goto t, (hJx _).put _ hi3 (by omega) hl3 rfl, hl4, hk4⟩⟩
        | panic ch => exact hp.elim
        | outgrown => exact hp.elim
      | exit id => exact hp.elim
      | goto t => exact hp.elim
      | ret => exact hp.elim
      | panic chain => exact hp.elim
      | outgrown => exact hp.elim
    · rintro e W2 ⟨⟨v, rfl⟩, (⟨s, hS, hi, hl, hk⟩ | ⟨c, hi, hl, hk⟩)⟩
      · exact ⟨none, _, by have := run_endLoop (P := P) hl (by rw [hrec]; simp); rw [hrec] at this; exact this, hdone _ s _ (Nat.le_refl _) hS ((hJ s).put _ hi (by omega) hl rfl) ((World.putObj_heap_other (by omega)).trans hk)⟩
      · exact ⟨some c, _, by have := run_endLoop (P := P) hl (by rw [hrec]; simp); rw [hrec] at this; exact this, hstop _ c _ (Nat.le_refl _) ((hJx c).put _ hi (by omega) hl rfl) ((World.putObj_heap_other (by omega)).trans hk)⟩
theorem range_inner {P : Program} {σ α : Type} {g : Operand} {ps : Array Tmp} {assign body : Code} {Q : Exit → Act → World → Prop} {a : Act} {w : World} {l0 : Nat} {r0 : Loop} (hl0 : w.heap[l0]? = some (.loop r0)) {gf : Nat} {lb : Array Value}
    (hg : a.eval g = .func (.func gf) #[] lb) (eg : ∀ args w, (callFunc gf args).run P w = .ok (.enter gf args) w)
    {enc : α → Array Value} {ok : σ → α → Prop} {nx : σ → α → σ} {s0 : σ} {Fin : σ → Prop} {Inv : σ → World → Prop} (hit : Iter P gf lb enc ok nx s0 Fin Inv)
    (hps : ∀ x, (enc x).size = ps.size)
    (J : σ → World → Prop) (Jx : Code → World → Prop) (A : σ → α → Act → World → Prop)
    (hJ : ∀ s, Steady w.heap.size (J s)) (hJx : ∀ c, Steady w.heap.size (Jx c)) (hA : ∀ s x a, Steady w.heap.size (A s x a)) (hInv : ∀ s W, J s W → Inv s W)
    (h0 : J s0 w)
    (hassign : ∀ (l : Nat) (s : σ) (x : α) (W : World), ok s x → J s W →
      assign.wpIn (Fence.wide.inRound l) 0 P (Exit.then (fun a1 W1 => Keep W W1 ∧ J s W1 ∧ A s x a1 W1) (fun _ _ _ => False)) { tmps := (ps.zip (enc x)).foldl (fun t (p, v) => t.setIfInBounds p v) a.tmps, defers := [] } W)
    (hbody : ∀ (l : Nat) (s : σ) (x : α) (a1 : Act) (W : World), w.heap.size ≤ l → (∃ r, W.heap[l]? = some (.loop r)) → ok s x → J s W → A s x a1 W →
      body.wpIn (Fence.wide.inRound l) 0 P (roundEnd (fun W' => Keep W W' ∧ J (nx s x) W') (fun c W' => Keep W W' ∧ Jx c W')) a1 W)
    (hdone : ∀ (s : σ) (W : World), Fin s → J s W → Q .normal a W)
    (hstop : ∀ (c : Code) (W : World), Jx c W → c.wpIn (Fence.wide.inRound l0) 0 P Q a W) :
    (Code.rangeFunc g ps assign body).wpIn (Fence.wide.inRound l0) 0 P Q a w := by
  refine wpIn_rangeFunc ?_
  intro fn hfn
  obtain ⟨rec, hrec⟩ : ∃ rec : LoopState → Option Code → Loop, rec = fun st pe => { state := st, pending := pe, fn, tmps := a.tmps, params := ps, assign, body, defers := r0.defers } := ⟨_, rfl⟩
  obtain ⟨W1, hW1⟩ : ∃ W1, w.alloc (.loop (rec .ready none)) = W1 := ⟨_, rfl⟩
  have hL1 : W1.heap[w.heap.size]? = some (.loop (rec .ready none)) := by rw [← hW1]; exact World.alloc_heap_new w _
  have hb1 : Below w.heap.size w W1 := by rw [← hW1]; exact (Below.refl _ w).alloc (Nat.le_refl _) _
  have hI1 : J s0 W1 := (hJ s0).ext h0 hb1
  have keepE : ∀ {W W' : World} {k : Nat} {o : Obj}, W.heap[k]? = some o → Below W.heap.size W W' → W'.heap[k]? = some o :=
    fun hk hb => (hb.block _ (Array.getElem?_eq_some_iff.1 hk).1).trans hk
  refine ⟨w.heap.size, [], W1, { target := .fn (.func gf) lb, args := #[.func (.yield w.heap.size) #[] #[]] }, W1, gf,
    #[.func (.yield w.heap.size) #[] #[]] ++ lb, W1, ?_, ?_, ?_, ?_, fun h => by simp [Fence.wide] at h, ?_⟩
  · rw [← hW1, hrec]; exact run_enterLoop_inner hl0 _ _ _ _ _
  · simp only [resolve, hg];simp [go_sem]
  · intro f' hf'; trivial
  · simp [invoke, go_sem, eg]
  · refine CallsIn.mono (hit w.heap.size
      (fun s W => J s W ∧ W.heap[w.heap.size]? = some (.loop (rec .ready none)))
      (fun W => ∃ c, Jx c W ∧ W.heap[w.heap.size]? = some (.loop (rec .done (some c))))
      W1 (fun s A B h hb => ⟨(hJ s).ext h.1 hb, keepE h.2 hb⟩)
      (fun A B h hb => by obtain ⟨c, h1, h2⟩ := h; exact ⟨c, (hJx c).ext h1 hb, keepE h2 hb⟩)
      (fun s W h => hInv s W h.1) ?_ ⟨hI1, hL1⟩) ?_
    · rintro s x W hok ⟨hi, hl⟩;have hy := run_yield (P := P) (args := enc x) hl (by rw [hrec]; exact hps x);rw [hrec] at hy;refine ⟨fn, _, assign, body, hy, roundIn_of_wpIn (F := Fence.wide) hfn (wpIn_mono (hassign _ s x W hok hi) ?_)⟩;rintro e a1 V hp;cases e with
      | normal =>
        obtain ⟨hkp, hiV, hAV⟩ := hp;have hlV := hkp _ _ hl rfl;have hlt : w.heap.size < V.heap.size := (Array.getElem?_eq_some_iff.1 hlV).1;refine ⟨_, run_beginRound hlV (by rw [hrec]), ?_⟩;have hl2 : (V.putObj w.heap.size (.loop { rec .ready none with state := .busy })).heap[w.heap.size]? = some (.loop { rec .ready none with state := .busy }) := World.putObj_heap_same hlt;refine wpIn_mono (hbody _ s x a1 _ (Nat.le_refl _) ⟨_, hl2⟩ hok ((hJ s).put _ hiV (Nat.le_refl _) hlV rfl) ((hA s x a1).put _ hAV (Nat.le_refl _) hlV rfl)) ?_;have fin : ∀ (jump : Option Code) (W3 : World), Keep (V.putObj w.heap.size (.loop { rec .ready none with state := .busy })) W3 →
            (Instr.endRound w.heap.size jump).run P W3 = .ok (.bool jump.isNone) (W3.putObj w.heap.size (.loop (rec (if jump.isNone then .ready else .done) jump))) ∧
            W3.heap[w.heap.size]? = some (.loop { rec .ready none with state := .busy }) ∧
            (W3.putObj w.heap.size (.loop (rec (if jump.isNone then .ready else .done) jump))).heap[w.heap.size]? = some (.loop (rec (if jump.isNone then .ready else .done) jump)) := fun jump W3 hk3 => by
          have hl3 := hk3 _ _ hl2 rfl;have := run_endRound (P := P) jump hl3;rw [hrec] at this ⊢;exact ⟨this, by rw [hrec] at hl3; exact hl3, World.putObj_heap_same (Array.getElem?_eq_some_iff.1 hl3).1⟩
        rintro e a3 W3 hp;cases e with
        | normal =>
          obtain ⟨hk3, hi3⟩ := hp;obtain ⟨hr, hl3, hl4⟩ := fin none W3 hk3;exact ⟨_, _, hr, .inl ⟨rfl, (hJ _).put _ hi3 (Nat.le_refl _) hl3 rfl, hl4⟩⟩
        | ret =>
          obtain ⟨hk3, hi3⟩ := hp;obtain ⟨hr, hl3, hl4⟩ := fin (some .ret) W3 hk3;exact ⟨_, _, hr, .inr ⟨rfl, .ret, (hJx _).put _ hi3 (Nat.le_refl _) hl3 rfl, hl4⟩⟩
        | exit id =>
          obtain ⟨hk3, hi3⟩ := hp;obtain ⟨hr, hl3, hl4⟩ := fin (some (.exit id)) W3 hk3;exact ⟨_, _, hr, .inr ⟨rfl, .exit id, (hJx _).put _ hi3 (Nat.le_refl _) hl3 rfl, hl4⟩⟩
        | goto t =>
          obtain ⟨hk3, hi3⟩ := hp;obtain ⟨hr, hl3, hl4⟩ := fin (some (.goto t)) W3 hk3;exact ⟨_, _, hr, .inr ⟨rfl, .goto t, (hJx _).put _ hi3 (Nat.le_refl _) hl3 rfl, hl4⟩⟩
        | panic ch => exact hp.elim
        | outgrown => exact hp.elim
      | exit id => exact hp.elim
      | goto t => exact hp.elim
      | ret => exact hp.elim
      | panic chain => exact hp.elim
      | outgrown => exact hp.elim
    · rintro e W2 ⟨⟨v, rfl⟩, (⟨s, hS, hi, hl⟩ | ⟨c, hi, hl⟩)⟩
      · exact ⟨none, _, by have := run_endLoop (P := P) hl (by rw [hrec]; simp); rw [hrec] at this; exact this, hdone s _ hS ((hJ s).put _ hi (Nat.le_refl _) hl rfl)⟩
      · exact ⟨some c, _, by have := run_endLoop (P := P) hl (by rw [hrec]; simp); rw [hrec] at this; exact this, hstop c _ ((hJx c).put _ hi (Nat.le_refl _) hl rfl)⟩
theorem range_listN {P : Program} {α : Type} {g : Operand} {ps : Array Tmp} {assign body : Code} {Q : Exit → Act → World → Prop} {a : Act} {w : World} {gf : Nat} {lb : Array Value}
    (hg : a.eval g = .func (.func gf) #[] lb) (eg : ∀ args w, (callFunc gf args).run P w = .ok (.enter gf args) w)
    {enc : α → Array Value} {l : List α} (I : World → Prop) (hit : IterI P gf lb enc l I) (hps : ∀ x, (enc x).size = ps.size)
    (J : List α → List α → World → Prop) (Jx : Code → World → Prop)
    (hJ : ∀ d r, Steady w.heap.size (J d r)) (hJx : ∀ c, Steady w.heap.size (Jx c)) (hInv : ∀ d r W, J d r W → I W)
    (h0 : J [] l w)
    (hround : ∀ (lp : Nat) (d : List α) (x : α) (r : List α) (W : World), l = d ++ x :: r → J d (x :: r) W →
      assign.wpIn (Fence.wide.inRound lp) 0 P (Exit.then (fun a1 W1 => Keep W W1 ∧ J d (x :: r) W1 ∧ ∀ (lp : Nat) (W2 : World), w.heap.size ≤ lp → (∃ rc, W2.heap[lp]? = some (.loop rc)) → J d (x :: r) W2 →
        body.wpIn (Fence.wide.inRound lp) 0 P (roundEnd (fun W' => Keep W2 W' ∧ J (d ++ [x]) r W') (fun c W' => Keep W2 W' ∧ Jx c W')) a1 W2) (fun _ _ _ => False)) { tmps := (ps.zip (enc x)).foldl (fun t (p, v) => t.setIfInBounds p v) a.tmps, defers := [] } W)
    (hdone : ∀ (D : Nat) (W : World), w.heap.size ≤ D → J l [] W → W.heap[D]? = some (.deferred (some [])) → Q .normal { a with defers := { target := .collected D, args := #[] } :: a.defers } W)
    (hstop : ∀ (D : Nat) (c : Code) (W : World), w.heap.size ≤ D → Jx c W → W.heap[D]? = some (.deferred (some [])) → c.wpIn Fence.wide 0 P Q { a with defers := { target := .collected D, args := #[] } :: a.defers } W) :
    (Code.rangeFunc g ps assign body).wpIn Fence.wide 0 P Q a w := by
  refine range_outerN (enc := enc) hg eg hit hps (fun s W => ∃ d, l = d ++ s ∧ J d s W) Jx
    (fun s x a1 _ => ∀ (d : List α) (lp : Nat) (W2 : World), w.heap.size ≤ lp → (∃ rc, W2.heap[lp]? = some (.loop rc)) → l = d ++ s → J d s W2 → body.wpIn (Fence.wide.inRound lp) 0 P (roundEnd (fun W' => Keep W2 W' ∧ J (d ++ [x]) (nxL s x) W') (fun c W' => Keep W2 W' ∧ Jx c W')) a1 W2)
    (fun s => Steady.ex fun d => (Steady.pure _ _).and (hJ d s)) hJx (fun _ _ _ => Steady.pure _ _) (fun s W ⟨d, _, h⟩ => hInv d s W h) ⟨[], rfl, h0⟩ ?_ ?_ ?_ hstop
  · rintro lp s x W hok ⟨d, hd, hj⟩;have hs := okL_cons hok;generalize nxL s x = r at hs ⊢;subst hs;refine wpIn_mono (hround lp d x r W hd hj) ?_;rintro e a1 W1 he;cases e with
    | normal =>
      obtain ⟨h1, h2, h3⟩ := he;refine ⟨h1, ⟨d, hd, h2⟩, fun d' lp' W2 hlp' hrc' hd' hj' => ?_⟩;have : d' = d := by
        have := hd'.symm.trans hd;exact List.append_cancel_right this
      subst this;exact h3 lp' W2 hlp' hrc' hj'
    | _ => exact he.elim
  · rintro lp s x a1 W hlp hrc hok ⟨d, hd, hj⟩ hA;refine wpIn_mono (hA d lp W hlp hrc hd hj) ?_;rintro e a3 W3 he;cases e with
    | normal =>
      refine ⟨he.1, d ++ [x], ?_, he.2⟩;rw [hd, List.append_assoc]
      congr 1
      exact okL_cons hok
    | ret => exact he
    | exit id => exact he
    | goto t => exact he
    | panic ch => exact he.elim
    | outgrown => exact he.elim
  · rintro D s W hD hf ⟨d, hd, hj⟩ hk;have hf : s = [] := hf;subst hf;rw [List.append_nil] at hd;subst hd;exact hdone D W hD hj hk
theorem range_listI {P : Program} {α : Type} {g : Operand} {ps : Array Tmp} {assign body : Code} {Q : Exit → Act → World → Prop} {a : Act} {w : World} {l0 : Nat} {r0 : Loop} (hl0 : w.heap[l0]? = some (.loop r0)) {gf : Nat} {lb : Array Value}
    (hg : a.eval g = .func (.func gf) #[] lb) (eg : ∀ args w, (callFunc gf args).run P w = .ok (.enter gf args) w)
    {enc : α → Array Value} {l : List α} (I : World → Prop) (hit : IterI P gf lb enc l I) (hps : ∀ x, (enc x).size = ps.size)
    (J : List α → List α → World → Prop) (Jx : Code → World → Prop)
    (hJ : ∀ d r, Steady w.heap.size (J d r)) (hJx : ∀ c, Steady w.heap.size (Jx c)) (hInv : ∀ d r W, J d r W → I W)
    (h0 : J [] l w)
    (hround : ∀ (lp : Nat) (d : List α) (x : α) (r : List α) (W : World), l = d ++ x :: r → J d (x :: r) W →
      assign.wpIn (Fence.wide.inRound lp) 0 P (Exit.then (fun a1 W1 => Keep W W1 ∧ J d (x :: r) W1 ∧ ∀ (lp : Nat) (W2 : World), w.heap.size ≤ lp → (∃ rc, W2.heap[lp]? = some (.loop rc)) → J d (x :: r) W2 →
        body.wpIn (Fence.wide.inRound lp) 0 P (roundEnd (fun W' => Keep W2 W' ∧ J (d ++ [x]) r W') (fun c W' => Keep W2 W' ∧ Jx c W')) a1 W2) (fun _ _ _ => False)) { tmps := (ps.zip (enc x)).foldl (fun t (p, v) => t.setIfInBounds p v) a.tmps, defers := [] } W)
    (hdone : ∀ (W : World), J l [] W → Q .normal a W)
    (hstop : ∀ (c : Code) (W : World), Jx c W → c.wpIn (Fence.wide.inRound l0) 0 P Q a W) :
    (Code.rangeFunc g ps assign body).wpIn (Fence.wide.inRound l0) 0 P Q a w := by
  refine range_inner (enc := enc) hl0 hg eg hit hps (fun s W => ∃ d, l = d ++ s ∧ J d s W) Jx
    (fun s x a1 _ => ∀ (d : List α) (lp : Nat) (W2 : World), w.heap.size ≤ lp → (∃ rc, W2.heap[lp]? = some (.loop rc)) → l = d ++ s → J d s W2 → body.wpIn (Fence.wide.inRound lp) 0 P (roundEnd (fun W' => Keep W2 W' ∧ J (d ++ [x]) (nxL s x) W') (fun c W' => Keep W2 W' ∧ Jx c W')) a1 W2)
    (fun s => Steady.ex fun d => (Steady.pure _ _).and (hJ d s)) hJx (fun _ _ _ => Steady.pure _ _) (fun s W ⟨d, _, h⟩ => hInv d s W h) ⟨[], rfl, h0⟩ ?_ ?_ ?_ hstop
  · rintro lp s x W hok ⟨d, hd, hj⟩;have hs := okL_cons hok;generalize nxL s x = r at hs ⊢;subst hs;refine wpIn_mono (hround lp d x r W hd hj) ?_;rintro e a1 W1 he;cases e with
    | normal =>
      obtain ⟨h1, h2, h3⟩ := he;refine ⟨h1, ⟨d, hd, h2⟩, fun d' lp' W2 hlp' hrc' hd' hj' => ?_⟩;have : d' = d := by
        have := hd'.symm.trans hd;exact List.append_cancel_right this
      subst this;exact h3 lp' W2 hlp' hrc' hj'
    | _ => exact he.elim
  · rintro lp s x a1 W hlp hrc hok ⟨d, hd, hj⟩ hA;refine wpIn_mono (hA d lp W hlp hrc hd hj) ?_;rintro e a3 W3 he;cases e with
    | normal =>
      refine ⟨he.1, d ++ [x], ?_, he.2⟩;rw [hd, List.append_assoc]
      congr 1
      exact okL_cons hok
    | ret => exact he
    | exit id => exact he
    | goto t => exact he
    | panic ch => exact he.elim
    | outgrown => exact he.elim
  · rintro s W hf ⟨d, hd, hj⟩;have hf : s = [] := hf;subst hf;rw [List.append_nil] at hd;subst hd;exact hdone W hj
end

section
open Go.RowKit Go.Shelf
structure BldJ (W0 : World) (d : WalkD) (P base : Nat) (v : Value) (L : List PartD) (W : World) : Prop where
  bld : W.heap[P]? = some (bldO d v)
  parts : PartsIn W base v L
  low : P < base
  bs : base ≤ W.heap.size
  w0 : W0.heap.size ≤ P
  ext : Below W0.heap.size W0 W
def SP (P : Nat) (v : Value) (k : Nat) : Prop := k = P ∨ v.ownBlock = some k
theorem Chg.then {S T : Nat → Prop} {a b c : World} (h : Chg S a b) (k : Chg T b c) (hs : ∀ q, T q → S q ∨ a.heap.size ≤ q) : Chg S a c :=
  ⟨k.os.trans h.os, k.tape.trans h.tape, k.output.trans h.output, Nat.le_trans h.size k.size, fun q hq hn =>
    (k.block q (Nat.lt_of_lt_of_le hq h.size) (fun ht => (hs q ht).elim hn (by omega))).trans (h.block q hq hn)⟩
theorem Steady.chg {S : Nat → Prop} {w : World} {D : Nat} (hD : w.heap.size ≤ D) : Steady D (fun W => Chg S w W) := fun W W' row h hg hr => h.grown hg (fun k e => .inr (Nat.le_trans hD (hr k e).1))
theorem own_other {w : World} {base : Nat} {e t : TypeId} {size : Nat} {v : Value} {n k : Nat} {xs : List Value} {cs : Array Value} {fr : Nat × Nat} (h : w.ownsRow base e size v n xs) (hk : w.heap[k]? = some (.cells cs t fr)) (ht : t ≠ e) : v.ownBlock ≠ some k := by
  intro hv
  rcases h.2 with ⟨rfl, _⟩ | ⟨g, cap, cur, rfl, _, hg, _⟩
  · cases hv
  · simp only [Value.ownBlock, Option.some.injEq] at hv;subst hv;rw [hk] at hg;injection hg with hg;injection hg with _ hg _;exact ht hg
theorem grown_tr {a b c : World} {row : Option Nat} (h : a.grownBy b row) (k : b.grownBy c row) : a.grownBy c row :=
  ⟨k.os.trans h.os, k.tape.trans h.tape, k.output.trans h.output, Nat.le_trans h.size k.size, fun q hq hn => (k.block q (Nat.lt_of_lt_of_le hq h.size) hn).trans (h.block q hq hn)⟩
theorem grown_drew (w : World) (row : Option Nat) : w.grownBy w.drew row := ⟨rfl, rfl, rfl, Nat.le_refl _, fun _ _ _ => rfl⟩
theorem grown_same (w : World) (row : Option Nat) : w.grownBy w row := ⟨rfl, rfl, rfl, Nat.le_refl _, fun _ _ _ => rfl⟩
theorem drew_ext (w : World) : Below w.heap.size w w.drew := ext_drewN (Below.refl _ _) 1
section
variable {W0 W W' W3 : World} {d : WalkD} {P base : Nat} {v v' : Value} {L M : List PartD}
theorem BldJ.own (h : BldJ W0 d P base v L W) {q : Nat} (hq : v.ownBlock = some q) : base ≤ q ∧ q < W.heap.size := OwnR.low h.parts hq
theorem BldJ.grown {row : Option Nat} (h : BldJ W0 d P base v L W) (hg : W.grownBy W' row) (hr : ∀ q, row = some q → W0.heap.size ≤ q ∧ q ≠ P ∧ v.ownBlock ≠ some q) : BldJ W0 d P base v L W' where
  bld := grown_row hg h.bld fun e => (hr P e).2.1 rfl
  parts := OwnR.kept h.parts hg (by
    cases e : v.ownBlock with
    | none => exact .inl rfl
    | some q => exact .inr fun e2 => (hr q e2.symm).2.2 e)
  low := h.low
  bs := Nat.le_trans h.bs hg.size
  w0 := h.w0
  ext := h.ext.grown hg h.ext.size fun q e => (hr q e).1
theorem BldJ.ext' (h : BldJ W0 d P base v L W) (hb : Below W.heap.size W W') : BldJ W0 d P base v L W' :=
  h.grown (row := none) ⟨hb.os, hb.tape, hb.output, hb.size, fun k hk _ => hb.block k hk⟩ fun q e => by cases e
theorem BldJ.steady {D : Nat} (hD : W0.heap.size ≤ D) : Steady D (BldJ W0 d P base v L) := fun W W' row h hg hr =>
  ⟨(Steady.block D P (o := bldO d v) rfl) W W' row h.bld hg hr, (Steady.ownR D base v L) W W' row h.parts hg hr, h.low, Nat.le_trans h.bs hg.size, h.w0, (Steady.below (n₀ := W0.heap.size) (w₀ := W0) (Nat.le_refl _) hD) W W' row h.ext hg hr⟩
theorem BldJ.cell (h : BldJ W0 d P base v L W) : W.cell? ⟨P, 4, none⟩ = some v := by rw [cell_of_row _ _ _ _ _ _ h.bld]; rfl
theorem BldJ.keep (h : BldJ W0 d P base v L W) (hc : Chg (SP P v) W W') : Keep W W' := fun k o hk ho => hc.row hk fun hs => by
  rcases hs with rfl | hs
  · rw [h.bld] at hk; cases hk; cases ho
  · rcases h.parts.1.2 with ⟨e, _⟩ | ⟨g, cap, cur, e, _, hg, _⟩
    · rw [e] at hs; cases hs
    · rw [e] at hs;simp only [Value.ownBlock, Option.some.injEq] at hs;subst hs;rw [hg] at hk;cases hk;cases ho
theorem bld_walk (h : W.heap[P]? = some (bldO d v)) : W.rangeAt P 0 [.slice d.pa d.pn d.pc, .slice d.ba d.bn d.bc, .slice d.ta d.bn d.tc, .slice d.fa d.bn d.fc] := by
  intro k u hk
  rw [cell_of_row _ _ _ _ _ _ h, Nat.zero_add]
  have hlt := (List.getElem?_eq_some_iff.1 hk).1
  simp only [List.length_cons, List.length_nil, Nat.reduceAdd] at hlt
  have : k = 0 ∨ k = 1 ∨ k = 2 ∨ k = 3 := by omega
  rcases this with rfl | rfl | rfl | rfl <;> simpa using hk
theorem BldJ.app (h : BldJ W0 d P base v L W) (hg : W.grownBy W3 v.ownBlock) (ho : W3.ownsRow base 128 202 v' (L.length + M.length) (L.flatMap partC ++ M.flatMap partC)) (hn : L.length + M.length ≤ 1000000) :
    BldJ W0 d P base v' (L ++ M) (W3.setCell ⟨P, 4, none⟩ v') ∧ Chg (SP P v) W (W3.setCell ⟨P, 4, none⟩ v') := by
  have hlow := h.low
  have hw0 := h.w0
  have hb3 : W3.heap[P]? = some (bldO d v) := grown_row hg h.bld fun e => by have := (h.own e).1; omega
  have g := grown_setCell W3 P 4 v'
  have hp : PartsIn W3 base v' (L ++ M) := ⟨by rw [List.length_append, List.flatMap_append]; exact ho, by rw [List.length_append]; omega⟩
  refine ⟨⟨?_, ?_, hlow, ?_, hw0, ?_⟩, ?_⟩
  · have := heap_setCell_same W3 P 4 _ _ v' hb3;simpa using this
  · refine OwnR.kept hp g ?_;cases e : v'.ownBlock with
    | none => exact .inl rfl
    | some q =>
      have := (OwnR.low hp e).1;exact .inr fun e2 => by injection e2 with e2; omega
  · have := h.bs;have := hg.size;simp;omega
  · exact (h.ext.grown hg h.ext.size fun q e => by have := (h.own e).1; omega).setCell (by show W0.heap.size ≤ P; omega) _
  · exact ((Chg.refl (SP P v) W).grown hg (fun k e => .inl (.inr e))).setCell (.inl (.inl rfl)) _
end
def BldPost (W0 : World) (d : WalkD) (P base : Nat) (v : Value) (w : World) (L : List PartD) (e : Ending) (w' : World) : Prop :=
  e = .returned (.tuple #[]) ∧ ∃ v', BldJ W0 d P base v' L w' ∧ Chg (SP P v) w w' ∧ ∀ q, v'.ownBlock = some q → v.ownBlock = some q ∨ w.heap.size ≤ q
theorem infoPart : (Tryz.prog.info? 128).map (fun i => (i.zero, i.size, i.bytes)) = some (some (.agg Tryz.zeroCells128), 202, 216) := by kernel_rfl
end
end Go.Proofs.YtblhmdhfhaencaaGreat
