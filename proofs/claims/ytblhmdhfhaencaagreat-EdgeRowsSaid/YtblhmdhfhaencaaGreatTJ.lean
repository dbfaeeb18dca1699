/-
  Tile: where some blocks are entered.
-/
import Derived.Test.YtblhmdhfhaencaaGreatTH
namespace Go.Proofs.YtblhmdhfhaencaaGreat
set_option linter.unusedSimpArgs false
set_option linter.unusedVariables false
open Go.RowKit Go.Shelf
attribute [local go_sem] Oper.semAt_some wide_fn wide_depth wide_fnR wide_depthR

theorem ent1_any (f : Nat → Bool) (S : Nat) (x : Nat) (hx : x < 200) (W : World) (hS : W.heap[S]? = some (setO f)) :
    Calls Tryz.prog 169 (#[.int .i64 (x : Int)] ++ #[.pointer (some ⟨S, 0, none⟩)]) W fun e W' => e = .returned (.bool (!f x)) ∧ Below W.heap.size W W' := by
  show Calls Tryz.prog 169 #[.int .i64 (x : Int), .pointer (some ⟨S, 0, none⟩)] W _
  have hc := set_cell hS x hx
  generalize f x = b at *
  clear hS
  go_enter Tryz.func169, Tryz.ntmps169
  go_wp2
  go_ret
  exact ⟨rfl, Below.refl _ _⟩
theorem enter_ent1 (args : Array Value) (w : World) : (callFunc 169 args).run Tryz.prog w = .ok (.enter 169 args) w := enters_of Tryz.func169 (by kernel_rfl) rfl args w
/-- is a block of some one where they are entered? -/
def entB (ts : List TermD) (f : Nat → Bool) (b : Nat) : Bool := decide (b < ts.length) && (pv ts b).any fun x => !f x
theorem any_intsN (f : Nat → Bool) (l : List Nat) : ((intsN l).any fun z => !f z.toNat) = l.any fun q => !f q := by
  rw [intsN, List.any_map]
  rfl
theorem entriesS_eq (ts : List TermD) (f : Nat → Bool) : entriesS ts f = (listS f).filter (entB ts f) := rfl
/-- what lies where while entries are put together -/
def EJ (w : World) (d : WalkD) (f : Nat → Bool) (xs : List Int) (W : World) : Prop :=
  W.heap[w.heap.size]? = some (walkO d) ∧ W.heap[w.heap.size + 1]? = some (setO f) ∧ W.heap[w.heap.size + 1 + 1 + 1]? = some (.cells #[.pointer (some ⟨w.heap.size + 1, 0, none⟩)] 189 (0, 0)) ∧
    (∃ v, W.heap[w.heap.size + 1 + 1]? = some (.cells #[v] 22 (0, 0)) ∧ OwnI W (w.heap.size + 1 + 1 + 1 + 1) v xs) ∧ Below w.heap.size w W ∧ w.heap.size + 1 + 1 + 1 < W.heap.size
theorem EJ.steady {w : World} {d : WalkD} {f : Nat → Bool} {xs : List Int} {D : Nat} (hD : w.heap.size ≤ D) : Steady D (EJ w d f xs) := by
  unfold EJ
  exact (Steady.block _ _ rfl).and ((Steady.block _ _ rfl).and ((Steady.block _ _ rfl).and ((Steady.ex fun v => (Steady.block _ _ rfl).and (Steady.ownI _ _ _ _)).and ((Steady.below (Nat.le_refl _) hD).and (Steady.size _ _)))))
theorem EJ.ext {w W W' : World} {d : WalkD} {f : Nat → Bool} {xs : List Int} (h : EJ w d f xs W) (hb : Below W.heap.size W W') : EJ w d f xs W' := (EJ.steady (Nat.le_refl _)).ext h hb
/-- one more is put behind those that are told -/
theorem EJ.app {w W W' : World} {d : WalkD} {f : Nat → Bool} {xs : List Int} {v : Value} (hv : W.heap[w.heap.size + 1 + 1]? = some (.cells #[v] 22 (0, 0))) (ho : OwnI W (w.heap.size + 1 + 1 + 1 + 1) v xs) (h : EJ w d f xs W) (hg : W.grownBy W' v.ownBlock) (v' : Value) (x : Int) (hx : I64 x) (hn : xs.length ≤ 1000) (ho' : W'.ownsRow (w.heap.size + 1 + 1 + 1 + 1) 3 1 v' (xs.length + 1) (intVals xs ++ [.int .i64 x])) :
    EJ w d f (xs ++ [x]) (W'.setCell ⟨w.heap.size + 1 + 1, 0, none⟩ v') ∧ Keep W (W'.setCell ⟨w.heap.size + 1 + 1, 0, none⟩ v') := by
  obtain ⟨h1, h2, h3, _, h5, h6⟩ := h
  have low : ∀ q, q < w.heap.size + 1 + 1 + 1 + 1 → v.ownBlock ≠ some q := fun q hq e => by have := (ho.1.lt q e).1; omega
  have g := grown_setCell W' (w.heap.size + 1 + 1) 0 v'
  have hv2 := grown_row hg hv (low _ (by omega))
  refine ⟨⟨grown_row g (grown_row hg h1 (low _ (by omega))) (by simp; omega), grown_row g (grown_row hg h2 (low _ (by omega))) (by simp), grown_row g (grown_row hg h3 (low _ (by omega))) (by simp), ⟨v', ?_, ?_⟩, (h5.grown hg h5.size (fun r e => by have := (ho.1.lt r e).1; omega)).setCell (by simp; omega) _, by have := hg.size; simp; omega⟩,
    (Keep.grown hg (own_nobook ho.1)).trans (Keep.setCell _ _ _)⟩
  · have := heap_setCell_same W' (w.heap.size + 1 + 1) 0 _ _ v' hv2
    simpa using this
  · have e3 : (xs ++ [x]).length = xs.length + 1 := by simp
    have e4 : intVals (xs ++ [x]) = intVals xs ++ [.int .i64 x] := by simp [intVals]
    refine OwnI.kept (w := W') ⟨by rw [e3, e4]; exact ho', fun z hz => ?_, by rw [e3]; omega⟩ g ?_
    · rcases List.mem_append.1 hz with h | h
      · exact ho.2.1 z h
      · simp only [List.mem_singleton] at h
        subst h; exact hx
    · cases e : v'.ownBlock with
      | none => exact .inl rfl
      | some k =>
        have := (ho'.lt k e).1
        refine .inr ?_
        intro e2
        injection e2 with e2
        omega
set_option maxRecDepth 100000 in
set_option maxHeartbeats 4000000 in
theorem entries_any (d : WalkD) (ts : List TermD) (f : Nat → Bool) (w : World) (hok : WalkOK w d ts) (hg : goodB ts = true) :
    Calls Tryz.prog 106 #[walkV d, .agg (setA f)] w (IntsPost w (intsN (entriesS ts f))) := by
  refine (callsIn_wide (n := 0)).1 ?_
  refine callsIn_of_wp_marks Tryz.func106 rfl trivial ?_
  simp only [Tryz.ntmps106, List.size_toArray, List.length_cons, List.length_nil, Nat.reduceAdd, Nat.reduceSub, Array.replicate_succ, Array.replicate_zero, List.push_toArray, List.append_toArray, List.nil_append, List.cons_append]
  have HOK := Lib.hid hok
  have HPV := Lib.hid (WalkOK.nx_lt (w := w) (d := d) hg).2
  have hdl : ts.length = d.bn := hok.1
  have hdn : d.bn ≤ 200 := hok.2.1
  have HDL := Lib.hid hdl
  clear hok hg hdl
  gi_wp2_with (gi_at_call 88; refine (callsIn_wide.2 (each_any _ _)).mono ?_; rintro e w' ⟨rfl, rfl⟩)
  refine range_list (ps := #[7]) (gf := 139) (lb := #[.pointer (some ⟨w.heap.size + 1 + 1 + 1, 0, none⟩)]) (enc := encN) (l := listS f) rfl enter_each _ (each_iterI f (w.heap.size + 1 + 1 + 1) (w.heap.size + 1)) (fun _ => rfl)
    (fun dn r W => Hid (EJ w d f (intsN (dn.filter (entB ts f))) W)) (fun _ _ => False)
    (fun dn r => EJ.steady (by simp; omega)) (fun c => Steady.pure _ _) (fun dn r W h => ⟨by rw [cell_of_row _ _ _ _ _ _ h.out.2.2.1]; rfl, h.out.2.1⟩) ?start ?round ?done ?stop
  case start =>
    refine ⟨?_, ?_, ?_, ⟨_, ?_, OwnI.nil _ _⟩, ?_, by simp⟩
    · rw [Below.heap_alloc _ _ _ (by simp; omega), Below.heap_alloc _ _ _ (by simp; omega), Below.heap_alloc _ _ _ (by simp)]; exact heap_alloc_new _ _
    · rw [Below.heap_alloc _ _ _ (by simp), Below.heap_alloc _ _ _ (by simp)]; exact heap_at _ _ _ (by simp)
    · exact heap_at _ _ _ (by simp)
    · rw [Below.heap_alloc _ _ _ (by simp)]; exact heap_at _ _ _ (by simp)
    · exact (((ext_alloc _ _).alloc (by simp) _).alloc (by simp; omega) _).alloc (by simp; omega) _
  case round =>
    rintro lp dn x r W hd hJ
    unfold encN
    gi_wp2
    refine ⟨Keep.refl _, hJ, ?_⟩
    clear hJ lp W
    rintro lp W hJ
    obtain ⟨j1, j2, j3, ⟨v, j4, jo⟩, jb, js⟩ := hJ.out
    have hxl : x < 200 := listS_lt f x (by rw [hd]; simp)
    have hc3 : W.cell? ⟨w.heap.size, 3, none⟩ = some (.slice d.fa d.bn d.fc) := by rw [cell_of_row _ _ _ _ _ _ j1]; rfl
    by_cases hxb : x < d.bn
    · obtain ⟨b, o, ra, rc, rfa, hcr, hir⟩ := (HOK.out.ext jb).2.2.2.2.2 x (pv ts x) (by simp [fromRows, HDL.out, hxb])
      rw [rfa] at hc3
      have J2 := Lib.hid j2
      have HIR := Lib.hid hir
      have HPX : Hid (∀ z ∈ intsN (pv ts x), ∃ q : Nat, z = (q : Int) ∧ q < 200) := fun z hz => by
        simp only [intsN, List.mem_map] at hz
        obtain ⟨q, hq, rfl⟩ := hz
        exact ⟨q, rfl, HPV.out x q hq⟩
      have hxb' : (x : Int) < (d.bn : Int) := by omega
      clear j1 j2 j3 j4 jo jb js hir
      by_cases hent : entB ts f x = true
      · have HANY : Hid (((intsN (pv ts x)).any fun z => !f z.toNat) = true) := by
          rw [Hid, any_intsN]
          simp only [entB, Bool.and_eq_true] at hent
          exact hent.2
        have HFL : Hid (intsN ((dn ++ [x]).filter (entB ts f)) = intsN (dn.filter (entB ts f)) ++ [(x : Int)]) := by
          rw [Hid, List.filter_append, List.filter_cons, if_pos hent]
          simp [intsN]
        have hlen : (intsN (dn.filter (entB ts f))).length ≤ 1000 := by
          have h1 := listS_len f
          rw [hd] at h1
          have h2 := List.length_filter_le (entB ts f) dn
          simp [intsN] at h1 ⊢
          omega
        clear hent
        gi_wp2_with (first
          | (gi_at_call 168
             refine (CallsIn.inRound _ (callsIn_wide.2 (containsFunc_any 169 #[.pointer (some ⟨w.heap.size + 1, 0, none⟩)] enter_ent1 (fun z => !f z.toNat) _ _ _ (intsN (pv ts x)) W (fun z W' hz hb => ?_) HIR.out))).mono ?_
             · obtain ⟨q, rfl, hq⟩ := HPX.out z hz
               exact ent1_any f (w.heap.size + 1) q hq W' (block_ext hb J2.out)
             rintro e w2 ⟨rfl, hb2⟩
             rw [HANY.out]
             have HJ2 := Lib.hid (hJ.out.ext hb2)
             have HK2 := Lib.hid (Keep.ext hb2)
             clear hb2
             obtain ⟨v2, hv2, ho2⟩ := HJ2.out.2.2.2.1
             obtain ⟨av, cv, rfl⟩ := ho2.form
             have hcv : w2.cell? ⟨w.heap.size + 1 + 1, 0, none⟩ = some (.slice av (intsN (dn.filter (entB ts f))).length cv) := (by rw [cell_of_row _ _ _ _ _ _ hv2]; rfl)
             have HV2 := Lib.hid hv2
             have HO2 := Lib.hid ho2
             have hsz2 := HJ2.out.2.2.2.2.2
             clear hv2 ho2)
          | (gi_at_builtin
             refine listIn_of (by repeat (first | exact noOut_round | refine noOut_then ?_ | refine noOut_block ?_)) _ _ _ rfl ?_
             refine wpList_append1 rfl w2 (.tmp 22) (.tmp 24) 22 3 rfl (w.heap.size + 1 + 1 + 1 + 1) _ 1 8 Tryz.underlying22 infoI rfl (by omega) (.slice av (intsN (dn.filter (entB ts f))).length cv) (intsN (dn.filter (entB ts f))).length _ [.int .i64 (x : Int)] rfl HO2.out.1 w2.heap.size rfl rfl rfl (by simp [Value.oneCell']) (by simp only [maxLen]; omega) (by omega) (by omega) ?_
             intro g cap w3 hown3 hg3 hat3
             have HAPP := Lib.hid (HJ2.out.app HV2.out HO2.out hg3 _ (x : Int) (by unfold I64; omega) hlen hown3)
             have hv3 := grown_row hg3 HV2.out (fun e => by have := (HO2.out.1.lt _ e).1; omega)
             have hc3' : w3.cell? ⟨w.heap.size + 1 + 1, 0, none⟩ = some (.slice av (intsN (dn.filter (entB ts f))).length cv) := (by rw [cell_of_row _ _ _ _ _ _ hv3]; rfl)
             have hf3 : w3.frozen? ⟨w.heap.size + 1 + 1, 0, none⟩ = false := frozen_of_row _ _ _ _ _ hv3
             have hl3 : w.heap.size + 1 + 1 < w3.heap.size := lt_of_heap hv3
             clear hown3 hg3 hat3 hv3 hcv))
        go_wp2
        refine ⟨HK2.out.trans HAPP.out.2, ?_⟩
        have e9 := HFL.out
        rw [List.filter_append] at e9
        simp only [Hid, List.filter_append, e9]
        exact HAPP.out.1
      · have hent' : entB ts f x = false := by simpa using hent
        have HANY : Hid (((intsN (pv ts x)).any fun z => !f z.toNat) = false) := by
          rw [Hid, any_intsN]
          simp only [entB, Bool.and_eq_false_iff] at hent'
          rcases hent' with h | h
          · rw [HDL.out] at h; simp at h; omega
          · exact h
        have HFL : Hid (intsN ((dn ++ [x]).filter (entB ts f)) = intsN (dn.filter (entB ts f))) := by
          rw [Hid, List.filter_append, List.filter_cons, if_neg hent]
          simp
        clear hent hent'
        gi_wp2_with (
          (gi_at_call 168
           refine (CallsIn.inRound _ (callsIn_wide.2 (containsFunc_any 169 #[.pointer (some ⟨w.heap.size + 1, 0, none⟩)] enter_ent1 (fun z => !f z.toNat) _ _ _ (intsN (pv ts x)) W (fun z W' hz hb => ?_) HIR.out))).mono ?_
           · obtain ⟨q, rfl, hq⟩ := HPX.out z hz
             exact ent1_any f (w.heap.size + 1) q hq W' (block_ext hb J2.out)
           rintro e w2 ⟨rfl, hb2⟩
           rw [HANY.out]
           have HJ2 := Lib.hid (hJ.out.ext hb2)
           have HK2 := Lib.hid (Keep.ext hb2)
           clear hb2))
        refine ⟨HK2.out, ?_⟩
        have e9 := HFL.out
        rw [List.filter_append] at e9
        simp only [Hid, List.filter_append, e9]
        exact HJ2.out
    · have hxb' : ¬ (x : Int) < (d.bn : Int) := by omega
      have HFL : Hid (intsN ((dn ++ [x]).filter (entB ts f)) = intsN (dn.filter (entB ts f))) := by
        rw [Hid, List.filter_append, List.filter_cons, if_neg (by simp only [entB, Bool.and_eq_true, decide_eq_true_eq, HDL.out]; exact fun h => hxb h.1)]
        simp
      clear j1 j2 j3 j4 jo jb js hxb
      gi_wp2
      refine ⟨Keep.refl _, ?_⟩
      have e9 := HFL.out
      rw [List.filter_append] at e9
      simp only [Hid, List.filter_append, e9]
      exact hJ.out
  case done =>
    rintro D W hD hJ hK
    obtain ⟨v, hv, ho⟩ := hJ.out.2.2.2.1
    obtain ⟨av, cv, rfl⟩ := ho.form
    have HJ := hJ
    have HV := Lib.hid hv
    have hcv : W.cell? ⟨w.heap.size + 1 + 1, 0, none⟩ = some (.slice av (intsN ((listS f).filter (entB ts f))).length cv) := by rw [cell_of_row _ _ _ _ _ _ hv]; rfl
    have hfv : W.frozen? ⟨w.heap.size + 1 + 1, 0, none⟩ = false := frozen_of_row _ _ _ _ _ hv
    have hlv := lt_of_heap hv
    have HO := Lib.hid ho
    clear hv ho hJ
    gi_wp2
    have hDP : D ≠ w.heap.size + 1 + 1 := by simp at hD; omega
    have g := grown_setCell W (w.heap.size + 1 + 1) 0 (.slice av (intsN ((listS f).filter (entB ts f))).length cv)
    have hK2 := grown_row g hK (by simp; omega)
    have ho2 : OwnI (W.setCell ⟨w.heap.size + 1 + 1, 0, none⟩ (.slice av (intsN ((listS f).filter (entB ts f))).length cv)) (w.heap.size + 1 + 1 + 1 + 1) (.slice av (intsN ((listS f).filter (entB ts f))).length cv) (intsN ((listS f).filter (entB ts f))) := HO.out.kept g (by
      cases e : (Value.slice av (intsN ((listS f).filter (entB ts f))).length cv).ownBlock with
      | none => exact .inl rfl
      | some k =>
        have := (HO.out.1.lt k e).1
        refine .inr ?_
        intro e2
        injection e2 with e2
        omega)
    have hb2 : Below w.heap.size w (W.setCell ⟨w.heap.size + 1 + 1, 0, none⟩ (.slice av (intsN ((listS f).filter (entB ts f))).length cv)) := HJ.out.2.2.2.2.1.setCell (by simp; omega) _
    have hv2 : (W.setCell ⟨w.heap.size + 1 + 1, 0, none⟩ (.slice av (intsN ((listS f).filter (entB ts f))).length cv)).heap[w.heap.size + 1 + 1]? = some (.cells #[.slice av (intsN ((listS f).filter (entB ts f))).length cv] 22 (0, 0)) := by
      have := heap_setCell_same W (w.heap.size + 1 + 1) 0 _ _ (.slice av (intsN ((listS f).filter (entB ts f))).length cv) HV.out
      simpa using this
    generalize W.setCell ⟨w.heap.size + 1 + 1, 0, none⟩ (.slice av (intsN ((listS f).filter (entB ts f))).length cv) = W2 at *
    have ho3 := (Steady.ownI D (w.heap.size + 1 + 1 + 1 + 1) (.slice av (intsN ((listS f).filter (entB ts f))).length cv) (intsN ((listS f).filter (entB ts f)))).put (.deferred none) (l := D) ho2 (Nat.le_refl _) hK2 rfl
    have hb3 := (Steady.below (n₀ := w.heap.size) (B := w.heap.size) (w₀ := w) (Nat.le_refl _) (Nat.le_refl _)).put (.deferred none) (l := D) hb2 (by simp at hD; omega) hK2 rfl
    have hv3 : (W2.putObj D (.deferred none)).heap[w.heap.size + 1 + 1]? = some (.cells #[.slice av (intsN ((listS f).filter (entB ts f))).length cv] 22 (0, 0)) := (World.putObj_heap_other (by omega)).trans hv2
    have hc3 : (W2.putObj D (.deferred none)).cell? ⟨w.heap.size + 1 + 1, 0, none⟩ = some (.slice av (intsN ((listS f).filter (entB ts f))).length cv) := by rw [cell_of_row _ _ _ _ _ _ hv3]; rfl
    refine ⟨by simp, .inl ⟨_, _, rfl, run_takeDeferred hK2, ?_⟩⟩
    exact ⟨.slice av (intsN ((listS f).filter (entB ts f))).length cv, by simp [results, Tryz.results106, go_sem, hc3], _, rfl, ho3.mono (by omega), hb3⟩
  case stop => rintro D c W hD h; exact h.elim
end Go.Proofs.YtblhmdhfhaencaaGreat
