/-
  Parts of a function: in how many one lies.
-/
import Derived.Test.YtblhmdhfhaencaaGreatQF
import Derived.Test.YtblhmdhfhaencaaGreatTH
import Derived.RangeFuncNested
import Derived.Test.YtblhmdhfhaencaaGreatTR
import Derived.Great.BuildSlice
import Derived.Test.YtblhmdhfhaencaaGreatEO
import Derived.RangeFuncLeaves
namespace Go.Proofs.YtblhmdhfhaencaaGreat
set_option linter.unusedSimpArgs false
set_option linter.unusedVariables false
set_option linter.unusedSectionVars false
set_option maxRecDepth 100000
set_option maxHeartbeats 40000000
section
open Go.RowKit Go.Shelf
abbrev bldO (d : WalkD) (v : Value) : Obj := .cells #[.slice d.pa d.pn d.pc, .slice d.ba d.bn d.bc, .slice d.ta d.bn d.tc, .slice d.fa d.bn d.fc, v] 122 (0, 0)
theorem zero_part : Tryz.zeroCells128.size = 202 := by kernel_rfl
abbrev partO (p : PartD) : Obj := .cells (partC p).toArray 128 (0, 0)
theorem part_set0 {W : World} {B : Nat} {p : PartD} (h : W.heap[B]? = some (partO p)) : W.rangeAt B 0 (setA p.s).toList := by
  intro k v hk
  have hlt : k < (setA p.s).toList.length := by
    rcases Nat.lt_or_ge k (setA p.s).toList.length with h | h
    · exact h
    · rw [List.getElem?_eq_none h] at hk; cases hk
  rw [cell_of_row _ _ _ _ _ _ h]
  simp only [partC, List.getElem?_toArray, Nat.zero_add]
  rw [List.getElem?_append_left hlt]
  exact hk
theorem aroundP_take (L : List PartD) (p : PartD) (k : Nat) (hk : k < L.length) : aroundP (L.take (k + 1)) p = aroundP (L.take k) p + (if withinB p.s (L.getD k zPart).s then 1 else 0) := by
  rw [aroundP, aroundP, takeS L k zPart hk, List.filter_append, List.length_append]
  congr 1
  generalize L.getD k zPart = q
  by_cases h : withinB p.s q.s = true <;> simp [h]
theorem around_any (P base : Nat) (a : Option Addr) (n c : Nat) (d : WalkD) (L : List PartD) (p : PartD) (w : World) (hB : w.heap[P]? = some (bldO d (.slice a n c))) (hL : PartsIn w base (.slice a n c) L) (hn : n ≤ 1000000) :
    Calls Tryz.prog 86 #[.pointer (some ⟨P, 0, none⟩), partV p] w fun e w' => e = .returned (.int .i64 (aroundP L p : Int)) ∧ Below w.heap.size w w' := by
  have hlen : L.length = n := by
    obtain ⟨_, _, e⟩ := OwnR.form hL
    injection e with _ e _
    exact e.symm
  have hsl : w.cell? ⟨P, 4, none⟩ = some (.slice a n c) := by rw [cell_of_row _ _ _ _ _ _ hB]; rfl
  have HL := Lib.hid hL
  clear hB hL
  go_enter Tryz.func86, Tryz.ntmps86
  go_upto_region 1 with (fail)
  obtain ⟨W, hW⟩ : ∃ W, W = w.alloc (partO p) := ⟨_, rfl⟩
  rw [← hW]
  have hp : W.heap[w.heap.size]? = some (partO p) := by rw [hW]; exact heap_alloc_new _ _
  have hb : Below w.heap.size w W := by rw [hW]; exact ext_alloc _ _
  have hc := cell_ext hb hsl
  have HP := Lib.hid hp
  have HB := Lib.hid hb
  have hsz : w.heap.size < W.heap.size := lt_of_heap hp
  clear hp hb hW hsl
  go_wp2
  go_loopw [4, 12] (fun s4 s12 wr => ∃ k : Nat, k ≤ n ∧ s4 = .int .i64 (aroundP (L.take k) p : Int) ∧ s12 = .int .i64 (k : Int) ∧ Hid (Below W.heap.size W wr)) (fun _ s12 _ => n - (intOf s12).toNat)
  case atStart => exact ⟨0, by omega, rfl, rfl, Below.refl _ _⟩
  case round =>
    obtain ⟨k, hk, rfl, rfl, HR⟩ := hrel
    by_cases hlt : k < n
    · have hlt' : (k : Int) < (n : Int) := by omega
      have hLr : PartsIn wr base (.slice a n c) L := HL.out.ext (ext_trans HB.out HR.out)
      have hform : ∃ g, a = some ⟨g, 0, none⟩ := by
        obtain ⟨g, c', e⟩ := own_form hLr.1 (by omega)
        injection e with e _ _
        exact ⟨g, e⟩
      obtain ⟨g, rfl⟩ := hform
      have hr := part_range hLr hlt
      have HTK := Lib.hid (aroundP_take L p k (by omega))
      have hle : aroundP (L.take k) p ≤ k := by
        have h1 := List.length_filter_le (fun x => withinB p.s x.s) (L.take k)
        have h2 := List.length_take_le k L
        unfold aroundP
        omega
      have HPr := Lib.hid (block_ext HR.out HP.out)
      generalize L.getD k zPart = q at *
      obtain ⟨bb, hbb⟩ : ∃ bb, bb = withinB p.s q.s := ⟨_, rfl⟩
      rw [← hbb] at HTK
      generalize aroundP (L.take k) p = m at *
      clear hLr
      go_upto_region 4 with (first
        | (refine wpList_load_mid rfl 128 _ rfl g (k * 202) rfl (partC q) _ hr Tryz.underlying128 rfl (size_partC _) ?_)
        | (refine wpList_store_row rfl 128 _ _ rfl wr.heap.size (partC q).toArray rfl rfl 128 Tryz.zeroCells128 (heap_alloc_new _ _) (size_partA _) (by rw [zero_part, List.size_toArray, partC_len]) (all_oneCell_toArray (partC_one _)) ?_))
      obtain ⟨W2, hW2⟩ : ∃ W2, W2 = (wr.alloc (.cells Tryz.zeroCells128 128)).setRow wr.heap.size (partC q).toArray := ⟨_, rfl⟩
      rw [← hW2]
      have hq2 : W2.heap[wr.heap.size]? = some (partO q) := by rw [hW2]; exact setRow_heap _ _ _ _ _ _ (heap_alloc_new _ _)
      have hb2 : Below wr.heap.size wr W2 := by rw [hW2]; exact below_setRow (ext_alloc _ _) (Nat.le_refl _) _
      have hp2 := block_ext hb2 HPr.out
      have h1 := part_set0 hp2
      have h2 := part_set0 hq2
      have HB2 := Lib.hid (ext_trans HR.out hb2)
      clear hW2 hq2 hb2 hp2 hr
      generalize wr.heap.size = gq at *
      cases bb with
      | true =>
        have HTK2 : Hid (aroundP (L.take (k + 1)) p = m + 1) := HTK.out
        have HBB : Hid (withinB p.s q.s = true) := hbb.symm
        clear hbb HTK
        go_wp2_with (first
          | (refine wpList_load_mid (op := ⟨some 17, .load 124 _, _, _, _, _⟩) rfl 124 _ rfl w.heap.size 0 rfl (setA p.s).toList _ h1 Tryz.underlying124 rfl (by rw [Array.length_toList, setA_size]; exact size_set) ?_)
          | (refine wpList_load_mid (op := ⟨some 19, .load 124 _, _, _, _, _⟩) rfl 124 _ rfl gq 0 rfl (setA q.s).toList _ h2 Tryz.underlying124 rfl (by rw [Array.length_toList, setA_size]; exact size_set) ?_)
          | (go_at_call 137
             refine (within_any p.s q.s W2).mono ?_
             rintro e w3 ⟨rfl, hb3⟩
             rw [HBB.out]
             have HB3 := Lib.hid (ext_trans HB2.out hb3)
             clear hb3))
        go_roundw
        case rel => exact ⟨k + 1, by omega, by rw [HTK2.out]; go_num, by go_num, HB3⟩
        case measure => simp [intOf]; omega
      | false =>
        have HTK2 : Hid (aroundP (L.take (k + 1)) p = m) := HTK.out
        have HBB : Hid (withinB p.s q.s = false) := hbb.symm
        clear hbb HTK
        go_wp2_with (first
          | (refine wpList_load_mid (op := ⟨some 17, .load 124 _, _, _, _, _⟩) rfl 124 _ rfl w.heap.size 0 rfl (setA p.s).toList _ h1 Tryz.underlying124 rfl (by rw [Array.length_toList, setA_size]; exact size_set) ?_)
          | (refine wpList_load_mid (op := ⟨some 19, .load 124 _, _, _, _, _⟩) rfl 124 _ rfl gq 0 rfl (setA q.s).toList _ h2 Tryz.underlying124 rfl (by rw [Array.length_toList, setA_size]; exact size_set) ?_)
          | (go_at_call 137
             refine (within_any p.s q.s W2).mono ?_
             rintro e w3 ⟨rfl, hb3⟩
             rw [HBB.out]
             have HB3 := Lib.hid (ext_trans HB2.out hb3)
             clear hb3))
        go_roundw
        case rel => exact ⟨k + 1, by omega, by rw [HTK2.out], by go_num, HB3⟩
        case measure => simp [intOf]; omega
    · obtain rfl : k = n := by omega
      have HT : Hid (L.take k = L) := List.take_of_length_le (by omega)
      go_wp2
      go_ret
      exact ⟨by rw [HT.out]; rfl, ext_trans HB.out HR.out⟩
end

section
open Go.RowKit
theorem range_outerN {P : Program} {σ α : Type} {g : Operand} {ps : Array Tmp} {assign body : Code} {Q : Exit → Act → World → Prop} {a : Act} {w : World} {gf : Nat} {lb : Array Value}
    (hg : a.eval g = .func (.func gf) #[] lb) (eg : ∀ args w, (callFunc gf args).run P w = .ok (.enter gf args) w)
    {enc : α → Array Value} {ok : σ → α → Prop} {nx : σ → α → σ} {s0 : σ} {Fin : σ → Prop} {Inv : σ → World → Prop} (hit : Iter P gf lb enc ok nx s0 Fin Inv)
    (hps : ∀ x, (enc x).size = ps.size)
    (J : σ → World → Prop) (Jx : Code → World → Prop) (A : σ → α → Act → World → Prop)
    (hJ : ∀ s, Steady w.heap.size (J s)) (hJx : ∀ c, Steady w.heap.size (Jx c)) (hA : ∀ s x a, Steady w.heap.size (A s x a)) (hInv : ∀ s W, J s W → Inv s W)
    (h0 : J s0 w)
    (hassign : ∀ (l : Nat) (s : σ) (x : α) (W : World), ok s x → J s W →
      assign.wpIn (Fence.wide.inRound l) 0 P (Exit.then (fun a1 W1 => Keep W W1 ∧ J s W1 ∧ A s x a1 W1) (fun _ _ _ => False)) { tmps := (ps.zip (enc x)).foldl (fun t (p, v) => t.setIfInBounds p v) a.tmps, defers := [] } W)
    (hbody : ∀ (l : Nat) (s : σ) (x : α) (a1 : Act) (W : World), w.heap.size ≤ l → (∃ r, W.heap[l]? = some (.loop r)) → ok s x → J s W → A s x a1 W →
      body.wpIn (Fence.wide.inRound l) 0 P (roundEnd (fun W' => Keep W W' ∧ J (nx s x) W') (fun c W' => Keep W W' ∧ Jx c W')) a1 W)
    (hdone : ∀ (D : Nat) (s : σ) (W : World), w.heap.size ≤ D → Fin s → J s W → W.heap[D]? = some (.deferred (some [])) → Q .normal { a with defers := { target := .collected D, args := #[] } :: a.defers } W)
    (hstop : ∀ (D : Nat) (c : Code) (W : World), w.heap.size ≤ D → Jx c W → W.heap[D]? = some (.deferred (some [])) → c.wpIn Fence.wide 0 P Q { a with defers := { target := .collected D, args := #[] } :: a.defers } W) :
    (Code.rangeFunc g ps assign body).wpIn Fence.wide 0 P Q a w := by
  refine wpIn_rangeFunc ?_
  intro fn hfn
  obtain ⟨rec, hrec⟩ : ∃ rec : LoopState → Option Code → Loop, rec = fun st pe => { state := st, pending := pe, fn, tmps := a.tmps, params := ps, assign, body, defers := w.heap.size } := ⟨_, rfl⟩
  obtain ⟨W1, hW1⟩ : ∃ W1, (w.alloc (.deferred (some []))).alloc (.loop (rec .ready none)) = W1 := ⟨_, rfl⟩
  have hL1 : W1.heap[w.heap.size + 1]? = some (.loop (rec .ready none)) := by
    rw [← hW1]; have := World.alloc_heap_new (w.alloc (.deferred (some []))) (.loop (rec .ready none)); rwa [World.size_alloc] at this
  have hK1 : W1.heap[w.heap.size]? = some (.deferred (some [])) := by
    rw [← hW1]; exact (Below.heap_alloc _ _ _ (by simp)).trans (World.alloc_heap_new w _)
  have hb1 : Below w.heap.size w W1 := by
    rw [← hW1]; exact ((Below.refl _ w).alloc (Nat.le_refl _) _).alloc (by simp) _
  have hI1 : J s0 W1 := (hJ s0).ext h0 hb1
  have keepE : ∀ {W W' : World} {k : Nat} {o : Obj}, W.heap[k]? = some o → Below W.heap.size W W' → W'.heap[k]? = some o :=
    fun hk hb => (hb.block _ (Array.getElem?_eq_some_iff.1 hk).1).trans hk
  refine ⟨w.heap.size + 1, [{ target := .collected w.heap.size, args := #[] }], W1, { target := .fn (.func gf) lb, args := #[.func (.yield (w.heap.size + 1)) #[] #[]] }, W1, gf,
    #[.func (.yield (w.heap.size + 1)) #[] #[]] ++ lb, W1, ?_, ?_, ?_, ?_, fun h => by simp [Fence.wide] at h, ?_⟩
  · rw [← hW1, hrec]; exact run_enterLoop_outer _ _ _ _ _
  · simp only [resolve, hg]
    simp [go_sem]
  · intro f' hf'; trivial
  · simp [invoke, go_sem, eg]
  · refine (hit (w.heap.size + 1)
      (fun s W => J s W ∧ W.heap[w.heap.size + 1]? = some (.loop (rec .ready none)) ∧ W.heap[w.heap.size]? = some (.deferred (some [])))
      (fun W => ∃ c, Jx c W ∧ W.heap[w.heap.size + 1]? = some (.loop (rec .done (some c))) ∧ W.heap[w.heap.size]? = some (.deferred (some [])))
      W1 (fun s A B h hb => ⟨(hJ s).ext h.1 hb, keepE h.2.1 hb, keepE h.2.2 hb⟩)
      (fun A B h hb => by obtain ⟨c, h1, h2, h3⟩ := h; exact ⟨c, (hJx c).ext h1 hb, keepE h2 hb, keepE h3 hb⟩)
      (fun s W h => hInv s W h.1) ?_ ⟨hI1, hL1, hK1⟩).mono ?_
    · rintro s x W hok ⟨hi, hl, hk⟩
      have hy := run_yield (P := P) (args := enc x) hl (by rw [hrec]; exact hps x)
      rw [hrec] at hy
      refine ⟨fn, _, assign, body, hy, roundIn_of_wpIn hfn (wpIn_mono (hassign _ s x W hok hi) ?_)⟩
      rintro e a1 V hp
      cases e with
      | normal =>
        obtain ⟨hkp, hiV, hAV⟩ := hp
        have hlV := hkp _ _ hl rfl
        have hkV := hkp _ _ hk rfl
        have hlt : w.heap.size + 1 < V.heap.size := (Array.getElem?_eq_some_iff.1 hlV).1
        refine ⟨_, run_beginRound hlV (by rw [hrec]), ?_⟩
        have hl2 : (V.putObj (w.heap.size + 1) (.loop { rec .ready none with state := .busy })).heap[w.heap.size + 1]? = some (.loop { rec .ready none with state := .busy }) := World.putObj_heap_same hlt
        have hk2 : (V.putObj (w.heap.size + 1) (.loop { rec .ready none with state := .busy })).heap[w.heap.size]? = some (.deferred (some [])) := (World.putObj_heap_other (by omega)).trans hkV
        refine wpIn_mono (hbody _ s x a1 _ (by omega) ⟨_, hl2⟩ hok ((hJ s).put _ hiV (by omega) hlV rfl) ((hA s x a1).put _ hAV (by omega) hlV rfl)) ?_
        have fin : ∀ (jump : Option Code) (W3 : World), Keep (V.putObj (w.heap.size + 1) (.loop { rec .ready none with state := .busy })) W3 →
            (Instr.endRound (w.heap.size + 1) jump).run P W3 = .ok (.bool jump.isNone) (W3.putObj (w.heap.size + 1) (.loop (rec (if jump.isNone then .ready else .done) jump))) ∧
            W3.heap[w.heap.size + 1]? = some (.loop { rec .ready none with state := .busy }) ∧
            (W3.putObj (w.heap.size + 1) (.loop (rec (if jump.isNone then .ready else .done) jump))).heap[w.heap.size + 1]? = some (.loop (rec (if jump.isNone then .ready else .done) jump)) ∧
            (W3.putObj (w.heap.size + 1) (.loop (rec (if jump.isNone then .ready else .done) jump))).heap[w.heap.size]? = some (.deferred (some [])) := fun jump W3 hk3 => by
          have hl3 := hk3 _ _ hl2 rfl
          have := run_endRound (P := P) jump hl3
          rw [hrec] at this ⊢
          exact ⟨this, by rw [hrec] at hl3; exact hl3, World.putObj_heap_same (Array.getElem?_eq_some_iff.1 hl3).1, (World.putObj_heap_other (by omega)).trans (hk3 _ _ hk2 rfl)⟩
        rintro e a3 W3 hp
        cases e with
        | normal =>
          obtain ⟨hk3, hi3⟩ := hp
          obtain ⟨hr, hl3, hl4, hk4⟩ := fin none W3 hk3
          exact ⟨_, _, hr, .inl ⟨rfl, (hJ _).put _ hi3 (by omega) hl3 rfl, hl4, hk4⟩⟩
        | ret =>
          obtain ⟨hk3, hi3⟩ := hp
          obtain ⟨hr, hl3, hl4, hk4⟩ := fin (some .ret) W3 hk3
          exact ⟨_, _, hr, .inr ⟨rfl, .ret, (hJx _).put _ hi3 (by omega) hl3 rfl, hl4, hk4⟩⟩
        | exit id =>
          obtain ⟨hk3, hi3⟩ := hp
          obtain ⟨hr, hl3, hl4, hk4⟩ := fin (some (.exit id)) W3 hk3
          exact ⟨_, _, hr, .inr ⟨rfl, .exit id, (hJx _).put _ hi3 (by omega) hl3 rfl, hl4, hk4⟩⟩
        | goto t =>
          obtain ⟨hk3, hi3⟩ := hp
          obtain ⟨hr, hl3, hl4, hk4⟩ := fin (some (.goto t)) W3 hk3
          exact ⟨_, _, hr, .inr ⟨rfl, .goto t, (hJx _).put _ hi3 (by omega) hl3 rfl, hl4, hk4⟩⟩
        | panic ch => exact hp.elim
        | outgrown => exact hp.elim
      | exit id => exact hp.elim
      | goto t => exact hp.elim
      | ret => exact hp.elim
      | panic chain => exact hp.elim
      | outgrown => exact hp.elim
    · rintro e W2 ⟨⟨v, rfl⟩, (⟨s, hS, hi, hl, hk⟩ | ⟨c, hi, hl, hk⟩)⟩
      · exact ⟨none, _, by have := run_endLoop (P := P) hl (by rw [hrec]; simp); rw [hrec] at this; exact this, hdone _ s _ (Nat.le_refl _) hS ((hJ s).put _ hi (by omega) hl rfl) ((World.putObj_heap_other (by omega)).trans hk)⟩
      · exact ⟨some c, _, by have := run_endLoop (P := P) hl (by rw [hrec]; simp); rw [hrec] at this; exact this, hstop _ c _ (Nat.le_refl _) ((hJx c).put _ hi (by omega) hl rfl) ((World.putObj_heap_other (by omega)).trans hk)⟩
theorem range_inner {P : Program} {σ α : Type} {g : Operand} {ps : Array Tmp} {assign body : Code} {Q : Exit → Act → World → Prop} {a : Act} {w : World} {l0 : Nat} {r0 : Loop} (hl0 : w.heap[l0]? = some (.loop r0)) {gf : Nat} {lb : Array Value}
    (hg : a.eval g = .func (.func gf) #[] lb) (eg : ∀ args w, (callFunc gf args).run P w = .ok (.enter gf args) w)
    {enc : α → Array Value} {ok : σ → α → Prop} {nx : σ → α → σ} {s0 : σ} {Fin : σ → Prop} {Inv : σ → World → Prop} (hit : Iter P gf lb enc ok nx s0 Fin Inv)
    (hps : ∀ x, (enc x).size = ps.size)
    (J : σ → World → Prop) (Jx : Code → World → Prop) (A : σ → α → Act → World → Prop)
    (hJ : ∀ s, Steady w.heap.size (J s)) (hJx : ∀ c, Steady w.heap.size (Jx c)) (hA : ∀ s x a, Steady w.heap.size (A s x a)) (hInv : ∀ s W, J s W → Inv s W)
    (h0 : J s0 w)
    (hassign : ∀ (l : Nat) (s : σ) (x : α) (W : World), ok s x → J s W →
      assign.wpIn (Fence.wide.inRound l) 0 P (Exit.then (fun a1 W1 => Keep W W1 ∧ J s W1 ∧ A s x a1 W1) (fun _ _ _ => False)) { tmps := (ps.zip (enc x)).foldl (fun t (p, v) => t.setIfInBounds p v) a.tmps, defers := [] } W)
    (hbody : ∀ (l : Nat) (s : σ) (x : α) (a1 : Act) (W : World), w.heap.size ≤ l → (∃ r, W.heap[l]? = some (.loop r)) → ok s x → J s W → A s x a1 W →
      body.wpIn (Fence.wide.inRound l) 0 P (roundEnd (fun W' => Keep W W' ∧ J (nx s x) W') (fun c W' => Keep W W' ∧ Jx c W')) a1 W)
    (hdone : ∀ (s : σ) (W : World), Fin s → J s W → Q .normal a W)
    (hstop : ∀ (c : Code) (W : World), Jx c W → c.wpIn (Fence.wide.inRound l0) 0 P Q a W) :
    (Code.rangeFunc g ps assign body).wpIn (Fence.wide.inRound l0) 0 P Q a w := by
  refine wpIn_rangeFunc ?_
  intro fn hfn
  obtain ⟨rec, hrec⟩ : ∃ rec : LoopState → Option Code → Loop, rec = fun st pe => { state := st, pending := pe, fn, tmps := a.tmps, params := ps, assign, body, defers := r0.defers } := ⟨_, rfl⟩
  obtain ⟨W1, hW1⟩ : ∃ W1, w.alloc (.loop (rec .ready none)) = W1 := ⟨_, rfl⟩
  have hL1 : W1.heap[w.heap.size]? = some (.loop (rec .ready none)) := by rw [← hW1]; exact World.alloc_heap_new w _
  have hb1 : Below w.heap.size w W1 := by rw [← hW1]; exact (Below.refl _ w).alloc (Nat.le_refl _) _
  have hI1 : J s0 W1 := (hJ s0).ext h0 hb1
  have keepE : ∀ {W W' : World} {k : Nat} {o : Obj}, W.heap[k]? = some o → Below W.heap.size W W' → W'.heap[k]? = some o :=
    fun hk hb => (hb.block _ (Array.getElem?_eq_some_iff.1 hk).1).trans hk
  refine ⟨w.heap.size, [], W1, { target := .fn (.func gf) lb, args := #[.func (.yield w.heap.size) #[] #[]] }, W1, gf,
    #[.func (.yield w.heap.size) #[] #[]] ++ lb, W1, ?_, ?_, ?_, ?_, fun h => by simp [Fence.wide] at h, ?_⟩
  · rw [← hW1, hrec]; exact run_enterLoop_inner hl0 _ _ _ _ _
  · simp only [resolve, hg]
    simp [go_sem]
  · intro f' hf'; trivial
  · simp [invoke, go_sem, eg]
  · refine CallsIn.mono (hit w.heap.size
      (fun s W => J s W ∧ W.heap[w.heap.size]? = some (.loop (rec .ready none)))
      (fun W => ∃ c, Jx c W ∧ W.heap[w.heap.size]? = some (.loop (rec .done (some c))))
      W1 (fun s A B h hb => ⟨(hJ s).ext h.1 hb, keepE h.2 hb⟩)
      (fun A B h hb => by obtain ⟨c, h1, h2⟩ := h; exact ⟨c, (hJx c).ext h1 hb, keepE h2 hb⟩)
      (fun s W h => hInv s W h.1) ?_ ⟨hI1, hL1⟩) ?_
    · rintro s x W hok ⟨hi, hl⟩
      have hy := run_yield (P := P) (args := enc x) hl (by rw [hrec]; exact hps x)
      rw [hrec] at hy
      refine ⟨fn, _, assign, body, hy, roundIn_of_wpIn (F := Fence.wide) hfn (wpIn_mono (hassign _ s x W hok hi) ?_)⟩
      rintro e a1 V hp
      cases e with
      | normal =>
        obtain ⟨hkp, hiV, hAV⟩ := hp
        have hlV := hkp _ _ hl rfl
        have hlt : w.heap.size < V.heap.size := (Array.getElem?_eq_some_iff.1 hlV).1
        refine ⟨_, run_beginRound hlV (by rw [hrec]), ?_⟩
        have hl2 : (V.putObj w.heap.size (.loop { rec .ready none with state := .busy })).heap[w.heap.size]? = some (.loop { rec .ready none with state := .busy }) := World.putObj_heap_same hlt
        refine wpIn_mono (hbody _ s x a1 _ (Nat.le_refl _) ⟨_, hl2⟩ hok ((hJ s).put _ hiV (Nat.le_refl _) hlV rfl) ((hA s x a1).put _ hAV (Nat.le_refl _) hlV rfl)) ?_
        have fin : ∀ (jump : Option Code) (W3 : World), Keep (V.putObj w.heap.size (.loop { rec .ready none with state := .busy })) W3 →
            (Instr.endRound w.heap.size jump).run P W3 = .ok (.bool jump.isNone) (W3.putObj w.heap.size (.loop (rec (if jump.isNone then .ready else .done) jump))) ∧
            W3.heap[w.heap.size]? = some (.loop { rec .ready none with state := .busy }) ∧
            (W3.putObj w.heap.size (.loop (rec (if jump.isNone then .ready else .done) jump))).heap[w.heap.size]? = some (.loop (rec (if jump.isNone then .ready else .done) jump)) := fun jump W3 hk3 => by
          have hl3 := hk3 _ _ hl2 rfl
          have := run_endRound (P := P) jump hl3
          rw [hrec] at this ⊢
          exact ⟨this, by rw [hrec] at hl3; exact hl3, World.putObj_heap_same (Array.getElem?_eq_some_iff.1 hl3).1⟩
        rintro e a3 W3 hp
        cases e with
        | normal =>
          obtain ⟨hk3, hi3⟩ := hp
          obtain ⟨hr, hl3, hl4⟩ := fin none W3 hk3
          exact ⟨_, _, hr, .inl ⟨rfl, (hJ _).put _ hi3 (Nat.le_refl _) hl3 rfl, hl4⟩⟩
        | ret =>
          obtain ⟨hk3, hi3⟩ := hp
          obtain ⟨hr, hl3, hl4⟩ := fin (some .ret) W3 hk3
          exact ⟨_, _, hr, .inr ⟨rfl, .ret, (hJx _).put _ hi3 (Nat.le_refl _) hl3 rfl, hl4⟩⟩
        | exit id =>
          obtain ⟨hk3, hi3⟩ := hp
          obtain ⟨hr, hl3, hl4⟩ := fin (some (.exit id)) W3 hk3
          exact ⟨_, _, hr, .inr ⟨rfl, .exit id, (hJx _).put _ hi3 (Nat.le_refl _) hl3 rfl, hl4⟩⟩
        | goto t =>
          obtain ⟨hk3, hi3⟩ := hp
          obtain ⟨hr, hl3, hl4⟩ := fin (some (.goto t)) W3 hk3
          exact ⟨_, _, hr, .inr ⟨rfl, .goto t, (hJx _).put _ hi3 (Nat.le_refl _) hl3 rfl, hl4⟩⟩
        | panic ch => exact hp.elim
        | outgrown => exact hp.elim
      | exit id => exact hp.elim
      | goto t => exact hp.elim
      | ret => exact hp.elim
      | panic chain => exact hp.elim
      | outgrown => exact hp.elim
    · rintro e W2 ⟨⟨v, rfl⟩, (⟨s, hS, hi, hl⟩ | ⟨c, hi, hl⟩)⟩
      · exact ⟨none, _, by have := run_endLoop (P := P) hl (by rw [hrec]; simp); rw [hrec] at this; exact this, hdone s _ hS ((hJ s).put _ hi (Nat.le_refl _) hl rfl)⟩
      · exact ⟨some c, _, by have := run_endLoop (P := P) hl (by rw [hrec]; simp); rw [hrec] at this; exact this, hstop c _ ((hJx c).put _ hi (Nat.le_refl _) hl rfl)⟩
theorem range_listN {P : Program} {α : Type} {g : Operand} {ps : Array Tmp} {assign body : Code} {Q : Exit → Act → World → Prop} {a : Act} {w : World} {gf : Nat} {lb : Array Value}
    (hg : a.eval g = .func (.func gf) #[] lb) (eg : ∀ args w, (callFunc gf args).run P w = .ok (.enter gf args) w)
    {enc : α → Array Value} {l : List α} (I : World → Prop) (hit : IterI P gf lb enc l I) (hps : ∀ x, (enc x).size = ps.size)
    (J : List α → List α → World → Prop) (Jx : Code → World → Prop)
    (hJ : ∀ d r, Steady w.heap.size (J d r)) (hJx : ∀ c, Steady w.heap.size (Jx c)) (hInv : ∀ d r W, J d r W → I W)
    (h0 : J [] l w)
    (hround : ∀ (lp : Nat) (d : List α) (x : α) (r : List α) (W : World), l = d ++ x :: r → J d (x :: r) W →
      assign.wpIn (Fence.wide.inRound lp) 0 P (Exit.then (fun a1 W1 => Keep W W1 ∧ J d (x :: r) W1 ∧ ∀ (lp : Nat) (W2 : World), w.heap.size ≤ lp → (∃ rc, W2.heap[lp]? = some (.loop rc)) → J d (x :: r) W2 →
        body.wpIn (Fence.wide.inRound lp) 0 P (roundEnd (fun W' => Keep W2 W' ∧ J (d ++ [x]) r W') (fun c W' => Keep W2 W' ∧ Jx c W')) a1 W2) (fun _ _ _ => False)) { tmps := (ps.zip (enc x)).foldl (fun t (p, v) => t.setIfInBounds p v) a.tmps, defers := [] } W)
    (hdone : ∀ (D : Nat) (W : World), w.heap.size ≤ D → J l [] W → W.heap[D]? = some (.deferred (some [])) → Q .normal { a with defers := { target := .collected D, args := #[] } :: a.defers } W)
    (hstop : ∀ (D : Nat) (c : Code) (W : World), w.heap.size ≤ D → Jx c W → W.heap[D]? = some (.deferred (some [])) → c.wpIn Fence.wide 0 P Q { a with defers := { target := .collected D, args := #[] } :: a.defers } W) :
    (Code.rangeFunc g ps assign body).wpIn Fence.wide 0 P Q a w := by
  refine range_outerN (enc := enc) hg eg hit hps (fun s W => ∃ d, l = d ++ s ∧ J d s W) Jx
    (fun s x a1 _ => ∀ (d : List α) (lp : Nat) (W2 : World), w.heap.size ≤ lp → (∃ rc, W2.heap[lp]? = some (.loop rc)) → l = d ++ s → J d s W2 → body.wpIn (Fence.wide.inRound lp) 0 P (roundEnd (fun W' => Keep W2 W' ∧ J (d ++ [x]) (nxL s x) W') (fun c W' => Keep W2 W' ∧ Jx c W')) a1 W2)
    (fun s => Steady.ex fun d => (Steady.pure _ _).and (hJ d s)) hJx (fun _ _ _ => Steady.pure _ _) (fun s W ⟨d, _, h⟩ => hInv d s W h) ⟨[], rfl, h0⟩ ?_ ?_ ?_ hstop
  · rintro lp s x W hok ⟨d, hd, hj⟩
    have hs := okL_cons hok
    generalize nxL s x = r at hs ⊢
    subst hs
    refine wpIn_mono (hround lp d x r W hd hj) ?_
    rintro e a1 W1 he
    cases e with
    | normal =>
      obtain ⟨h1, h2, h3⟩ := he
      refine ⟨h1, ⟨d, hd, h2⟩, fun d' lp' W2 hlp' hrc' hd' hj' => ?_⟩
      have : d' = d := by
        have := hd'.symm.trans hd
        exact List.append_cancel_right this
      subst this
      exact h3 lp' W2 hlp' hrc' hj'
    | _ => exact he.elim
  · rintro lp s x a1 W hlp hrc hok ⟨d, hd, hj⟩ hA
    refine wpIn_mono (hA d lp W hlp hrc hd hj) ?_
    rintro e a3 W3 he
    cases e with
    | normal =>
      refine ⟨he.1, d ++ [x], ?_, he.2⟩
      rw [hd, List.append_assoc]
      congr 1
      exact okL_cons hok
    | ret => exact he
    | exit id => exact he
    | goto t => exact he
    | panic ch => exact he.elim
    | outgrown => exact he.elim
  · rintro D s W hD hf ⟨d, hd, hj⟩ hk
    have hf : s = [] := hf
    subst hf
    rw [List.append_nil] at hd
    subst hd
    exact hdone D W hD hj hk
theorem range_listI {P : Program} {α : Type} {g : Operand} {ps : Array Tmp} {assign body : Code} {Q : Exit → Act → World → Prop} {a : Act} {w : World} {l0 : Nat} {r0 : Loop} (hl0 : w.heap[l0]? = some (.loop r0)) {gf : Nat} {lb : Array Value}
    (hg : a.eval g = .func (.func gf) #[] lb) (eg : ∀ args w, (callFunc gf args).run P w = .ok (.enter gf args) w)
    {enc : α → Array Value} {l : List α} (I : World → Prop) (hit : IterI P gf lb enc l I) (hps : ∀ x, (enc x).size = ps.size)
    (J : List α → List α → World → Prop) (Jx : Code → World → Prop)
    (hJ : ∀ d r, Steady w.heap.size (J d r)) (hJx : ∀ c, Steady w.heap.size (Jx c)) (hInv : ∀ d r W, J d r W → I W)
    (h0 : J [] l w)
    (hround : ∀ (lp : Nat) (d : List α) (x : α) (r : List α) (W : World), l = d ++ x :: r → J d (x :: r) W →
      assign.wpIn (Fence.wide.inRound lp) 0 P (Exit.then (fun a1 W1 => Keep W W1 ∧ J d (x :: r) W1 ∧ ∀ (lp : Nat) (W2 : World), w.heap.size ≤ lp → (∃ rc, W2.heap[lp]? = some (.loop rc)) → J d (x :: r) W2 →
        body.wpIn (Fence.wide.inRound lp) 0 P (roundEnd (fun W' => Keep W2 W' ∧ J (d ++ [x]) r W') (fun c W' => Keep W2 W' ∧ Jx c W')) a1 W2) (fun _ _ _ => False)) { tmps := (ps.zip (enc x)).foldl (fun t (p, v) => t.setIfInBounds p v) a.tmps, defers := [] } W)
    (hdone : ∀ (W : World), J l [] W → Q .normal a W)
    (hstop : ∀ (c : Code) (W : World), Jx c W → c.wpIn (Fence.wide.inRound l0) 0 P Q a W) :
    (Code.rangeFunc g ps assign body).wpIn (Fence.wide.inRound l0) 0 P Q a w := by
  refine range_inner (enc := enc) hl0 hg eg hit hps (fun s W => ∃ d, l = d ++ s ∧ J d s W) Jx
    (fun s x a1 _ => ∀ (d : List α) (lp : Nat) (W2 : World), w.heap.size ≤ lp → (∃ rc, W2.heap[lp]? = some (.loop rc)) → l = d ++ s → J d s W2 → body.wpIn (Fence.wide.inRound lp) 0 P (roundEnd (fun W' => Keep W2 W' ∧ J (d ++ [x]) (nxL s x) W') (fun c W' => Keep W2 W' ∧ Jx c W')) a1 W2)
    (fun s => Steady.ex fun d => (Steady.pure _ _).and (hJ d s)) hJx (fun _ _ _ => Steady.pure _ _) (fun s W ⟨d, _, h⟩ => hInv d s W h) ⟨[], rfl, h0⟩ ?_ ?_ ?_ hstop
  · rintro lp s x W hok ⟨d, hd, hj⟩
    have hs := okL_cons hok
    generalize nxL s x = r at hs ⊢
    subst hs
    refine wpIn_mono (hround lp d x r W hd hj) ?_
    rintro e a1 W1 he
    cases e with
    | normal =>
      obtain ⟨h1, h2, h3⟩ := he
      refine ⟨h1, ⟨d, hd, h2⟩, fun d' lp' W2 hlp' hrc' hd' hj' => ?_⟩
      have : d' = d := by
        have := hd'.symm.trans hd
        exact List.append_cancel_right this
      subst this
      exact h3 lp' W2 hlp' hrc' hj'
    | _ => exact he.elim
  · rintro lp s x a1 W hlp hrc hok ⟨d, hd, hj⟩ hA
    refine wpIn_mono (hA d lp W hlp hrc hd hj) ?_
    rintro e a3 W3 he
    cases e with
    | normal =>
      refine ⟨he.1, d ++ [x], ?_, he.2⟩
      rw [hd, List.append_assoc]
      congr 1
      exact okL_cons hok
    | ret => exact he
    | exit id => exact he
    | goto t => exact he
    | panic ch => exact he.elim
    | outgrown => exact he.elim
  · rintro s W hf ⟨d, hd, hj⟩
    have hf : s = [] := hf
    subst hf
    rw [List.append_nil] at hd
    subst hd
    exact hdone W hj
end

section
open Go.RowKit Go.Shelf
structure BldJ (W0 : World) (d : WalkD) (P base : Nat) (v : Value) (L : List PartD) (W : World) : Prop where
  bld : W.heap[P]? = some (bldO d v)
  parts : PartsIn W base v L
  low : P < base
  bs : base ≤ W.heap.size
  w0 : W0.heap.size ≤ P
  ext : Below W0.heap.size W0 W
def SP (P : Nat) (v : Value) (k : Nat) : Prop := k = P ∨ v.ownBlock = some k
theorem Chg.then {S T : Nat → Prop} {a b c : World} (h : Chg S a b) (k : Chg T b c) (hs : ∀ q, T q → S q ∨ a.heap.size ≤ q) : Chg S a c :=
  ⟨k.os.trans h.os, k.tape.trans h.tape, k.output.trans h.output, Nat.le_trans h.size k.size, fun q hq hn =>
    (k.block q (Nat.lt_of_lt_of_le hq h.size) (fun ht => (hs q ht).elim hn (by omega))).trans (h.block q hq hn)⟩
theorem Steady.chg {S : Nat → Prop} {w : World} {D : Nat} (hD : w.heap.size ≤ D) : Steady D (fun W => Chg S w W) := fun W W' row h hg hr => h.grown hg (fun k e => .inr (Nat.le_trans hD (hr k e).1))
theorem own_other {w : World} {base : Nat} {e t : TypeId} {size : Nat} {v : Value} {n k : Nat} {xs : List Value} {cs : Array Value} {fr : Nat × Nat} (h : w.ownsRow base e size v n xs) (hk : w.heap[k]? = some (.cells cs t fr)) (ht : t ≠ e) : v.ownBlock ≠ some k := by
  intro hv
  rcases h.2 with ⟨rfl, _⟩ | ⟨g, cap, cur, rfl, _, hg, _⟩
  · cases hv
  · simp only [Value.ownBlock, Option.some.injEq] at hv
    subst hv
    rw [hk] at hg
    injection hg with hg
    injection hg with _ hg _
    exact ht hg
theorem grown_tr {a b c : World} {row : Option Nat} (h : a.grownBy b row) (k : b.grownBy c row) : a.grownBy c row :=
  ⟨k.os.trans h.os, k.tape.trans h.tape, k.output.trans h.output, Nat.le_trans h.size k.size, fun q hq hn => (k.block q (Nat.lt_of_lt_of_le hq h.size) hn).trans (h.block q hq hn)⟩
theorem grown_drew (w : World) (row : Option Nat) : w.grownBy w.drew row := ⟨rfl, rfl, rfl, Nat.le_refl _, fun _ _ _ => rfl⟩
theorem grown_same (w : World) (row : Option Nat) : w.grownBy w row := ⟨rfl, rfl, rfl, Nat.le_refl _, fun _ _ _ => rfl⟩
theorem drew_ext (w : World) : Below w.heap.size w w.drew := ext_drewN (Below.refl _ _) 1
section
variable {W0 W W' W3 : World} {d : WalkD} {P base : Nat} {v v' : Value} {L M : List PartD}
theorem BldJ.own (h : BldJ W0 d P base v L W) {q : Nat} (hq : v.ownBlock = some q) : base ≤ q ∧ q < W.heap.size := OwnR.low h.parts hq
theorem BldJ.grown {row : Option Nat} (h : BldJ W0 d P base v L W) (hg : W.grownBy W' row) (hr : ∀ q, row = some q → W0.heap.size ≤ q ∧ q ≠ P ∧ v.ownBlock ≠ some q) : BldJ W0 d P base v L W' where
  bld := grown_row hg h.bld fun e => (hr P e).2.1 rfl
  parts := OwnR.kept h.parts hg (by
    cases e : v.ownBlock with
    | none => exact .inl rfl
    | some q => exact .inr fun e2 => (hr q e2.symm).2.2 e)
  low := h.low
  bs := Nat.le_trans h.bs hg.size
  w0 := h.w0
  ext := h.ext.grown hg h.ext.size fun q e => (hr q e).1
theorem BldJ.ext' (h : BldJ W0 d P base v L W) (hb : Below W.heap.size W W') : BldJ W0 d P base v L W' :=
  h.grown (row := none) ⟨hb.os, hb.tape, hb.output, hb.size, fun k hk _ => hb.block k hk⟩ fun q e => by cases e
theorem BldJ.steady {D : Nat} (hD : W0.heap.size ≤ D) : Steady D (BldJ W0 d P base v L) := fun W W' row h hg hr =>
  ⟨(Steady.block D P (o := bldO d v) rfl) W W' row h.bld hg hr, (Steady.ownR D base v L) W W' row h.parts hg hr, h.low, Nat.le_trans h.bs hg.size, h.w0, (Steady.below (n₀ := W0.heap.size) (w₀ := W0) (Nat.le_refl _) hD) W W' row h.ext hg hr⟩
theorem BldJ.cell (h : BldJ W0 d P base v L W) : W.cell? ⟨P, 4, none⟩ = some v := by rw [cell_of_row _ _ _ _ _ _ h.bld]; rfl
theorem BldJ.keep (h : BldJ W0 d P base v L W) (hc : Chg (SP P v) W W') : Keep W W' := fun k o hk ho => hc.row hk fun hs => by
  rcases hs with rfl | hs
  · rw [h.bld] at hk; cases hk; cases ho
  · rcases h.parts.1.2 with ⟨e, _⟩ | ⟨g, cap, cur, e, _, hg, _⟩
    · rw [e] at hs; cases hs
    · rw [e] at hs
      simp only [Value.ownBlock, Option.some.injEq] at hs
      subst hs
      rw [hg] at hk
      cases hk
      cases ho
theorem bld_walk (h : W.heap[P]? = some (bldO d v)) : W.rangeAt P 0 [.slice d.pa d.pn d.pc, .slice d.ba d.bn d.bc, .slice d.ta d.bn d.tc, .slice d.fa d.bn d.fc] := by
  intro k u hk
  rw [cell_of_row _ _ _ _ _ _ h, Nat.zero_add]
  have hlt := (List.getElem?_eq_some_iff.1 hk).1
  simp only [List.length_cons, List.length_nil, Nat.reduceAdd] at hlt
  have : k = 0 ∨ k = 1 ∨ k = 2 ∨ k = 3 := by omega
  rcases this with rfl | rfl | rfl | rfl <;> simpa using hk
theorem BldJ.app (h : BldJ W0 d P base v L W) (hg : W.grownBy W3 v.ownBlock) (ho : W3.ownsRow base 128 202 v' (L.length + M.length) (L.flatMap partC ++ M.flatMap partC)) (hn : L.length + M.length ≤ 1000000) :
    BldJ W0 d P base v' (L ++ M) (W3.setCell ⟨P, 4, none⟩ v') ∧ Chg (SP P v) W (W3.setCell ⟨P, 4, none⟩ v') := by
  have hlow := h.low
  have hw0 := h.w0
  have hb3 : W3.heap[P]? = some (bldO d v) := grown_row hg h.bld fun e => by have := (h.own e).1; omega
  have g := grown_setCell W3 P 4 v'
  have hp : PartsIn W3 base v' (L ++ M) := ⟨by rw [List.length_append, List.flatMap_append]; exact ho, by rw [List.length_append]; omega⟩
  refine ⟨⟨?_, ?_, hlow, ?_, hw0, ?_⟩, ?_⟩
  · have := heap_setCell_same W3 P 4 _ _ v' hb3
    simpa using this
  · refine OwnR.kept hp g ?_
    cases e : v'.ownBlock with
    | none => exact .inl rfl
    | some q =>
      have := (OwnR.low hp e).1
      exact .inr fun e2 => by injection e2 with e2; omega
  · have := h.bs
    have := hg.size
    simp
    omega
  · exact (h.ext.grown hg h.ext.size fun q e => by have := (h.own e).1; omega).setCell (by show W0.heap.size ≤ P; omega) _
  · exact ((Chg.refl (SP P v) W).grown hg (fun k e => .inl (.inr e))).setCell (.inl (.inl rfl)) _
end
def BldPost (W0 : World) (d : WalkD) (P base : Nat) (v : Value) (w : World) (L : List PartD) (e : Ending) (w' : World) : Prop :=
  e = .returned (.tuple #[]) ∧ ∃ v', BldJ W0 d P base v' L w' ∧ Chg (SP P v) w w' ∧ ∀ q, v'.ownBlock = some q → v.ownBlock = some q ∨ w.heap.size ≤ q
theorem infoPart : (Tryz.prog.info? 128).map (fun i => (i.zero, i.size, i.bytes)) = some (some (.agg Tryz.zeroCells128), 202, 216) := by kernel_rfl
end

section
open Go.RowKit
theorem fold_at (off : Nat) (vs : List Value) (cells : Array Value) (k : Nat) :
    (vs.toArray.zipIdx.foldl (fun cs (x : Value × Nat) => cs.setIfInBounds (off + x.2) x.1) cells).size = cells.size ∧
    (vs.toArray.zipIdx.foldl (fun cs (x : Value × Nat) => cs.setIfInBounds (off + x.2) x.1) cells)[k]? = if off ≤ k ∧ k < off + vs.length ∧ k < cells.size then vs[k - off]? else cells[k]? := by
  have h := Great.foldl_set off vs 0 cells
  rw [← Array.foldl_toList]
  simp only [Array.toList_zipIdx]
  exact ⟨h.1, by have := h.2 k; simpa using this⟩
theorem partC_at (p : PartD) : (partC p).toArray = ((setA p.s).push (.int .i64 p.kind)).push (.int .i64 p.entry) := by
  rw [← Array.toList_inj]
  simp [partC]
theorem fill_part (s : Nat → Bool) (kd e : Int) (cells : Array Value) (hc : cells.size = 202) :
    Instr.fill (fun i => #[(0, 200), (200, 1), (201, 1)][i]?) cells [(0, .agg (setA s)), (1, .int .i64 kd), (2, .int .i64 e)] = some (partC ⟨s, kd, e⟩).toArray := by
  have s1 : (Value.agg (setA s)).cells = setA s := rfl
  unfold Instr.fill
  simp only [List.getElem?_toArray, List.getElem?_cons_zero, s1, setA_size, hc]
  rw [if_neg (by simp)]
  have h1 := fun k => fold_at 0 (setA s).toList cells k
  rw [show (setA s).toList.toArray = setA s by simp] at h1
  generalize (setA s).zipIdx.foldl (fun cs (x : Value × Nat) => cs.setIfInBounds (0 + x.2) x.1) cells = c1 at *
  have hs1 : c1.size = 202 := by rw [(h1 0).1, hc]
  have h1 := fun k => (h1 k).2
  unfold Instr.fill
  simp only [List.getElem?_toArray, List.getElem?_cons_succ, List.getElem?_cons_zero, Value.cells, List.size_toArray, List.length_cons, List.length_nil, hs1]
  rw [if_neg (by simp)]
  unfold Instr.fill
  simp only [List.getElem?_toArray, List.getElem?_cons_succ, List.getElem?_cons_zero, Value.cells, List.size_toArray, List.length_cons, List.length_nil]
  rw [if_neg (by simp [hs1])]
  unfold Instr.fill
  congr 1
  apply Array.ext_getElem?
  intro k
  rw [partC_at]
  have z1 : ∀ v : Value, #[v].zipIdx = #[(v, 0)] := fun v => rfl
  simp only [z1, List.foldl_toArray, List.foldl_toArray', List.size_toArray, List.length_cons, List.length_nil, List.foldl_cons, List.foldl_nil, Nat.add_zero, Array.getElem?_setIfInBounds, Array.size_setIfInBounds, hs1, Array.getElem?_push, Array.size_push, setA_size, h1, Array.length_toList, hc, Nat.zero_add, Array.getElem?_toList, Nat.sub_zero]
  by_cases k1 : k = 201
  · subst k1; simp
  · by_cases k2 : k = 200
    · subst k2; simp
    · by_cases k3 : k < 200
      · rw [if_neg (by omega), if_neg (by omega), if_pos (by omega), if_neg (by omega), if_neg (by omega)]
      · rw [if_neg (by omega), if_neg (by omega), if_neg (by omega), if_neg (by omega), if_neg (by omega)]
        rw [Array.getElem?_eq_none (by omega), Array.getElem?_eq_none (by rw [setA_size]; omega)]
theorem built_part (s : Nat → Bool) (kd e : Int) : Tryz.prog.built 128 [(0, .agg (setA s)), (1, .int .i64 kd), (2, .int .i64 e)] = some (partC ⟨s, kd, e⟩).toArray := by
  have h := fill_part s kd e Tryz.zeroCells128 (by kernel_rfl)
  refine Eq.trans ?_ h
  kernel_rfl
theorem run_build_part (s : Nat → Bool) (kd e : Int) (w : World) : (Instr.build 128 #[(0, .agg (setA s)), (1, .int .i64 kd), (2, .int .i64 e)]).run Tryz.prog w = .ok (partV ⟨s, kd, e⟩) w := run_build w _ _ _ (built_part s kd e)
theorem fill_one {s : Nat} (vs : List Value) (cells : Array Value) (h1 : vs.length = s) (h2 : cells.size = s) : Instr.fill (fun i => some (i * s, s)) cells [(0, .agg vs.toArray)] = some vs.toArray := by
  unfold Instr.fill
  have s1 : (Value.agg vs.toArray).cells = vs.toArray := rfl
  simp only [s1, List.size_toArray, h1, h2]
  rw [if_neg (by simp)]
  unfold Instr.fill
  congr 1
  apply Array.ext_getElem?
  intro k
  have h := (fold_at (0 * s) vs cells k).2
  rw [h]
  simp only [Nat.zero_mul, Nat.zero_le, Nat.zero_add, Nat.sub_zero, true_and, h1, h2, List.getElem?_toArray]
  by_cases hk : k < s
  · rw [if_pos ⟨hk, hk⟩]
  · rw [if_neg (by omega), Array.getElem?_eq_none (by omega), List.getElem?_eq_none (by omega)]
theorem op_rowPart {o : Oper} {a : Act} {w : World} {K : Act → World → Prop} {Q : Exit → Act → World → Prop} (x : Operand) (p : PartD) (ho : o.op = .buildSlice 120 1 #[(0, x)]) (hx : a.eval x = partV p)
    (h : K (a.put o.dst (.slice (some ⟨w.heap.size, 0, none⟩) 1 1)) (w.alloc (.cells (partC p).toArray 128))) : o.wp Tryz.prog a w K Q := by
  obtain ⟨ie, hie⟩ : ∃ i, Tryz.prog.info? 128 = some i := Option.isSome_iff_exists.1 (by kernel_rfl)
  have hs : ie.size = 202 := by have := size_part; rw [hie] at this; simpa using this
  obtain ⟨z, hz⟩ : ∃ z, ie.zero = some z := by
    have : (Tryz.prog.info? 128).map (fun i => i.zero.isSome) = some true := by kernel_rfl
    rw [hie] at this
    exact Option.isSome_iff_exists.1 (by simpa using this)
  refine wp_buildSlice _ 128 1 #[(0, x)] ho (partC p).toArray ie z Tryz.underlying120 hie hz (by rw [hs]; omega) (by rw [hs]; omega) ?_ h
  simp only [List.map_toArray, List.map_cons, List.map_nil, hx]
  rw [hs]
  exact fill_one (partC p) _ (partC_len p) (by simp)
theorem quiet_part {ops : Array Oper} {rest : List Oper} {o : Oper} {a : Act} {C : World → Prop} {Q : Act → Prop} (hw : Region.wanted o (yielded ops a.tmps) = true) (x y z : Operand) (s : Nat → Bool) (kd e : Int) (ho : o.op = .build 128 #[(0, x), (1, y), (2, z)])
    (hx : a.eval x = .agg (setA s)) (hy : a.eval y = .int .i64 kd) (hz : a.eval z = .int .i64 e) (h : wpQuiet Tryz.prog ops C Q rest (a.put o.dst (partV ⟨s, kd, e⟩))) : wpQuiet Tryz.prog ops C Q (o :: rest) a :=
  BigFrame.wpQuiet_want hw fun _ hK => ⟨partV ⟨s, kd, e⟩, fun w hC => by
    unfold Oper.quietAt execOp
    simp only [ho, List.map_toArray, List.map_cons, List.map_nil, hx, hy, hz, Sem.run_bind, run_build_part, Result.andThen_ok, Sem.run_pure]
    exact ⟨rfl, rfl⟩, hK _ h⟩
theorem wpList_load_midW {P : Program} {ops : Array Oper} {rest : List Oper} {o : Oper} {a : Act} {w : World} {Q : Exit → Act → World → Prop} (hw : Region.wanted o (yielded ops a.tmps) = true) (ty : TypeId) (x : Operand) (ho : o.op = .load ty x)
    (b q : Nat) (hx : a.eval x = .pointer (some ⟨b, q, none⟩)) (cs : List Value) (d : TypeDesc) (hc : w.rangeAt b q cs)
    (hu : P.underlying ty = some d) (hd : d.isRow = true) (hi : (P.info? ty).map (·.size) = some cs.length)
    (h : wpList P ops Q rest (a.put o.dst (.agg cs.toArray)) w) : wpList P ops Q (o :: rest) a w :=
  BigFrame.wpList_want hw fun _ hK => wp_load_mid ty x ho b q hx cs d hc hu hd hi (hK _ _ h)
theorem wpList_part {ops : Array Oper} {rest : List Oper} {o : Oper} {a : Act} {w : World} {Q : Exit → Act → World → Prop} (hgd : o.guard = none) (x y z : Operand) (s : Nat → Bool) (kd e : Int) (ho : o.op = .build 128 #[(0, x), (1, y), (2, z)])
    (hx : a.eval x = .agg (setA s)) (hy : a.eval y = .int .i64 kd) (hz : a.eval z = .int .i64 e) (h : wpList Tryz.prog ops Q rest (a.put o.dst (partV ⟨s, kd, e⟩)) w) : wpList Tryz.prog ops Q (o :: rest) a w :=
  wpList_plain hgd fun K hK => by
    unfold Oper.wp execOp
    simp only [ho, List.map_toArray, List.map_cons, List.map_nil, hx, hy, hz, Sem.run_bind, run_build_part, Result.andThen_ok, Sem.run_pure]
    exact hK _ _ h
theorem wpList_rowPart {ops : Array Oper} {rest : List Oper} {o : Oper} {a : Act} {w : World} {Q : Exit → Act → World → Prop} (hgd : o.guard = none) (x : Operand) (p : PartD) (ho : o.op = .buildSlice 120 1 #[(0, x)]) (hx : a.eval x = partV p)
    (h : wpList Tryz.prog ops Q rest (a.put o.dst (.slice (some ⟨w.heap.size, 0, none⟩) 1 1)) (w.alloc (.cells (partC p).toArray 128))) : wpList Tryz.prog ops Q (o :: rest) a w :=
  wpList_plain hgd fun _ hK => op_rowPart x p ho hx (hK _ _ h)
end

section
open Go.RowKit
attribute [local go_sem] Oper.semAt_some wide_fn wide_depth wide_fnR wide_depthR
theorem size_blk5 : (Tryz.prog.info? 73).map (·.size) = some 5 := by kernel_rfl
theorem goes17_any (a : Option Addr) (n c : Nat) (xs : List Int) (w : World) (h : Ints w a n xs) (hn : n ≤ 2) :
    Calls Tryz.prog 110 #[.slice a n c] w fun e w' => e = .returned (.agg (blkC (blkOf xs)).toArray) ∧ Below w.heap.size w w' := by
  obtain ⟨hl, _, hc⟩ := h
  subst hl
  rcases xs with _ | ⟨x, _ | ⟨y, _ | ⟨z, r⟩⟩⟩
  · clear hc hn
    simp only [List.length_nil]
    go_enter Tryz.func110, Tryz.ntmps110
    have hz : (w.alloc (.cells #[.slice none 0 0, .int .i64 0, .int .i64 0, .int .i64 0, .int .i64 0] 73)).heap[w.heap.size]? = some (.cells #[.slice none 0 0, .int .i64 0, .int .i64 0, .int .i64 0, .int .i64 0] 73 (0, 0)) := heap_alloc_new _ _
    go_wp2_with (refine wpList_store_row (o := ⟨none, .store 73 _ _, _, _, _, _⟩) rfl 73 _ _ rfl w.heap.size #[.slice none 0 0, .int .i64 3, .int .i64 0, .int .i64 0, .int .i64 0] rfl rfl 73 _ hz size_blk5 rfl (by simp [Value.oneCell']) ?_)
    have hl := run_loadVar_row (P := Tryz.prog) _ w.heap.size 73 73 _ (0, 0) _ (setRow_heap _ w.heap.size _ #[.slice none 0 0, .int .i64 3, .int .i64 0, .int .i64 0, .int .i64 0] _ _ hz) Tryz.underlying73 rfl size_blk5
    refine bodyPost_ret (v := .agg (blkC (blkOf [])).toArray) ?_ rfl ⟨rfl, below_setRow (ext_alloc _ _) (Nat.le_refl _) _⟩
    simp [results, Tryz.results110, asAddr, Act.put, hl, blkC, blkOf, termL]
  · obtain ⟨b, o, rfl, c0, _⟩ := hc 0 (by simp)
    simp only [List.length_cons, List.length_nil, Nat.zero_add, Nat.reduceAdd, Nat.add_zero, List.getD_cons_zero] at c0 ⊢
    have c0 := cell_ext (ext_alloc w (.cells #[.slice none 0 0, .int .i64 0, .int .i64 0, .int .i64 0, .int .i64 0] 73)) c0
    clear hc hn
    go_enter Tryz.func110, Tryz.ntmps110
    have hz : (w.alloc (.cells #[.slice none 0 0, .int .i64 0, .int .i64 0, .int .i64 0, .int .i64 0] 73)).heap[w.heap.size]? = some (.cells #[.slice none 0 0, .int .i64 0, .int .i64 0, .int .i64 0, .int .i64 0] 73 (0, 0)) := heap_alloc_new _ _
    go_wp2_with (refine wpList_store_row (o := ⟨none, .store 73 _ _, _, _, _, _⟩) rfl 73 _ _ rfl w.heap.size #[.slice none 0 0, .int .i64 1, .int .i64 0, .int .i64 x, .int .i64 0] rfl rfl 73 _ hz size_blk5 rfl (by simp [Value.oneCell']) ?_)
    have hl := run_loadVar_row (P := Tryz.prog) _ w.heap.size 73 73 _ (0, 0) _ (setRow_heap _ w.heap.size _ #[.slice none 0 0, .int .i64 1, .int .i64 0, .int .i64 x, .int .i64 0] _ _ hz) Tryz.underlying73 rfl size_blk5
    refine bodyPost_ret (v := .agg (blkC (blkOf [x])).toArray) ?_ rfl ⟨rfl, below_setRow (ext_alloc _ _) (Nat.le_refl _) _⟩
    simp [results, Tryz.results110, asAddr, Act.put, hl, blkC, blkOf, termL]
  · obtain ⟨b, o, rfl, c0, _⟩ := hc 0 (by simp)
    obtain ⟨b', o', e, c1, _⟩ := hc 1 (by simp)
    injection e with e
    injection e with e1 e2
    subst e1 e2
    simp only [List.length_cons, List.length_nil, Nat.zero_add, Nat.reduceAdd, Nat.add_zero, List.getD_cons_zero, List.getD_cons_succ] at c0 c1 ⊢
    clear hc hn
    go_enter Tryz.func110, Tryz.ntmps110
    have hz : (w.alloc (.cells #[.slice none 0 0, .int .i64 0, .int .i64 0, .int .i64 0, .int .i64 0] 73)).heap[w.heap.size]? = some (.cells #[.slice none 0 0, .int .i64 0, .int .i64 0, .int .i64 0, .int .i64 0] 73 (0, 0)) := heap_alloc_new _ _
    go_upto_region 6 with (fail)
    refine region_free 9 [some 17, some 18, some 19, some 20, some 21, some 22, some 23, some 24, some 25] (by kernel_rfl) (by kernel_rfl) (specB [.val (.slice (some ⟨b, o, none⟩) 2 c), .val (.pointer (some ⟨b, o, none⟩)), .val (.int .i64 x), .val (.slice (some ⟨b, o, none⟩) 2 c), .val (.pointer (some ⟨b, o + 1, none⟩)), .val (.int .i64 y), .val (.agg #[.int .i64 x, .int .i64 y]), .val (.agg #[.int .i64 2, .int .i64 1, .int .i64 x, .int .i64 y]), .val (.agg #[.slice none 0 0, .int .i64 2, .int .i64 1, .int .i64 x, .int .i64 y])]) (specB_mono ?_) ?_ ?_
    · intro k hk
      simp only [List.mem_cons, List.not_mem_nil, or_false] at hk
      rcases hk with rfl | rfl | rfl | rfl | rfl | rfl | rfl | rfl | rfl
      · exact trivial
      · exact trivial
      · exact trivial
      · exact trivial
      · exact trivial
      · exact trivial
      · exact trivial
      · exact trivial
      · exact trivial
    · intro i hi ν lo hi' w1 K hB hD hK
      have hcase : i = 0 ∨ i = 1 ∨ i = 2 ∨ i = 3 ∨ i = 4 ∨ i = 5 ∨ i = 6 ∨ i = 7 ∨ i = 8 := by omega
      clear hi
      rcases hcase with rfl | rfl | rfl | rfl | rfl | rfl | rfl | rfl | rfl
      · clear hD
        refine wpOp_atK rfl rfl ?_
        simp only [zA,zB,zC,zD,zE,zF,zJ,zK,zG,zH,zI] at hK ⊢
        go_simp
        exact hK _ _ (Below.refl _ _) rfl
      · have e0 := hD 0 (by kernel_rfl)
        replace e0 : ν 0 = (.slice (some ⟨b, o, none⟩) 2 c) := e0
        clear hD
        refine wpOp_atK rfl rfl ?_
        simp only [zA,zB,zC,zD,zE,zF,zJ,zK,zG,zH,zI, e0] at hK ⊢
        go_simp
        exact hK _ _ (Below.refl _ _) rfl
      · have e1 := hD 1 (by kernel_rfl)
        replace e1 : ν 1 = (.pointer (some ⟨b, o, none⟩)) := e1
        clear hD
        refine wpOp_atK rfl rfl ?_
        simp only [zA,zB,zC,zD,zE,zF,zJ,zK,zG,zH,zI, e1] at hK ⊢
        have hcl := cell_ext (ext_trans (ext_alloc _ _) hB) c0
        go_simp
        exact hK _ _ (Below.refl _ _) rfl
      · clear hD
        refine wpOp_atK rfl rfl ?_
        simp only [zA,zB,zC,zD,zE,zF,zJ,zK,zG,zH,zI] at hK ⊢
        go_simp
        exact hK _ _ (Below.refl _ _) rfl
      · have e3 := hD 3 (by kernel_rfl)
        replace e3 : ν 3 = (.slice (some ⟨b, o, none⟩) 2 c) := e3
        clear hD
        refine wpOp_atK rfl rfl ?_
        simp only [zA,zB,zC,zD,zE,zF,zJ,zK,zG,zH,zI, e3] at hK ⊢
        go_simp
        exact hK _ _ (Below.refl _ _) rfl
      · have e4 := hD 4 (by kernel_rfl)
        replace e4 : ν 4 = (.pointer (some ⟨b, o + 1, none⟩)) := e4
        clear hD
        refine wpOp_atK rfl rfl ?_
        simp only [zA,zB,zC,zD,zE,zF,zJ,zK,zG,zH,zI, e4] at hK ⊢
        have hcl := cell_ext (ext_trans (ext_alloc _ _) hB) c1
        go_simp
        exact hK _ _ (Below.refl _ _) rfl
      · have e2 := hD 2 (by kernel_rfl)
        replace e2 : ν 2 = (.int .i64 x) := e2
        have e5 := hD 5 (by kernel_rfl)
        replace e5 : ν 5 = (.int .i64 y) := e5
        clear hD
        refine wpOp_atK rfl rfl ?_
        simp only [zA,zB,zC,zD,zE,zF,zJ,zK,zG,zH,zI, e2, e5] at hK ⊢
        go_simp
        exact hK _ _ (Below.refl _ _) rfl
      · have e6 := hD 6 (by kernel_rfl)
        replace e6 : ν 6 = (.agg #[.int .i64 x, .int .i64 y]) := e6
        clear hD
        refine wpOp_atK rfl rfl ?_
        simp only [zA,zB,zC,zD,zE,zF,zJ,zK,zG,zH,zI, e6] at hK ⊢
        go_simp
        exact hK _ _ (Below.refl _ _) rfl
      · have e7 := hD 7 (by kernel_rfl)
        replace e7 : ν 7 = (.agg #[.int .i64 2, .int .i64 1, .int .i64 x, .int .i64 y]) := e7
        clear hD
        refine wpOp_atK rfl rfl ?_
        simp only [zA,zB,zC,zD,zE,zF,zJ,zK,zG,zH,zI, e7] at hK ⊢
        go_simp
        exact hK _ _ (Below.refl _ _) rfl
    · intro ν lo hi w1 hB hS hI hD
      have e0 : ν 0 = (.slice (some ⟨b, o, none⟩) 2 c) := hS 0 (by omega)
      have e1 : ν 1 = (.pointer (some ⟨b, o, none⟩)) := hS 1 (by omega)
      have e2 : ν 2 = (.int .i64 x) := hS 2 (by omega)
      have e3 : ν 3 = (.slice (some ⟨b, o, none⟩) 2 c) := hS 3 (by omega)
      have e4 : ν 4 = (.pointer (some ⟨b, o + 1, none⟩)) := hS 4 (by omega)
      have e5 : ν 5 = (.int .i64 y) := hS 5 (by omega)
      have e6 : ν 6 = (.agg #[.int .i64 x, .int .i64 y]) := hS 6 (by omega)
      have e7 : ν 7 = (.agg #[.int .i64 2, .int .i64 1, .int .i64 x, .int .i64 y]) := hS 7 (by omega)
      have e8 : ν 8 = (.agg #[.slice none 0 0, .int .i64 2, .int .i64 1, .int .i64 x, .int .i64 y]) := hS 8 (by omega)
      clear hS
      simp only [List.drop_succ_cons, List.drop_zero, zA,zB,zC,zD,zE,zF,zJ,zK,zG,zH,zI, e0, e1, e2, e3, e4, e5, e6, e7, e8]
      clear hI hD e0 e1 e2 e3 e4 e5 e6 e7 e8
      have hz1 := block_ext hB hz
      go_wp2_with (refine wpList_store_row (o := ⟨none, .store 73 _ _, _, _, _, _⟩) rfl 73 _ _ rfl w.heap.size #[.slice none 0 0, .int .i64 2, .int .i64 1, .int .i64 x, .int .i64 y] rfl rfl 73 _ hz1 size_blk5 rfl (by simp [Value.oneCell']) ?_)
      have hl := run_loadVar_row (P := Tryz.prog) _ w.heap.size 73 73 _ (0, 0) _ (setRow_heap w1 w.heap.size _ #[.slice none 0 0, .int .i64 2, .int .i64 1, .int .i64 x, .int .i64 y] _ _ hz1) Tryz.underlying73 rfl size_blk5
      refine bodyPost_ret (v := .agg (blkC (blkOf [x, y])).toArray) ?_ rfl ⟨rfl, below_setRow (ext_trans (ext_alloc _ _) hB) (Nat.le_refl _) _⟩
      simp [results, Tryz.results110, asAddr, Act.put, hl, blkC, blkOf, termL]
  · simp at hn
theorem op_rowBlk {o : Oper} {a : Act} {w : World} {K : Act → World → Prop} {Q : Exit → Act → World → Prop} (x : Operand) (p : BlkH) (ho : o.op = .buildSlice 23 1 #[(0, x)]) (hx : a.eval x = .agg (blkC p).toArray)
    (h : K (a.put o.dst (.slice (some ⟨w.heap.size, 0, none⟩) 1 1)) (w.alloc (.cells (blkC p).toArray 73))) : o.wp Tryz.prog a w K Q := by
  obtain ⟨ie, hie⟩ : ∃ i, Tryz.prog.info? 73 = some i := Option.isSome_iff_exists.1 (by kernel_rfl)
  have hs : ie.size = 5 := by have := size_blk5; rw [hie] at this; simpa using this
  obtain ⟨z, hz⟩ : ∃ z, ie.zero = some z := by
    have : (Tryz.prog.info? 73).map (fun i => i.zero.isSome) = some true := by kernel_rfl
    rw [hie] at this
    exact Option.isSome_iff_exists.1 (by simpa using this)
  refine wp_buildSlice _ 73 1 #[(0, x)] ho (blkC p).toArray ie z Tryz.underlying23 hie hz (by rw [hs]; omega) (by rw [hs]; omega) ?_ h
  simp only [List.map_toArray, List.map_cons, List.map_nil, hx]
  rw [hs]
  exact fill_one (blkC p) _ (blkC_len p) (by simp)
theorem of17_any (a : Option Addr) (n c : Nat) (rs : List SlR) (w : World) (h : LRows w a n rs) (hn : n ≤ 1000) (h2 : ∀ r ∈ rs, r.xs.length ≤ 2) :
    Calls Tryz.prog 49 #[.slice a n c] w (OfPost (rs.map (·.xs)) w) := by
  have H := Lib.hid h
  have HLN := Lib.hid h.1.1
  have HT2 := Lib.hid h2
  clear h h2
  go_enter Tryz.func49, Tryz.ntmps49
  go_wp2
  go_loopw [4] (fun i wr => ∃ k : Nat, i = .int .i64 k ∧ k ≤ n ∧ Hid (OJ w rs k wr)) (fun i _ => n - (intOf i).toNat)
  case atStart =>
    refine ⟨0, rfl, by omega, .slice none 0 0, ?_, ?_, ?_, OwnR.nil _ _ _ _ _, (((Below.refl _ w).alloc (Nat.le_refl _) _).alloc (by simp) _).alloc (by simp; omega) _⟩
    · exact block_ext (ext_trans (ext_alloc _ _) (ext_alloc _ _)) (heap_alloc_new _ _)
    · have := heap_alloc_new ((w.alloc (.cells #[.slice none 0 0, .slice none 0 0] 25)).alloc (.cells #[.int .i64 1] 3)) (.cells #[.slice (some ⟨w.heap.size + 1, 0, none⟩) 1 1, .slice none 0 0] 25)
      simpa using this
    · have := block_ext (ext_alloc _ (.cells #[.slice (some ⟨w.heap.size + 1, 0, none⟩) 1 1, .slice none 0 0] 25)) (heap_alloc_new (w.alloc (.cells #[.slice none 0 0, .slice none 0 0] 25)) (.cells #[.int .i64 1] 3))
      simpa using this
  case round =>
    obtain ⟨k, rfl, hk, HJ⟩ := hrel
    by_cases hlt : k < n
    · have hlt' : (k : Int) < (n : Int) := by omega
      obtain ⟨v, hz, hf, hpp, hown, hbw⟩ := HJ.out
      obtain ⟨r, b, o, hlr, rfl, cr, hI⟩ := H.out.cells hlt
      have hb0 : b < w.heap.size := World.block_lt_of_cell? _ _ cr
      have cr9 := cell_ext hbw cr
      have hrl := HT2.out r (List.mem_of_getElem? hlr)
      have HI := Lib.hid (hI.ext hbw)
      obtain ⟨av, cv, rfl⟩ := hown.form
      have hlk : ((rs.take k).map fun r => blkOf r.xs).length = k := by simp [HLN.out]; omega
      have hown1 := hown.1
      rw [hlk] at hf hown1
      have hlow : ∀ q, (Value.slice av k cv).ownBlock = some q → w.heap.size + 1 + 1 + 1 ≤ q := fun q hq => by have := (hown1.lt q hq).1; omega
      have hF1 : wr.cell? ⟨w.heap.size + 1 + 1, 1, none⟩ = some (.slice av k cv) := by rw [cell_of_row _ _ _ _ _ _ hf]; rfl
      have hbwr := hbw.size
      have g1 : ∀ n : ClsW (fun W' => wr.grownBy W' (Value.slice av k cv).ownBlock), n.val.cell? ⟨w.heap.size + 1 + 1, 1, none⟩ = some (.slice av k cv) := fun n => by rw [cell_of_row _ _ _ _ _ _ (grown_row n.prop hf (fun e => by have := hlow _ e; omega))]; rfl
      have g2 : ∀ n : ClsW (fun W' => wr.grownBy W' (Value.slice av k cv).ownBlock), n.val.cell? ⟨b, o + k, none⟩ = some (.slice r.sa r.xs.length r.sc) := fun n => n.prop.cell cr9 (fun e => by have h9 : w.heap.size + 1 + 1 + 1 ≤ b := hlow b e.symm; omega)
      have hne : Nonempty (ClsW (fun W' => wr.grownBy W' (Value.slice av k cv).ownBlock)) := cls_ne (grown_same _ _)
      have HLR := Lib.hid hlr
      have HLK := Lib.hid hlk
      have HF := Lib.hid hf
      have HOWN := Lib.hid hown1
      have hbs : w.heap.size + 1 + 1 + 1 ≤ wr.heap.size := by have := lt_of_heap hf; omega
      clear hz hf hpp hown hbw hown1 hlk cr cr9 hI hF1 hlr
      go_upto_region 5 with (fail)
      refine region_mix (fun w' => ∃ n : ClsW (fun W' => wr.grownBy W' (Value.slice av k cv).ownBlock), w' = n.val) [(0, 6, some (6, true)), (7, 0, some (7, true)), (8, 0, some (8, true)), (9, 1, some (10, false))] (by kernel_rfl) (by kernel_rfl) (cls_mk (grown_drew _ _)) ?_
      simp only [wpMix, List.take_succ_cons, List.take_zero, List.drop_succ_cons, List.drop_zero]
      repeat (first
        | go_big_quiet_skip
        | go_big_quiet_step (fail))
      refine wpQuiet_nil ?_
      refine wpOp_at rfl rfl ?_
      go_simp
      refine (goes17_any r.sa r.xs.length r.sc r.xs wr.drew (HI.out.ext (drew_ext wr)) hrl).mono ?_
      rintro e w5 ⟨rfl, hb5⟩
      have hg5 : wr.grownBy w5 (Value.slice av k cv).ownBlock := grown_tr (grown_drew _ _) (grown_below hb5 _)
      refine ⟨cls_mk hg5, ?_⟩
      have HB5 := Lib.hid (unDrew1 hb5)
      have HJ5 : Hid (OJ w rs k w5) := HJ.out.grown (grown_below HB5.out none) (fun q e => by cases e)
      have HOWN5 : Hid (w5.ownsRow (w.heap.size + 1 + 1 + 1) 73 5 (.slice av k cv) k (((rs.take k).map fun r => blkOf r.xs).flatMap blkC)) := HOWN.out.kept (grown_below HB5.out none) (by
        cases h : (Value.slice av k cv).ownBlock with
        | none => exact .inl rfl
        | some q => exact .inr (by simp))
      have HG5 := Lib.hid hg5
      clear hb5 hg5 HJ g2
      try simp only [zJ,zG,zH,zI]
      refine wpQuiet_nil ?_
      refine wpOp_at rfl rfl ?_
      refine op_rowBlk _ (blkOf r.xs) rfl rfl ?_
      simp only [zJ,zG,zH,zI]
      refine ⟨cls_mk (grown_tr HG5.out (World.grownBy_alloc _ _ _)), ?_⟩
      refine wpQuiet_nil ?_
      refine wpOp_at rfl rfl ?_
      have hbs5 := HB5.out.size
      refine op_append1 w5 (.tmp 14) (.tmp 20) 23 73 rfl (w.heap.size + 1 + 1 + 1) _ 5 56 Tryz.underlying23 infoBlk rfl (by omega) (.slice av k cv) _ _ (blkC (blkOf r.xs)) rfl HOWN5.out w5.heap.size rfl rfl rfl (fun u hu => blk_one [blkOf r.xs] u (by simpa using hu)) (by simp only [maxLen]; omega) (by omega) (by omega) ?_
      intro g6 cap w6 hown6 hg6 hat6
      refine ⟨cls_mk (grown_tr HG5.out hg6), ?_⟩
      have hf5 := block_ext HB5.out HF.out
      have hlow5 : (Value.slice av k cv).ownBlock ≠ some (w.heap.size + 1 + 1) := fun e => by have h9 := (HOWN5.out.lt _ e).1; omega
      have hf6 := grown_row hg6 hf5 hlow5
      have hcv6 : w6.cell? ⟨w.heap.size + 1 + 1, 1, none⟩ = some (.slice av k cv) := by rw [cell_of_row _ _ _ _ _ _ hf6]; rfl
      have hfv6 : w6.frozen? ⟨w.heap.size + 1 + 1, 1, none⟩ = false := frozen_of_row _ _ _ _ _ hf6
      have hlt6 := lt_of_heap hf6
      have HST := Lib.hid (OJ.step HJ5.out HLR.out hown6 hg6 hf5 (by omega) HLK.out)
      clear hown6 hg6 hat6 hf5 hf6 hlow5 g1
      try simp only [zJ,zG,zH,zI]
      repeat (go_big_quiet_step (fail))
      refine wpQuiet_nil ?_
      refine wpOp_at rfl rfl ?_
      go_simp
      refine NoPanic.normal ?_
      clear hcv6 hfv6 hlt6
      generalize w6.setCell ⟨w.heap.size + 1 + 1, 1, none⟩ (.slice (some ⟨g6, 0, none⟩) (k + 1) cap) = w7 at *
      go_wp2
      go_roundw
      case rel => exact ⟨k + 1, by go_num, by omega, HST.out⟩
      case measure => simp [intOf]; omega
    · obtain rfl : k = n := by omega
      obtain ⟨v, hz, hf, hpp, hown, hbw⟩ := HJ.out
      have hlk : ((rs.take k).map fun r => blkOf r.xs) = rs.map fun r => blkOf r.xs := by rw [List.take_of_length_le (by rw [HLN.out]; omega)]
      rw [hlk] at hown
      obtain ⟨av, cv, rfl⟩ := hown.form
      have f0 : wr.cell? ⟨w.heap.size + 1 + 1, 0, none⟩ = some (.slice (some ⟨w.heap.size + 1, 0, none⟩) 1 1) := by rw [cell_of_row _ _ _ _ _ _ hf]; rfl
      have HZ := Lib.hid hz
      have HF := Lib.hid hf
      have HPP := Lib.hid hpp
      have HOWN := Lib.hid hown
      have HBW := Lib.hid hbw
      clear hz hf hpp hown hbw hlk f0
      go_wp2_with (first
        | (refine wpList_load_row (o := ⟨some 23, .load 25 _, _, _, _, _⟩) rfl 25 _ rfl (w.heap.size + 1 + 1) rfl 25 _ (0, 0) _ HF.out Tryz.underlying25 rfl size_func ?_)
        | (refine wpList_store_row (o := ⟨none, .store 25 _ _, _, _, _, _⟩) rfl 25 _ _ rfl w.heap.size #[.slice (some ⟨w.heap.size + 1, 0, none⟩) 1 1, .slice av (rs.map fun r => blkOf r.xs).length cv] rfl rfl 25 _ HZ.out size_func rfl (by simp [Value.oneCell']) ?_))
      have hl := run_loadVar_row (P := Tryz.prog) _ w.heap.size 25 25 _ (0, 0) _ (setRow_heap _ _ _ #[.slice (some ⟨w.heap.size + 1, 0, none⟩) 1 1, .slice av (rs.map fun r => blkOf r.xs).length cv] _ _ HZ.out) Tryz.underlying25 rfl size_func
      have hset := grown_setRow wr w.heap.size #[.slice (some ⟨w.heap.size + 1, 0, none⟩) 1 1, .slice av (rs.map fun r => blkOf r.xs).length cv]
      have eL : (rs.map fun r => blkOf r.xs) = (rs.map (·.xs)).map blkOf := by rw [List.map_map]; rfl
      have eN : (rs.map fun r => blkOf r.xs).length = (rs.map (·.xs)).length := by simp
      have hown := HOWN.out.kept hset (kept_ne fun q hq e => by have := (HOWN.out.low hq).1; injection e with e; omega)
      have hpp := (hset.block _ (Array.getElem?_eq_some_iff.1 HPP.out).1 (fun e => by injection e with e; omega)).trans HPP.out
      have hbel := below_setRow HBW.out (Nat.le_refl _) #[.slice (some ⟨w.heap.size + 1, 0, none⟩) 1 1, .slice av (rs.map fun r => blkOf r.xs).length cv]
      generalize wr.setRow w.heap.size #[.slice (some ⟨w.heap.size + 1, 0, none⟩) 1 1, .slice av (rs.map fun r => blkOf r.xs).length cv] = W9 at *
      refine bodyPost_ret (v := funcV (some ⟨w.heap.size + 1, 0, none⟩) 1 1 av (rs.map fun r => blkOf r.xs).length cv) ?_ rfl ⟨some ⟨w.heap.size + 1, 0, none⟩, 1, av, cv, by rw [eN], ?_, ⟨⟨rfl, .inr ⟨w.heap.size + 1, 1, #[.int .i64 1], rfl, by omega, hpp, Nat.le_refl _, by unfold maxLen; omega, rfl, rfl⟩⟩, fun x hx => ?_, by simp⟩, hbel⟩
      · simp only [List.length_map] at hl
        simp [results, Tryz.results49, asAddr, Act.put, hl]
      · rw [eN, eL] at hown
        have hge : w.heap.size ≤ w.heap.size + 1 + 1 + 1 := by omega
        exact OwnR.mono (base' := w.heap.size) hown hge
      · have : x = 1 := by simpa using hx
        subst this
        unfold I64; omega
end

section
open Go.RowKit
abbrev markD (D : Nat) : Deferred := { target := .collected D, args := #[] }
def Marks (lo hi : Nat) (ds : List Deferred) (w : World) : Prop :=
  ∃ Ds : List Nat, ds = Ds.map markD ∧ Ds.Nodup ∧ ∀ D ∈ Ds, lo ≤ D ∧ D < hi ∧ w.heap[D]? = some (.deferred (some []))
theorem Marks.nil (lo hi : Nat) (w : World) : Marks lo hi [] w := ⟨[], rfl, List.nodup_nil, fun _ h => by cases h⟩
theorem Marks.cons {lo hi hi' D : Nat} {ds : List Deferred} {w : World} (h : Marks lo hi ds w) (h1 : hi ≤ D) (h0 : lo ≤ D) (h2 : D < hi') (hk : w.heap[D]? = some (.deferred (some []))) : Marks lo hi' (markD D :: ds) w := by
  obtain ⟨Ds, rfl, hn, hD⟩ := h
  refine ⟨D :: Ds, rfl, List.nodup_cons.2 ⟨fun hm => ?_, hn⟩, fun E hE => ?_⟩
  · have := (hD D hm).2.1; omega
  · rcases List.mem_cons.1 hE with rfl | hE
    · exact ⟨h0, h2, hk⟩
    · obtain ⟨a, b, c⟩ := hD E hE
      exact ⟨a, by omega, c⟩
theorem Marks.keep {lo hi : Nat} {ds : List Deferred} {w w' : World} (h : Marks lo hi ds w) (hk : Keep w w') : Marks lo hi ds w' := by
  obtain ⟨Ds, e, hn, hD⟩ := h
  exact ⟨Ds, e, hn, fun D hm => ⟨(hD D hm).1, (hD D hm).2.1, hk D _ (hD D hm).2.2 rfl⟩⟩
theorem Marks.mono {lo hi hi' : Nat} {ds : List Deferred} {w : World} (h : Marks lo hi ds w) (hh : hi ≤ hi') : Marks lo hi' ds w := by
  obtain ⟨Ds, e, hn, hD⟩ := h
  exact ⟨Ds, e, hn, fun D hm => ⟨(hD D hm).1, by have := (hD D hm).2.1; omega, (hD D hm).2.2⟩⟩
theorem Steady.marks {lo hi B : Nat} (hB : hi ≤ B) (ds : List Deferred) : Steady B (fun W => Marks lo hi ds W) := by
  rintro W W' row ⟨Ds, e, hn, hD⟩ hg hr
  refine ⟨Ds, e, hn, fun D hm => ⟨(hD D hm).1, (hD D hm).2.1, ?_⟩⟩
  have h2 := (hD D hm).2.2
  refine (hg.block D (Array.getElem?_eq_some_iff.1 h2).1 fun e => ?_).trans h2
  have h3 := (hr D e.symm).1
  have h4 := (hD D hm).2.1
  omega
theorem leaves_marks {P : Program} {F : Fence} {n : Nat} {fn : Func} {tmps : Array Value} {R : Ending → World → Prop} {u : FrameMode} (hu : u ≠ .run) {lo hi : Nat} (J : World → Prop) (hJ : Steady lo J) (h : ∀ w, J w → LeavesIn F n P fn tmps R [] u w) :
    ∀ (ds : List Deferred) (w : World), Marks lo hi ds w → J w → LeavesInM F n P fn tmps R ds u w := by
  intro ds
  induction ds with
  | nil => exact fun w _ hj => h w hj
  | cons d ds ih =>
    rintro w ⟨Ds, e, hn, hD⟩ hj
    cases Ds with
    | nil => cases e
    | cons D Ds =>
      simp only [List.map_cons, List.cons.injEq] at e
      obtain ⟨rfl, rfl⟩ := e
      have h1 := (hD D (by simp)).2.2
      have hne := (List.nodup_cons.1 hn).1
      refine ⟨hu, .inl ⟨D, _, rfl, run_takeDeferred h1, ih _ ⟨Ds, rfl, (List.nodup_cons.1 hn).2, fun E hE => ?_⟩ (hJ.put (.deferred none) hj (hD D (by simp)).1 h1 rfl)⟩⟩
      obtain ⟨a, b, c⟩ := hD E (by simp [hE])
      refine ⟨a, b, (World.putObj_heap_other ?_).trans c⟩
      rintro rfl
      exact hne hE
end
end Go.Proofs.YtblhmdhfhaencaaGreat
