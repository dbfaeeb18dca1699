/-
 Ranges over functions within rounds of others: the law of a loop whose body is told of its record, and that of a loop within a round. No program in sight.
-/
import Derived.Test.YtblhmdhfhaencaaTD
import Derived.RangeFuncNested
import Derived.Test.YtblhmdhfhaencaaQG
import Derived.Test.YtblhmdhfhaencaaQA
import Derived.Test.YtblhmdhfhaencaaRowG
import Derived.Great.BuildSlice
import Derived.RangeFuncLeaves
namespace Go.Proofs.Ytblhmdhfhaencaa
set_option linter.unusedSimpArgs false
set_option linter.unusedVariables false
set_option linter.unusedSectionVars false
set_option maxRecDepth 100000
set_option maxHeartbeats 40000000
section
open Go.RowKit

/-- THE CALLER's LAW, outermost loop; the body is told of its loop's record -/
theorem range_outerN {P : Program} {σ α : Type} {g : Operand} {ps : Array Tmp} {assign body : Code} {Q : Exit → Act → World → Prop} {a : Act} {w : World} {gf : Nat} {lb : Array Value}
  (hg : a.eval g = .func (.func gf) #[] lb) (eg : ∀ args w, (callFunc gf args).run P w = .ok (.enter gf args) w)
  {enc : α → Array Value} {ok : σ → α → Prop} {nx : σ → α → σ} {s0 : σ} {Fin : σ → Prop} {Inv : σ → World → Prop} (hit : Iter P gf lb enc ok nx s0 Fin Inv)
  (hps : ∀ x, (enc x).size = ps.size)
  (J : σ → World → Prop) (Jx : Code → World → Prop) (A : σ → α → Act → World → Prop)
  (hJ : ∀ s, Steady w.heap.size (J s)) (hJx : ∀ c, Steady w.heap.size (Jx c)) (hA : ∀ s x a, Steady w.heap.size (A s x a)) (hInv : ∀ s W, J s W → Inv s W)
  (h0 : J s0 w)
  (hassign : ∀ (l : Nat) (s : σ) (x : α) (W : World), ok s x → J s W →
    assign.wpIn (Fence.wide.inRound l) 0 P (Exit.then (fun a1 W1 => Keep W W1 ∧ J s W1 ∧ A s x a1 W1) (fun _ _ _ => False)) { tmps := (ps.zip (enc x)).foldl (fun t (p, v) => t.setIfInBounds p v) a.tmps, defers := [] } W)
  (hbody : ∀ (l : Nat) (s : σ) (x : α) (a1 : Act) (W : World), w.heap.size ≤ l → (∃ r, W.heap[l]? = some (.loop r)) → ok s x → J s W → A s x a1 W →
    body.wpIn (Fence.wide.inRound l) 0 P (roundEnd (fun W' => Keep W W' ∧ J (nx s x) W') (fun c W' => Keep W W' ∧ Jx c W')) a1 W)
  (hdone : ∀ (D : Nat) (s : σ) (W : World), w.heap.size ≤ D → Fin s → J s W → W.heap[D]? = some (.deferred (some [])) → Q .normal { a with defers := { target := .collected D, args := #[] } :: a.defers } W)
  (hstop : ∀ (D : Nat) (c : Code) (W : World), w.heap.size ≤ D → Jx c W → W.heap[D]? = some (.deferred (some [])) → c.wpIn Fence.wide 0 P Q { a with defers := { target := .collected D, args := #[] } :: a.defers } W) :
  (Code.rangeFunc g ps assign body).wpIn Fence.wide 0 P Q a w := by
 refine wpIn_rangeFunc ?_
 intro fn hfn
 obtain ⟨rec, hrec⟩ : ∃ rec : LoopState → Option Code → Loop, rec = fun st pe => { state := st, pending := pe, fn, tmps := a.tmps, params := ps, assign, body, defers := w.heap.size } := ⟨_, rfl⟩
 obtain ⟨W1, hW1⟩ : ∃ W1, (w.alloc (.deferred (some []))).alloc (.loop (rec .ready none)) = W1 := ⟨_, rfl⟩
 have hL1 : W1.heap[w.heap.size + 1]? = some (.loop (rec .ready none)) := by
  rw [← hW1]; have := World.alloc_heap_new (w.alloc (.deferred (some []))) (.loop (rec .ready none)); rwa [World.size_alloc] at this
 have hK1 : W1.heap[w.heap.size]? = some (.deferred (some [])) := by
  rw [← hW1]; exact (Below.heap_alloc _ _ _ (by simp)).trans (World.alloc_heap_new w _)
 have hb1 : Below w.heap.size w W1 := by
  rw [← hW1]; exact ((Below.refl _ w).alloc (Nat.le_refl _) _).alloc (by simp) _
 have hI1 : J s0 W1 := (hJ s0).ext h0 hb1
 have keepE : ∀ {W W' : World} {k : Nat} {o : Obj}, W.heap[k]? = some o → Below W.heap.size W W' → W'.heap[k]? = some o :=
  fun hk hb => (hb.block _ (Array.getElem?_eq_some_iff.1 hk).1).trans hk
 refine ⟨w.heap.size + 1, [{ target := .collected w.heap.size, args := #[] }], W1, { target := .fn (.func gf) lb, args := #[.func (.yield (w.heap.size + 1)) #[] #[]] }, W1, gf,
  #[.func (.yield (w.heap.size + 1)) #[] #[]] ++ lb, W1, ?_, ?_, ?_, ?_, fun h => by simp [Fence.wide] at h, ?_⟩
 · rw [← hW1, hrec]; exact run_enterLoop_outer _ _ _ _ _
 · simp only [resolve, hg]
   simp [go_sem]
 · intro f' hf'; trivial
 · simp [invoke, go_sem, eg]
 · refine (hit (w.heap.size + 1)
    (fun s W => J s W ∧ W.heap[w.heap.size + 1]? = some (.loop (rec .ready none)) ∧ W.heap[w.heap.size]? = some (.deferred (some [])))
    (fun W => ∃ c, Jx c W ∧ W.heap[w.heap.size + 1]? = some (.loop (rec .done (some c))) ∧ W.heap[w.heap.size]? = some (.deferred (some [])))
    W1 (fun s A B h hb => ⟨(hJ s).ext h.1 hb, keepE h.2.1 hb, keepE h.2.2 hb⟩)
    (fun A B h hb => by obtain ⟨c, h1, h2, h3⟩ := h; exact ⟨c, (hJx c).ext h1 hb, keepE h2 hb, keepE h3 hb⟩)
    (fun s W h => hInv s W h.1) ?_ ⟨hI1, hL1, hK1⟩).mono ?_
   · rintro s x W hok ⟨hi, hl, hk⟩
     have hy := run_yield (P := P) (args := enc x) hl (by rw [hrec]; exact hps x)
     rw [hrec] at hy
     refine ⟨fn, _, assign, body, hy, roundIn_of_wpIn hfn (wpIn_mono (hassign _ s x W hok hi) ?_)⟩
     rintro e a1 V hp
     cases e with
     | normal =>
       obtain ⟨hkp, hiV, hAV⟩ := hp
       have hlV := hkp _ _ hl rfl
       have hkV := hkp _ _ hk rfl
       have hlt : w.heap.size + 1 < V.heap.size := (Array.getElem?_eq_some_iff.1 hlV).1
       refine ⟨_, run_beginRound hlV (by rw [hrec]), ?_⟩
       have hl2 : (V.putObj (w.heap.size + 1) (.loop { rec .ready none with state := .busy })).heap[w.heap.size + 1]? = some (.loop { rec .ready none with state := .busy }) := World.putObj_heap_same hlt
       have hk2 : (V.putObj (w.heap.size + 1) (.loop { rec .ready none with state := .busy })).heap[w.heap.size]? = some (.deferred (some [])) := (World.putObj_heap_other (by omega)).trans hkV
       refine wpIn_mono (hbody _ s x a1 _ (by omega) ⟨_, hl2⟩ hok ((hJ s).put _ hiV (by omega) hlV rfl) ((hA s x a1).put _ hAV (by omega) hlV rfl)) ?_
       have fin : ∀ (jump : Option Code) (W3 : World), Keep (V.putObj (w.heap.size + 1) (.loop { rec .ready none with state := .busy })) W3 →
         (Instr.endRound (w.heap.size + 1) jump).run P W3 = .ok (.bool jump.isNone) (W3.putObj (w.heap.size + 1) (.loop (rec (if jump.isNone then .ready else .done) jump))) ∧
         W3.heap[w.heap.size + 1]? = some (.loop { rec .ready none with state := .busy }) ∧
         (W3.putObj (w.heap.size + 1) (.loop (rec (if jump.isNone then .ready else .done) jump))).heap[w.heap.size + 1]? = some (.loop (rec (if jump.isNone then .ready else .done) jump)) ∧
         (W3.putObj (w.heap.size + 1) (.loop (rec (if jump.isNone then .ready else .done) jump))).heap[w.heap.size]? = some (.deferred (some [])) := fun jump W3 hk3 => by
        have hl3 := hk3 _ _ hl2 rfl
        have := run_endRound (P := P) jump hl3
        rw [hrec] at this ⊢
        exact ⟨this, by rw [hrec] at hl3; exact hl3, World.putObj_heap_same (Array.getElem?_eq_some_iff.1 hl3).1, (World.putObj_heap_other (by omega)).trans (hk3 _ _ hk2 rfl)⟩
       rintro e a3 W3 hp
       cases e with
       | normal =>
         obtain ⟨hk3, hi3⟩ := hp
         obtain ⟨hr, hl3, hl4, hk4⟩ := fin none W3 hk3
         exact ⟨_, _, hr, .inl ⟨rfl, (hJ _).put _ hi3 (by omega) hl3 rfl, hl4, hk4⟩⟩
       | ret =>
         obtain ⟨hk3, hi3⟩ := hp
         obtain ⟨hr, hl3, hl4, hk4⟩ := fin (some .ret) W3 hk3
         exact ⟨_, _, hr, .inr ⟨rfl, .ret, (hJx _).put _ hi3 (by omega) hl3 rfl, hl4, hk4⟩⟩
       | exit id =>
         obtain ⟨hk3, hi3⟩ := hp
         obtain ⟨hr, hl3, hl4, hk4⟩ := fin (some (.exit id)) W3 hk3
         exact ⟨_, _, hr, .inr ⟨rfl, .exit id, (hJx _).put _ hi3 (by omega) hl3 rfl, hl4, hk4⟩⟩
       | goto t =>
         obtain ⟨hk3, hi3⟩ := hp
         obtain ⟨hr, hl3, hl4, hk4⟩ := fin (some (.goto t)) W3 hk3
         exact ⟨_, _, hr, .inr ⟨rfl, .goto t, (hJx _).put _ hi3 (by omega) hl3 rfl, hl4, hk4⟩⟩
       | panic ch => exact hp.elim
       | outgrown => exact hp.elim
     | exit id => exact hp.elim
     | goto t => exact hp.elim
     | ret => exact hp.elim
     | panic chain => exact hp.elim
     | outgrown => exact hp.elim
   · rintro e W2 ⟨⟨v, rfl⟩, (⟨s, hS, hi, hl, hk⟩ | ⟨c, hi, hl, hk⟩)⟩
     · exact ⟨none, _, by have := run_endLoop (P := P) hl (by rw [hrec]; simp); rw [hrec] at this; exact this, hdone _ s _ (Nat.le_refl _) hS ((hJ s).put _ hi (by omega) hl rfl) ((World.putObj_heap_other (by omega)).trans hk)⟩
     · exact ⟨some c, _, by have := run_endLoop (P := P) hl (by rw [hrec]; simp); rw [hrec] at this; exact this, hstop _ c _ (Nat.le_refl _) ((hJx c).put _ hi (by omega) hl rfl) ((World.putObj_heap_other (by omega)).trans hk)⟩
/-- THE CALLER's LAW, a loop within a round of loop l0 -/
theorem range_inner {P : Program} {σ α : Type} {g : Operand} {ps : Array Tmp} {assign body : Code} {Q : Exit → Act → World → Prop} {a : Act} {w : World} {l0 : Nat} {r0 : Loop} (hl0 : w.heap[l0]? = some (.loop r0)) {gf : Nat} {lb : Array Value}
  (hg : a.eval g = .func (.func gf) #[] lb) (eg : ∀ args w, (callFunc gf args).run P w = .ok (.enter gf args) w)
  {enc : α → Array Value} {ok : σ → α → Prop} {nx : σ → α → σ} {s0 : σ} {Fin : σ → Prop} {Inv : σ → World → Prop} (hit : Iter P gf lb enc ok nx s0 Fin Inv)
  (hps : ∀ x, (enc x).size = ps.size)
  (J : σ → World → Prop) (Jx : Code → World → Prop) (A : σ → α → Act → World → Prop)
  (hJ : ∀ s, Steady w.heap.size (J s)) (hJx : ∀ c, Steady w.heap.size (Jx c)) (hA : ∀ s x a, Steady w.heap.size (A s x a)) (hInv : ∀ s W, J s W → Inv s W)
  (h0 : J s0 w)
  (hassign : ∀ (l : Nat) (s : σ) (x : α) (W : World), ok s x → J s W →
    assign.wpIn (Fence.wide.inRound l) 0 P (Exit.then (fun a1 W1 => Keep W W1 ∧ J s W1 ∧ A s x a1 W1) (fun _ _ _ => False)) { tmps := (ps.zip (enc x)).foldl (fun t (p, v) => t.setIfInBounds p v) a.tmps, defers := [] } W)
  (hbody : ∀ (l : Nat) (s : σ) (x : α) (a1 : Act) (W : World), w.heap.size ≤ l → (∃ r, W.heap[l]? = some (.loop r)) → ok s x → J s W → A s x a1 W →
    body.wpIn (Fence.wide.inRound l) 0 P (roundEnd (fun W' => Keep W W' ∧ J (nx s x) W') (fun c W' => Keep W W' ∧ Jx c W')) a1 W)
  (hdone : ∀ (s : σ) (W : World), Fin s → J s W → Q .normal a W)
  (hstop : ∀ (c : Code) (W : World), Jx c W → c.wpIn (Fence.wide.inRound l0) 0 P Q a W) :
  (Code.rangeFunc g ps assign body).wpIn (Fence.wide.inRound l0) 0 P Q a w := by
 refine wpIn_rangeFunc ?_
 intro fn hfn
 obtain ⟨rec, hrec⟩ : ∃ rec : LoopState → Option Code → Loop, rec = fun st pe => { state := st, pending := pe, fn, tmps := a.tmps, params := ps, assign, body, defers := r0.defers } := ⟨_, rfl⟩
 obtain ⟨W1, hW1⟩ : ∃ W1, w.alloc (.loop (rec .ready none)) = W1 := ⟨_, rfl⟩
 have hL1 : W1.heap[w.heap.size]? = some (.loop (rec .ready none)) := by rw [← hW1]; exact World.alloc_heap_new w _
 have hb1 : Below w.heap.size w W1 := by rw [← hW1]; exact (Below.refl _ w).alloc (Nat.le_refl _) _
 have hI1 : J s0 W1 := (hJ s0).ext h0 hb1
 have keepE : ∀ {W W' : World} {k : Nat} {o : Obj}, W.heap[k]? = some o → Below W.heap.size W W' → W'.heap[k]? = some o :=
  fun hk hb => (hb.block _ (Array.getElem?_eq_some_iff.1 hk).1).trans hk
 refine ⟨w.heap.size, [], W1, { target := .fn (.func gf) lb, args := #[.func (.yield w.heap.size) #[] #[]] }, W1, gf,
  #[.func (.yield w.heap.size) #[] #[]] ++ lb, W1, ?_, ?_, ?_, ?_, fun h => by simp [Fence.wide] at h, ?_⟩
 · rw [← hW1, hrec]; exact run_enterLoop_inner hl0 _ _ _ _ _
 · simp only [resolve, hg]
   simp [go_sem]
 · intro f' hf'; trivial
 · simp [invoke, go_sem, eg]
 · refine CallsIn.mono (hit w.heap.size
    (fun s W => J s W ∧ W.heap[w.heap.size]? = some (.loop (rec .ready none)))
    (fun W => ∃ c, Jx c W ∧ W.heap[w.heap.size]? = some (.loop (rec .done (some c))))
    W1 (fun s A B h hb => ⟨(hJ s).ext h.1 hb, keepE h.2 hb⟩)
    (fun A B h hb => by obtain ⟨c, h1, h2⟩ := h; exact ⟨c, (hJx c).ext h1 hb, keepE h2 hb⟩)
    (fun s W h => hInv s W h.1) ?_ ⟨hI1, hL1⟩) ?_
   · rintro s x W hok ⟨hi, hl⟩
     have hy := run_yield (P := P) (args := enc x) hl (by rw [hrec]; exact hps x)
     rw [hrec] at hy
     refine ⟨fn, _, assign, body, hy, roundIn_of_wpIn (F := Fence.wide) hfn (wpIn_mono (hassign _ s x W hok hi) ?_)⟩
     rintro e a1 V hp
     cases e with
     | normal =>
       obtain ⟨hkp, hiV, hAV⟩ := hp
       have hlV := hkp _ _ hl rfl
       have hlt : w.heap.size < V.heap.size := (Array.getElem?_eq_some_iff.1 hlV).1
       refine ⟨_, run_beginRound hlV (by rw [hrec]), ?_⟩
       have hl2 : (V.putObj w.heap.size (.loop { rec .ready none with state := .busy })).heap[w.heap.size]? = some (.loop { rec .ready none with state := .busy }) := World.putObj_heap_same hlt
       refine wpIn_mono (hbody _ s x a1 _ (Nat.le_refl _) ⟨_, hl2⟩ hok ((hJ s).put _ hiV (Nat.le_refl _) hlV rfl) ((hA s x a1).put _ hAV (Nat.le_refl _) hlV rfl)) ?_
       have fin : ∀ (jump : Option Code) (W3 : World), Keep (V.putObj w.heap.size (.loop { rec .ready none with state := .busy })) W3 →
         (Instr.endRound w.heap.size jump).run P W3 = .ok (.bool jump.isNone) (W3.putObj w.heap.size (.loop (rec (if jump.isNone then .ready else .done) jump))) ∧
         W3.heap[w.heap.size]? = some (.loop { rec .ready none with state := .busy }) ∧
         (W3.putObj w.heap.size (.loop (rec (if jump.isNone then .ready else .done) jump))).heap[w.heap.size]? = some (.loop (rec (if jump.isNone then .ready else .done) jump)) := fun jump W3 hk3 => by
        have hl3 := hk3 _ _ hl2 rfl
        have := run_endRound (P := P) jump hl3
        rw [hrec] at this ⊢
        exact ⟨this, by rw [hrec] at hl3; exact hl3, World.putObj_heap_same (Array.getElem?_eq_some_iff.1 hl3).1⟩
       rintro e a3 W3 hp
       cases e with
       | normal =>
         obtain ⟨hk3, hi3⟩ := hp
         obtain ⟨hr, hl3, hl4⟩ := fin none W3 hk3
         exact ⟨_, _, hr, .inl ⟨rfl, (hJ _).put _ hi3 (Nat.le_refl _) hl3 rfl, hl4⟩⟩
       | ret =>
         obtain ⟨hk3, hi3⟩ := hp
         obtain ⟨hr, hl3, hl4⟩ := fin (some .ret) W3 hk3
         exact ⟨_, _, hr, .inr ⟨rfl, .ret, (hJx _).put _ hi3 (Nat.le_refl _) hl3 rfl, hl4⟩⟩
       | exit id =>
         obtain ⟨hk3, hi3⟩ := hp
         obtain ⟨hr, hl3, hl4⟩ := fin (some (.exit id)) W3 hk3
         exact ⟨_, _, hr, .inr ⟨rfl, .exit id, (hJx _).put _ hi3 (Nat.le_refl _) hl3 rfl, hl4⟩⟩
       | goto t =>
         obtain ⟨hk3, hi3⟩ := hp
         obtain ⟨hr, hl3, hl4⟩ := fin (some (.goto t)) W3 hk3
         exact ⟨_, _, hr, .inr ⟨rfl, .goto t, (hJx _).put _ hi3 (Nat.le_refl _) hl3 rfl, hl4⟩⟩
       | panic ch => exact hp.elim
       | outgrown => exact hp.elim
     | exit id => exact hp.elim
     | goto t => exact hp.elim
     | ret => exact hp.elim
     | panic chain => exact hp.elim
     | outgrown => exact hp.elim
   · rintro e W2 ⟨⟨v, rfl⟩, (⟨s, hS, hi, hl⟩ | ⟨c, hi, hl⟩)⟩
     · exact ⟨none, _, by have := run_endLoop (P := P) hl (by rw [hrec]; simp); rw [hrec] at this; exact this, hdone s _ hS ((hJ s).put _ hi (Nat.le_refl _) hl rfl)⟩
     · exact ⟨some c, _, by have := run_endLoop (P := P) hl (by rw [hrec]; simp); rw [hrec] at this; exact this, hstop c _ ((hJx c).put _ hi (Nat.le_refl _) hl rfl)⟩
/-- THE CALLER's LAW where a list's elements are gone through, outermost loop, the body told of its loop's record: d done, r to come -/
theorem range_listN {P : Program} {α : Type} {g : Operand} {ps : Array Tmp} {assign body : Code} {Q : Exit → Act → World → Prop} {a : Act} {w : World} {gf : Nat} {lb : Array Value}
  (hg : a.eval g = .func (.func gf) #[] lb) (eg : ∀ args w, (callFunc gf args).run P w = .ok (.enter gf args) w)
  {enc : α → Array Value} {l : List α} (I : World → Prop) (hit : IterI P gf lb enc l I) (hps : ∀ x, (enc x).size = ps.size)
  (J : List α → List α → World → Prop) (Jx : Code → World → Prop)
  (hJ : ∀ d r, Steady w.heap.size (J d r)) (hJx : ∀ c, Steady w.heap.size (Jx c)) (hInv : ∀ d r W, J d r W → I W)
  (h0 : J [] l w)
  (hround : ∀ (lp : Nat) (d : List α) (x : α) (r : List α) (W : World), l = d ++ x :: r → J d (x :: r) W →
    assign.wpIn (Fence.wide.inRound lp) 0 P (Exit.then (fun a1 W1 => Keep W W1 ∧ J d (x :: r) W1 ∧ ∀ (lp : Nat) (W2 : World), w.heap.size ≤ lp → (∃ rc, W2.heap[lp]? = some (.loop rc)) → J d (x :: r) W2 →
     body.wpIn (Fence.wide.inRound lp) 0 P (roundEnd (fun W' => Keep W2 W' ∧ J (d ++ [x]) r W') (fun c W' => Keep W2 W' ∧ Jx c W')) a1 W2) (fun _ _ _ => False)) { tmps := (ps.zip (enc x)).foldl (fun t (p, v) => t.setIfInBounds p v) a.tmps, defers := [] } W)
  (hdone : ∀ (D : Nat) (W : World), w.heap.size ≤ D → J l [] W → W.heap[D]? = some (.deferred (some [])) → Q .normal { a with defers := { target := .collected D, args := #[] } :: a.defers } W)
  (hstop : ∀ (D : Nat) (c : Code) (W : World), w.heap.size ≤ D → Jx c W → W.heap[D]? = some (.deferred (some [])) → c.wpIn Fence.wide 0 P Q { a with defers := { target := .collected D, args := #[] } :: a.defers } W) :
  (Code.rangeFunc g ps assign body).wpIn Fence.wide 0 P Q a w := by
 refine range_outerN (enc := enc) hg eg hit hps (fun s W => ∃ d, l = d ++ s ∧ J d s W) Jx
  (fun s x a1 _ => ∀ (d : List α) (lp : Nat) (W2 : World), w.heap.size ≤ lp → (∃ rc, W2.heap[lp]? = some (.loop rc)) → l = d ++ s → J d s W2 → body.wpIn (Fence.wide.inRound lp) 0 P (roundEnd (fun W' => Keep W2 W' ∧ J (d ++ [x]) (nxL s x) W') (fun c W' => Keep W2 W' ∧ Jx c W')) a1 W2)
  (fun s => Steady.ex fun d => (Steady.pure _ _).and (hJ d s)) hJx (fun _ _ _ => Steady.pure _ _) (fun s W ⟨d, _, h⟩ => hInv d s W h) ⟨[], rfl, h0⟩ ?_ ?_ ?_ hstop
 · rintro lp s x W hok ⟨d, hd, hj⟩
   have hs := okL_cons hok
   generalize nxL s x = r at hs ⊢
   subst hs
   refine wpIn_mono (hround lp d x r W hd hj) ?_
   rintro e a1 W1 he
   cases e with
   | normal =>
     obtain ⟨h1, h2, h3⟩ := he
     refine ⟨h1, ⟨d, hd, h2⟩, fun d' lp' W2 hlp' hrc' hd' hj' => ?_⟩
     have : d' = d := by
      have := hd'.symm.trans hd
      exact List.append_cancel_right this
     subst this
     exact h3 lp' W2 hlp' hrc' hj'
   | _ => exact he.elim
 · rintro lp s x a1 W hlp hrc hok ⟨d, hd, hj⟩ hA
   refine wpIn_mono (hA d lp W hlp hrc hd hj) ?_
   rintro e a3 W3 he
   cases e with
   | normal =>
     refine ⟨he.1, d ++ [x], ?_, he.2⟩
     rw [hd, List.append_assoc]
     congr 1
     exact okL_cons hok
   | ret => exact he
   | exit id => exact he
   | goto t => exact he
   | panic ch => exact he.elim
   | outgrown => exact he.elim
 · rintro D s W hD hf ⟨d, hd, hj⟩ hk
   have hf : s = [] := hf
   subst hf
   rw [List.append_nil] at hd
   subst hd
   exact hdone D W hD hj hk
/-- THE CALLER's LAW where a list's elements are gone through, a loop within a round of loop l0: d done, r to come -/
theorem range_listI {P : Program} {α : Type} {g : Operand} {ps : Array Tmp} {assign body : Code} {Q : Exit → Act → World → Prop} {a : Act} {w : World} {l0 : Nat} {r0 : Loop} (hl0 : w.heap[l0]? = some (.loop r0)) {gf : Nat} {lb : Array Value}
  (hg : a.eval g = .func (.func gf) #[] lb) (eg : ∀ args w, (callFunc gf args).run P w = .ok (.enter gf args) w)
  {enc : α → Array Value} {l : List α} (I : World → Prop) (hit : IterI P gf lb enc l I) (hps : ∀ x, (enc x).size = ps.size)
  (J : List α → List α → World → Prop) (Jx : Code → World → Prop)
  (hJ : ∀ d r, Steady w.heap.size (J d r)) (hJx : ∀ c, Steady w.heap.size (Jx c)) (hInv : ∀ d r W, J d r W → I W)
  (h0 : J [] l w)
  (hround : ∀ (lp : Nat) (d : List α) (x : α) (r : List α) (W : World), l = d ++ x :: r → J d (x :: r) W →
    assign.wpIn (Fence.wide.inRound lp) 0 P (Exit.then (fun a1 W1 => Keep W W1 ∧ J d (x :: r) W1 ∧ ∀ (lp : Nat) (W2 : World), w.heap.size ≤ lp → (∃ rc, W2.heap[lp]? = some (.loop rc)) → J d (x :: r) W2 →
     body.wpIn (Fence.wide.inRound lp) 0 P (roundEnd (fun W' => Keep W2 W' ∧ J (d ++ [x]) r W') (fun c W' => Keep W2 W' ∧ Jx c W')) a1 W2) (fun _ _ _ => False)) { tmps := (ps.zip (enc x)).foldl (fun t (p, v) => t.setIfInBounds p v) a.tmps, defers := [] } W)
  (hdone : ∀ (W : World), J l [] W → Q .normal a W)
  (hstop : ∀ (c : Code) (W : World), Jx c W → c.wpIn (Fence.wide.inRound l0) 0 P Q a W) :
  (Code.rangeFunc g ps assign body).wpIn (Fence.wide.inRound l0) 0 P Q a w := by
 refine range_inner (enc := enc) hl0 hg eg hit hps (fun s W => ∃ d, l = d ++ s ∧ J d s W) Jx
  (fun s x a1 _ => ∀ (d : List α) (lp : Nat) (W2 : World), w.heap.size ≤ lp → (∃ rc, W2.heap[lp]? = some (.loop rc)) → l = d ++ s → J d s W2 → body.wpIn (Fence.wide.inRound lp) 0 P (roundEnd (fun W' => Keep W2 W' ∧ J (d ++ [x]) (nxL s x) W') (fun c W' => Keep W2 W' ∧ Jx c W')) a1 W2)
  (fun s => Steady.ex fun d => (Steady.pure _ _).and (hJ d s)) hJx (fun _ _ _ => Steady.pure _ _) (fun s W ⟨d, _, h⟩ => hInv d s W h) ⟨[], rfl, h0⟩ ?_ ?_ ?_ hstop
 · rintro lp s x W hok ⟨d, hd, hj⟩
   have hs := okL_cons hok
   generalize nxL s x = r at hs ⊢
   subst hs
   refine wpIn_mono (hround lp d x r W hd hj) ?_
   rintro e a1 W1 he
   cases e with
   | normal =>
     obtain ⟨h1, h2, h3⟩ := he
     refine ⟨h1, ⟨d, hd, h2⟩, fun d' lp' W2 hlp' hrc' hd' hj' => ?_⟩
     have : d' = d := by
      have := hd'.symm.trans hd
      exact List.append_cancel_right this
     subst this
     exact h3 lp' W2 hlp' hrc' hj'
   | _ => exact he.elim
 · rintro lp s x a1 W hlp hrc hok ⟨d, hd, hj⟩ hA
   refine wpIn_mono (hA d lp W hlp hrc hd hj) ?_
   rintro e a3 W3 he
   cases e with
   | normal =>
     refine ⟨he.1, d ++ [x], ?_, he.2⟩
     rw [hd, List.append_assoc]
     congr 1
     exact okL_cons hok
   | ret => exact he
   | exit id => exact he
   | goto t => exact he
   | panic ch => exact he.elim
   | outgrown => exact he.elim
 · rintro s W hf ⟨d, hd, hj⟩
   have hf : s = [] := hf
   subst hf
   rw [List.append_nil] at hd
   subst hd
   exact hdone W hj
end

section
open Go.RowKit Go.Shelf

/-- the builder and its parts; W0: where the walker was made -/
structure BldJ (W0 : World) (d : WalkD) (P base : Nat) (v : Value) (L : List PartD) (W : World) : Prop where
 bld : W.heap[P]? = some (bldO d v)
 parts : PartsIn W base v L
 low : P < base
 bs : base ≤ W.heap.size
 w0 : W0.heap.size ≤ P
 ext : Below W0.heap.size W0 W
/-- the blocks that are turned while parts are put behind -/
def SP (P : Nat) (v : Value) (k : Nat) : Prop := k = P ∨ v.ownBlock = some k
theorem Chg.then {S T : Nat → Prop} {a b c : World} (h : Chg S a b) (k : Chg T b c) (hs : ∀ q, T q → S q ∨ a.heap.size ≤ q) : Chg S a c :=
 ⟨k.os.trans h.os, k.tape.trans h.tape, k.output.trans h.output, Nat.le_trans h.size k.size, fun q hq hn =>
  (k.block q (Nat.lt_of_lt_of_le hq h.size) (fun ht => (hs q ht).elim hn (by omega))).trans (h.block q hq hn)⟩
theorem Steady.chg {S : Nat → Prop} {w : World} {D : Nat} (hD : w.heap.size ≤ D) : Steady D (fun W => Chg S w W) := fun W W' row h hg hr => h.grown hg (fun k e => .inr (Nat.le_trans hD (hr k e).1))
theorem own_other {w : World} {base : Nat} {e t : TypeId} {size : Nat} {v : Value} {n k : Nat} {xs : List Value} {cs : Array Value} {fr : Nat × Nat} (h : w.ownsRow base e size v n xs) (hk : w.heap[k]? = some (.cells cs t fr)) (ht : t ≠ e) : v.ownBlock ≠ some k := by
 intro hv
 rcases h.2 with ⟨rfl, _⟩ | ⟨g, cap, cur, rfl, _, hg, _⟩
 · cases hv
 · simp only [Value.ownBlock, Option.some.injEq] at hv
   subst hv
   rw [hk] at hg
   injection hg with hg
   injection hg with _ hg _
   exact ht hg
theorem grown_tr {a b c : World} {row : Option Nat} (h : a.grownBy b row) (k : b.grownBy c row) : a.grownBy c row :=
 ⟨k.os.trans h.os, k.tape.trans h.tape, k.output.trans h.output, Nat.le_trans h.size k.size, fun q hq hn => (k.block q (Nat.lt_of_lt_of_le hq h.size) hn).trans (h.block q hq hn)⟩
theorem grown_drew (w : World) (row : Option Nat) : w.grownBy w.drew row := ⟨rfl, rfl, rfl, Nat.le_refl _, fun _ _ _ => rfl⟩
theorem grown_same (w : World) (row : Option Nat) : w.grownBy w row := ⟨rfl, rfl, rfl, Nat.le_refl _, fun _ _ _ => rfl⟩
theorem drew_ext (w : World) : Below w.heap.size w w.drew := ext_drewN (Below.refl _ _) 1
section
variable {W0 W W' W3 : World} {d : WalkD} {P base : Nat} {v v' : Value} {L M : List PartD}
theorem BldJ.own (h : BldJ W0 d P base v L W) {q : Nat} (hq : v.ownBlock = some q) : base ≤ q ∧ q < W.heap.size := OwnR.low h.parts hq
theorem BldJ.grown {row : Option Nat} (h : BldJ W0 d P base v L W) (hg : W.grownBy W' row) (hr : ∀ q, row = some q → W0.heap.size ≤ q ∧ q ≠ P ∧ v.ownBlock ≠ some q) : BldJ W0 d P base v L W' where
 bld := grown_row hg h.bld fun e => (hr P e).2.1 rfl
 parts := OwnR.kept h.parts hg (by
  cases e : v.ownBlock with
  | none => exact .inl rfl
  | some q => exact .inr fun e2 => (hr q e2.symm).2.2 e)
 low := h.low
 bs := Nat.le_trans h.bs hg.size
 w0 := h.w0
 ext := h.ext.grown hg h.ext.size fun q e => (hr q e).1
theorem BldJ.ext' (h : BldJ W0 d P base v L W) (hb : Below W.heap.size W W') : BldJ W0 d P base v L W' :=
 h.grown (row := none) ⟨hb.os, hb.tape, hb.output, hb.size, fun k hk _ => hb.block k hk⟩ fun q e => by cases e
theorem BldJ.steady {D : Nat} (hD : W0.heap.size ≤ D) : Steady D (BldJ W0 d P base v L) := fun W W' row h hg hr =>
 ⟨(Steady.block D P (o := bldO d v) rfl) W W' row h.bld hg hr, (Steady.ownR D base v L) W W' row h.parts hg hr, h.low, Nat.le_trans h.bs hg.size, h.w0, (Steady.below (n₀ := W0.heap.size) (w₀ := W0) (Nat.le_refl _) hD) W W' row h.ext hg hr⟩
theorem BldJ.cell (h : BldJ W0 d P base v L W) : W.cell? ⟨P, 4, none⟩ = some v := by rw [cell_of_row _ _ _ _ _ _ h.bld]; rfl
theorem BldJ.free (h : BldJ W0 d P base v L W) (k : Nat) : W.frozen? ⟨P, k, none⟩ = false := frozen_of_row _ _ _ _ _ h.bld
theorem BldJ.keep (h : BldJ W0 d P base v L W) (hc : Chg (SP P v) W W') : Keep W W' := fun k o hk ho => hc.row hk fun hs => by
 rcases hs with rfl | hs
 · rw [h.bld] at hk; cases hk; cases ho
 · rcases h.parts.1.2 with ⟨e, _⟩ | ⟨g, cap, cur, e, _, hg, _⟩
   · rw [e] at hs; cases hs
   · rw [e] at hs
     simp only [Value.ownBlock, Option.some.injEq] at hs
     subst hs
     rw [hg] at hk
     cases hk
     cases ho
theorem bld_walk (h : W.heap[P]? = some (bldO d v)) : W.rangeAt P 0 [.slice d.pa d.pn d.pc, .slice d.ba d.bn d.bc, .slice d.ta d.bn d.tc, .slice d.fa d.bn d.fc] := by
 intro k u hk
 rw [cell_of_row _ _ _ _ _ _ h, Nat.zero_add]
 have hlt := (List.getElem?_eq_some_iff.1 hk).1
 simp only [List.length_cons, List.length_nil, Nat.reduceAdd] at hlt
 have : k = 0 ∨ k = 1 ∨ k = 2 ∨ k = 3 := by omega
 rcases this with rfl | rfl | rfl | rfl <;> simpa using hk
/-- parts are put behind, the builder holds the new slice -/
theorem BldJ.app (h : BldJ W0 d P base v L W) (hg : W.grownBy W3 v.ownBlock) (ho : W3.ownsRow base 99 202 v' (L.length + M.length) (L.flatMap partC ++ M.flatMap partC)) (hn : L.length + M.length ≤ 1000000) :
  BldJ W0 d P base v' (L ++ M) (W3.setCell ⟨P, 4, none⟩ v') ∧ Chg (SP P v) W (W3.setCell ⟨P, 4, none⟩ v') := by
 have hlow := h.low
 have hw0 := h.w0
 have hb3 : W3.heap[P]? = some (bldO d v) := grown_row hg h.bld fun e => by have := (h.own e).1; omega
 have g := grown_setCell W3 P 4 v'
 have hp : PartsIn W3 base v' (L ++ M) := ⟨by rw [List.length_append, List.flatMap_append]; exact ho, by rw [List.length_append]; omega⟩
 refine ⟨⟨?_, ?_, hlow, ?_, hw0, ?_⟩, ?_⟩
 · have := heap_setCell_same W3 P 4 _ _ v' hb3
   simpa using this
 · refine OwnR.kept hp g ?_
   cases e : v'.ownBlock with
   | none => exact .inl rfl
   | some q =>
     have := (OwnR.low hp e).1
     exact .inr fun e2 => by injection e2 with e2; omega
 · have := h.bs
   have := hg.size
   simp
   omega
 · exact (h.ext.grown hg h.ext.size fun q e => by have := (h.own e).1; omega).setCell (by show W0.heap.size ≤ P; omega) _
 · exact ((Chg.refl (SP P v) W).grown hg (fun k e => .inl (.inr e))).setCell (.inl (.inl rfl)) _
end
/-- what a call that puts parts behind leaves -/
def BldPost (W0 : World) (d : WalkD) (P base : Nat) (v : Value) (w : World) (L : List PartD) (e : Ending) (w' : World) : Prop :=
 e = .returned (.tuple #[]) ∧ ∃ v', BldJ W0 d P base v' L w' ∧ Chg (SP P v) w w' ∧ ∀ q, v'.ownBlock = some q → v.ownBlock = some q ∨ w.heap.size ≤ q
theorem infoPart : (Try.prog.info? 99).map (fun i => (i.zero, i.size, i.bytes)) = some (some (.agg Try.zeroCells99), 202, 216) := by kernel_rfl
end

section
open Go.RowKit

theorem fold_at (off : Nat) (vs : List Value) (cells : Array Value) (k : Nat) :
  (vs.toArray.zipIdx.foldl (fun cs (x : Value × Nat) => cs.setIfInBounds (off + x.2) x.1) cells).size = cells.size ∧
  (vs.toArray.zipIdx.foldl (fun cs (x : Value × Nat) => cs.setIfInBounds (off + x.2) x.1) cells)[k]? = if off ≤ k ∧ k < off + vs.length ∧ k < cells.size then vs[k - off]? else cells[k]? := by
 have h := Great.foldl_set off vs 0 cells
 rw [← Array.foldl_toList]
 simp only [Array.toList_zipIdx]
 exact ⟨h.1, by have := h.2 k; simpa using this⟩
theorem partC_at (p : PartD) : (partC p).toArray = ((setA p.s).push (.int .i64 p.kind)).push (.int .i64 p.entry) := by
 rw [← Array.toList_inj]
 simp [partC]
theorem fill_part (s : Nat → Bool) (kd e : Int) (cells : Array Value) (hc : cells.size = 202) :
  Instr.fill (fun i => #[(0, 200), (200, 1), (201, 1)][i]?) cells [(0, .agg (setA s)), (1, .int .i64 kd), (2, .int .i64 e)] = some (partC ⟨s, kd, e⟩).toArray := by
 have s1 : (Value.agg (setA s)).cells = setA s := rfl
 unfold Instr.fill
 simp only [List.getElem?_toArray, List.getElem?_cons_zero, s1, setA_size, hc]
 rw [if_neg (by simp)]
 have h1 := fun k => fold_at 0 (setA s).toList cells k
 rw [show (setA s).toList.toArray = setA s by simp] at h1
 generalize (setA s).zipIdx.foldl (fun cs (x : Value × Nat) => cs.setIfInBounds (0 + x.2) x.1) cells = c1 at *
 have hs1 : c1.size = 202 := by rw [(h1 0).1, hc]
 have h1 := fun k => (h1 k).2
 unfold Instr.fill
 simp only [List.getElem?_toArray, List.getElem?_cons_succ, List.getElem?_cons_zero, Value.cells, List.size_toArray, List.length_cons, List.length_nil, hs1]
 rw [if_neg (by simp)]
 unfold Instr.fill
 simp only [List.getElem?_toArray, List.getElem?_cons_succ, List.getElem?_cons_zero, Value.cells, List.size_toArray, List.length_cons, List.length_nil]
 rw [if_neg (by simp [hs1])]
 unfold Instr.fill
 congr 1
 apply Array.ext_getElem?
 intro k
 rw [partC_at]
 have z1 : ∀ v : Value, #[v].zipIdx = #[(v, 0)] := fun v => rfl
 simp only [z1, List.foldl_toArray, List.foldl_toArray', List.size_toArray, List.length_cons, List.length_nil, List.foldl_cons, List.foldl_nil, Nat.add_zero, Array.getElem?_setIfInBounds, Array.size_setIfInBounds, hs1, Array.getElem?_push, Array.size_push, setA_size, h1, Array.length_toList, hc, Nat.zero_add, Array.getElem?_toList, Nat.sub_zero]
 by_cases k1 : k = 201
 · subst k1; simp
 · by_cases k2 : k = 200
   · subst k2; simp
   · by_cases k3 : k < 200
     · rw [if_neg (by omega), if_neg (by omega), if_pos (by omega), if_neg (by omega), if_neg (by omega)]
     · rw [if_neg (by omega), if_neg (by omega), if_neg (by omega), if_neg (by omega), if_neg (by omega)]
       rw [Array.getElem?_eq_none (by omega), Array.getElem?_eq_none (by rw [setA_size]; omega)]
theorem built_part (s : Nat → Bool) (kd e : Int) : Try.prog.built 99 [(0, .agg (setA s)), (1, .int .i64 kd), (2, .int .i64 e)] = some (partC ⟨s, kd, e⟩).toArray := by
 have h := fill_part s kd e Try.zeroCells99 (by kernel_rfl)
 refine Eq.trans ?_ h
 kernel_rfl
theorem run_build_part (s : Nat → Bool) (kd e : Int) (w : World) : (Instr.build 99 #[(0, .agg (setA s)), (1, .int .i64 kd), (2, .int .i64 e)]).run Try.prog w = .ok (partV ⟨s, kd, e⟩) w := run_build w _ _ _ (built_part s kd e)
theorem fill_one {s : Nat} (vs : List Value) (cells : Array Value) (h1 : vs.length = s) (h2 : cells.size = s) : Instr.fill (fun i => some (i * s, s)) cells [(0, .agg vs.toArray)] = some vs.toArray := by
 unfold Instr.fill
 have s1 : (Value.agg vs.toArray).cells = vs.toArray := rfl
 simp only [s1, List.size_toArray, h1, h2]
 rw [if_neg (by simp)]
 unfold Instr.fill
 congr 1
 apply Array.ext_getElem?
 intro k
 have h := (fold_at (0 * s) vs cells k).2
 rw [h]
 simp only [Nat.zero_mul, Nat.zero_le, Nat.zero_add, Nat.sub_zero, true_and, h1, h2, List.getElem?_toArray]
 by_cases hk : k < s
 · rw [if_pos ⟨hk, hk⟩]
 · rw [if_neg (by omega), Array.getElem?_eq_none (by omega), List.getElem?_eq_none (by omega)]
theorem op_rowPart {o : Oper} {a : Act} {w : World} {K : Act → World → Prop} {Q : Exit → Act → World → Prop} (x : Operand) (p : PartD) (ho : o.op = .buildSlice 92 1 #[(0, x)]) (hx : a.eval x = partV p)
  (h : K (a.put o.dst (.slice (some ⟨w.heap.size, 0, none⟩) 1 1)) (w.alloc (.cells (partC p).toArray 99))) : o.wp Try.prog a w K Q := by
 obtain ⟨ie, hie⟩ : ∃ i, Try.prog.info? 99 = some i := Option.isSome_iff_exists.1 (by kernel_rfl)
 have hs : ie.size = 202 := by have := size_part; rw [hie] at this; simpa using this
 obtain ⟨z, hz⟩ : ∃ z, ie.zero = some z := by
  have : (Try.prog.info? 99).map (fun i => i.zero.isSome) = some true := by kernel_rfl
  rw [hie] at this
  exact Option.isSome_iff_exists.1 (by simpa using this)
 refine wp_buildSlice _ 99 1 #[(0, x)] ho (partC p).toArray ie z Try.underlying92 hie hz (by rw [hs]; omega) (by rw [hs]; omega) ?_ h
 simp only [List.map_toArray, List.map_cons, List.map_nil, hx]
 rw [hs]
 exact fill_one (partC p) _ (partC_len p) (by simp)
theorem quiet_part {ops : Array Oper} {rest : List Oper} {o : Oper} {a : Act} {C : World → Prop} {Q : Act → Prop} (hw : Region.wanted o (yielded ops a.tmps) = true) (x y z : Operand) (s : Nat → Bool) (kd e : Int) (ho : o.op = .build 99 #[(0, x), (1, y), (2, z)])
  (hx : a.eval x = .agg (setA s)) (hy : a.eval y = .int .i64 kd) (hz : a.eval z = .int .i64 e) (h : wpQuiet Try.prog ops C Q rest (a.put o.dst (partV ⟨s, kd, e⟩))) : wpQuiet Try.prog ops C Q (o :: rest) a :=
 BigFrame.wpQuiet_want hw fun _ hK => ⟨partV ⟨s, kd, e⟩, fun w hC => by
  unfold Oper.quietAt execOp
  simp only [ho, List.map_toArray, List.map_cons, List.map_nil, hx, hy, hz, Sem.run_bind, run_build_part, Result.andThen_ok, Sem.run_pure]
  exact ⟨rfl, rfl⟩, hK _ h⟩
theorem wpList_load_midW {P : Program} {ops : Array Oper} {rest : List Oper} {o : Oper} {a : Act} {w : World} {Q : Exit → Act → World → Prop} (hw : Region.wanted o (yielded ops a.tmps) = true) (ty : TypeId) (x : Operand) (ho : o.op = .load ty x)
  (b q : Nat) (hx : a.eval x = .pointer (some ⟨b, q, none⟩)) (cs : List Value) (d : TypeDesc) (hc : w.rangeAt b q cs)
  (hu : P.underlying ty = some d) (hd : d.isRow = true) (hi : (P.info? ty).map (·.size) = some cs.length)
  (h : wpList P ops Q rest (a.put o.dst (.agg cs.toArray)) w) : wpList P ops Q (o :: rest) a w :=
 BigFrame.wpList_want hw fun _ hK => wp_load_mid ty x ho b q hx cs d hc hu hd hi (hK _ _ h)
theorem wpList_part {ops : Array Oper} {rest : List Oper} {o : Oper} {a : Act} {w : World} {Q : Exit → Act → World → Prop} (hgd : o.guard = none) (x y z : Operand) (s : Nat → Bool) (kd e : Int) (ho : o.op = .build 99 #[(0, x), (1, y), (2, z)])
  (hx : a.eval x = .agg (setA s)) (hy : a.eval y = .int .i64 kd) (hz : a.eval z = .int .i64 e) (h : wpList Try.prog ops Q rest (a.put o.dst (partV ⟨s, kd, e⟩)) w) : wpList Try.prog ops Q (o :: rest) a w :=
 wpList_plain hgd fun K hK => by
  unfold Oper.wp execOp
  simp only [ho, List.map_toArray, List.map_cons, List.map_nil, hx, hy, hz, Sem.run_bind, run_build_part, Result.andThen_ok, Sem.run_pure]
  exact hK _ _ h
theorem wpList_rowPart {ops : Array Oper} {rest : List Oper} {o : Oper} {a : Act} {w : World} {Q : Exit → Act → World → Prop} (hgd : o.guard = none) (x : Operand) (p : PartD) (ho : o.op = .buildSlice 92 1 #[(0, x)]) (hx : a.eval x = partV p)
  (h : wpList Try.prog ops Q rest (a.put o.dst (.slice (some ⟨w.heap.size, 0, none⟩) 1 1)) (w.alloc (.cells (partC p).toArray 99))) : wpList Try.prog ops Q (o :: rest) a w :=
 wpList_plain hgd fun _ hK => op_rowPart x p ho hx (hK _ _ h)
end

section
open Go.RowKit

/-- the mark of one range over a func -/
abbrev markD (D : Nat) : Deferred := { target := .collected D, args := #[] }
/-- marks alone stand among the deferred calls; their blocks are open, and lie between lo and hi -/
def Marks (lo hi : Nat) (ds : List Deferred) (w : World) : Prop :=
 ∃ Ds : List Nat, ds = Ds.map markD ∧ Ds.Nodup ∧ ∀ D ∈ Ds, lo ≤ D ∧ D < hi ∧ w.heap[D]? = some (.deferred (some []))
theorem Marks.nil (lo hi : Nat) (w : World) : Marks lo hi [] w := ⟨[], rfl, List.nodup_nil, fun _ h => by cases h⟩
theorem Marks.cons {lo hi hi' D : Nat} {ds : List Deferred} {w : World} (h : Marks lo hi ds w) (h1 : hi ≤ D) (h0 : lo ≤ D) (h2 : D < hi') (hk : w.heap[D]? = some (.deferred (some []))) : Marks lo hi' (markD D :: ds) w := by
 obtain ⟨Ds, rfl, hn, hD⟩ := h
 refine ⟨D :: Ds, rfl, List.nodup_cons.2 ⟨fun hm => ?_, hn⟩, fun E hE => ?_⟩
 · have := (hD D hm).2.1; omega
 · rcases List.mem_cons.1 hE with rfl | hE
   · exact ⟨h0, h2, hk⟩
   · obtain ⟨a, b, c⟩ := hD E hE
     exact ⟨a, by omega, c⟩
theorem Marks.keep {lo hi : Nat} {ds : List Deferred} {w w' : World} (h : Marks lo hi ds w) (hk : Keep w w') : Marks lo hi ds w' := by
 obtain ⟨Ds, e, hn, hD⟩ := h
 exact ⟨Ds, e, hn, fun D hm => ⟨(hD D hm).1, (hD D hm).2.1, hk D _ (hD D hm).2.2 rfl⟩⟩
theorem Marks.mono {lo hi hi' : Nat} {ds : List Deferred} {w : World} (h : Marks lo hi ds w) (hh : hi ≤ hi') : Marks lo hi' ds w := by
 obtain ⟨Ds, e, hn, hD⟩ := h
 exact ⟨Ds, e, hn, fun D hm => ⟨(hD D hm).1, by have := (hD D hm).2.1; omega, (hD D hm).2.2⟩⟩
theorem Steady.marks {lo hi B : Nat} (hB : hi ≤ B) (ds : List Deferred) : Steady B (fun W => Marks lo hi ds W) := by
 rintro W W' row ⟨Ds, e, hn, hD⟩ hg hr
 refine ⟨Ds, e, hn, fun D hm => ⟨(hD D hm).1, (hD D hm).2.1, ?_⟩⟩
 have h2 := (hD D hm).2.2
 refine (hg.block D (Array.getElem?_eq_some_iff.1 h2).1 fun e => ?_).trans h2
 have h3 := (hr D e.symm).1
 have h4 := (hD D hm).2.1
 omega
/-- the way out, past all marks -/
theorem leaves_marks {P : Program} {F : Fence} {n : Nat} {fn : Func} {tmps : Array Value} {R : Ending → World → Prop} {u : FrameMode} (hu : u ≠ .run) {lo hi : Nat} (J : World → Prop) (hJ : Steady lo J) (h : ∀ w, J w → LeavesIn F n P fn tmps R [] u w) :
  ∀ (ds : List Deferred) (w : World), Marks lo hi ds w → J w → LeavesInM F n P fn tmps R ds u w := by
 intro ds
 induction ds with
 | nil => exact fun w _ hj => h w hj
 | cons d ds ih =>
   rintro w ⟨Ds, e, hn, hD⟩ hj
   cases Ds with
   | nil => cases e
   | cons D Ds =>
     simp only [List.map_cons, List.cons.injEq] at e
     obtain ⟨rfl, rfl⟩ := e
     have h1 := (hD D (by simp)).2.2
     have hne := (List.nodup_cons.1 hn).1
     refine ⟨hu, .inl ⟨D, _, rfl, run_takeDeferred h1, ih _ ⟨Ds, rfl, (List.nodup_cons.1 hn).2, fun E hE => ?_⟩ (hJ.put (.deferred none) hj (hD D (by simp)).1 h1 rfl)⟩⟩
     obtain ⟨a, b, c⟩ := hD E (by simp [hE])
     refine ⟨a, b, (World.putObj_heap_other ?_).trans c⟩
     rintro rfl
     exact hne hE
end
end Go.Proofs.Ytblhmdhfhaencaa
