/-
  Ranges over functions whose iterator goes over a map: it turns an iterator of its own. No program in sight. (Printed by gen_rangem.py out of XRange, XRangeT.)
-/
import Derived.Test.YtfpbfdkjcmlimaaGreatOwnR
namespace Go.Proofs.YtfpbfdkjcmlimaaGreat
set_option linter.unusedSimpArgs false
set_option linter.unusedVariables false
set_option linter.unusedSectionVars false
set_option maxRecDepth 100000
set_option maxHeartbeats 40000000
section
open Go.RowKit
def isIt : Obj → Bool
  | .mapIter _ _ _ _ => true
  | _ => false
def isBk (o : Obj) : Bool := isBook o || isIt o
def SteadyM (B : Nat) (J : World → Prop) : Prop :=
  ∀ W W' row, J W → W.grownBy W' row → (∀ r, row = some r → B ≤ r ∧ ∃ o : Obj, W.heap[r]? = some o ∧ isBk o = true) → J W'
theorem SteadyM.pure (B : Nat) (p : Prop) : SteadyM B (fun _ => p) := fun _ _ _ h _ _ => h
theorem SteadyM.and {B : Nat} {J J' : World → Prop} (h : SteadyM B J) (h' : SteadyM B J') : SteadyM B (fun W => J W ∧ J' W) :=
  fun W W' row hj hg hr => ⟨h W W' row hj.1 hg hr, h' W W' row hj.2 hg hr⟩
theorem SteadyM.ex {B : Nat} {α : Sort _} {J : α → World → Prop} (h : ∀ x, SteadyM B (J x)) : SteadyM B (fun W => ∃ x, J x W) :=
  fun W W' row ⟨x, hj⟩ hg hr => ⟨x, h x W W' row hj hg hr⟩
theorem block_keepM {W W' : World} {row : Option Nat} {B k : Nat} {o : Obj} (hk : W.heap[k]? = some o) (ho : isBk o = false) (hg : W.grownBy W' row)
    (hr : ∀ r, row = some r → B ≤ r ∧ ∃ o : Obj, W.heap[r]? = some o ∧ isBk o = true) : W'.heap[k]? = some o := by
  refine (hg.block k (Array.getElem?_eq_some_iff.1 hk).1 (fun e => ?_)).trans hk
  obtain ⟨_, o', ho', hb⟩ := hr k e.symm
  rw [hk] at ho'; cases ho'; rw [ho] at hb; cases hb
theorem SteadyM.block (B k : Nat) {o : Obj} (ho : isBk o = false) : SteadyM B (fun W => W.heap[k]? = some o) := fun _ _ _ h hg hr => block_keepM h ho hg hr
theorem SteadyM.below {n₀ B : Nat} {w₀ : World} (hn : n₀ ≤ w₀.heap.size) (hB : n₀ ≤ B) : SteadyM B (fun W => Below n₀ w₀ W) :=
  fun _ _ _ hs hg hr => hs.grown hg (Nat.le_trans hn hs.size) (fun k e => Nat.le_trans hB (hr k e).1)
theorem SteadyM.ownsRow (B : Nat) (base : Nat) (e : TypeId) (size : Nat) (v : Value) (n : Nat) (xs : List Value) : SteadyM B (fun W => W.ownsRow base e size v n xs) :=
  fun W W' row h hg hr => by
    refine ⟨h.1, ?_⟩
    rcases h.2 with h2 | ⟨g, cap, cur, hv, hb, hh, r⟩
    · exact Or.inl h2
    · exact Or.inr ⟨g, cap, cur, hv, hb, block_keepM hh rfl hg hr, r⟩
theorem SteadyM.ext {B : Nat} {J : World → Prop} (h : SteadyM B J) {W W' : World} (hj : J W) (hb : Below W.heap.size W W') : J W' :=
  h W W' none hj ⟨hb.os, hb.tape, hb.output, hb.size, fun k hk _ => hb.block k hk⟩ (fun r e => by cases e)
theorem SteadyM.put {B : Nat} {J : World → Prop} (h : SteadyM B J) {W : World} {l : Nat} {o : Obj} (o' : Obj) (hj : J W) (hl : B ≤ l) (ho : W.heap[l]? = some o) (hb : isBk o = true) : J (W.putObj l o') :=
  h W _ (some l) hj (grownBy_putObj' W l o') (fun r e => by cases e; exact ⟨hl, o, ho, hb⟩)
theorem SteadyM.size (B n : Nat) : SteadyM B (fun W => n < W.heap.size) := fun _ _ _ h hg _ => Nat.lt_of_lt_of_le h hg.size
theorem SteadyM.ownR {α : Type} {e : TypeId} {size : Nat} {cs : α → List Value} (D base : Nat) (v : Value) (ls : List α) : SteadyM D (fun W => OwnR e size cs W base v ls) := (SteadyM.ownsRow _ _ _ _ _ _ _).and (SteadyM.pure _ _)
def IterM {σ α : Type} (P : Program) (gf : Nat) (lb : Array Value) (enc : α → Array Value) (ok : σ → α → Prop) (nx : σ → α → σ) (s0 : σ) (Fin : σ → Prop) (Inv : σ → World → Prop) : Prop :=
  ∀ (l : Nat) (K : σ → World → Prop) (Kx : World → Prop) (T : World → Nat → Prop) (W0 : World),
    (∀ s W W' row, K s W → W.grownBy W' row → (∀ q, row = some q → W0.heap.size ≤ q ∧ ∃ o : Obj, W.heap[q]? = some o ∧ isIt o = true) → K s W') → (∀ W W', Kx W → Below W.heap.size W W' → Kx W') → (∀ s W, K s W → Inv s W) →
    (∀ s W k, K s W → T W k → k < W.heap.size) → (∀ s W W' row k, K s W → W.grownBy W' row → (∀ q, row = some q → W0.heap.size ≤ q ∧ ∃ o : Obj, W.heap[q]? = some o ∧ isIt o = true) → T W' k → T W k) →
    (∀ s x W, ok s x → K s W → YieldAt Fence.wide 0 P l (enc x) W fun e W' => (e = .returned (.bool true) ∧ K (nx s x) W' ∧ Tch T W W') ∨ (e = .returned (.bool false) ∧ Kx W')) →
    K s0 W0 → CallsIn Fence.wide 0 P gf (#[.func (.yield l) #[] #[]] ++ lb) W0 fun e W' => (∃ v, e = .returned v) ∧ ((∃ s, Fin s ∧ K s W') ∨ Kx W')
theorem range_outerM {P : Program} {σ α : Type} {g : Operand} {ps : Array Tmp} {assign body : Code} {Q : Exit → Act → World → Prop} {a : Act} {w : World} {gf : Nat} {lb : Array Value}
    (hg : a.eval g = .func (.func gf) #[] lb) (eg : ∀ args w, (callFunc gf args).run P w = .ok (.enter gf args) w)
    {enc : α → Array Value} {ok : σ → α → Prop} {nx : σ → α → σ} {s0 : σ} {Fin : σ → Prop} {Inv : σ → World → Prop} (hit : IterM P gf lb enc ok nx s0 Fin Inv)
    (hps : ∀ x, (enc x).size = ps.size)
    (J : σ → World → Prop) (Jx : Code → World → Prop) (A : σ → α → Act → World → Prop)
    (hJ : ∀ s, SteadyM w.heap.size (J s)) (hJx : ∀ c, SteadyM w.heap.size (Jx c)) (hA : ∀ s x a, SteadyM w.heap.size (A s x a)) (hInv : ∀ s W, J s W → Inv s W)
    (T : World → Nat → Prop) (hT0 : ∀ s W k, J s W → T W k → k < W.heap.size) (hTg : ∀ W W' row, W.grownBy W' row → (∀ r, row = some r → w.heap.size ≤ r ∧ ∃ o : Obj, W.heap[r]? = some o ∧ isBk o = true) → (∃ s, J s W) → ∀ k, T W' k → T W k)
    (h0 : J s0 w)
    (hassign : ∀ (l : Nat) (s : σ) (x : α) (W : World), ok s x → J s W →
      assign.wpIn (Fence.wide.inRound l) 0 P (Exit.then (fun a1 W1 => Keep W W1 ∧ J s W1 ∧ A s x a1 W1 ∧ Tch T W W1) (fun _ _ _ => False)) { tmps := (ps.zip (enc x)).foldl (fun t (p, v) => t.setIfInBounds p v) a.tmps, defers := [] } W)
    (hbody : ∀ (l : Nat) (s : σ) (x : α) (a1 : Act) (W : World), ok s x → J s W → A s x a1 W →
      body.wpIn (Fence.wide.inRound l) 0 P (roundEnd (fun W' => Keep W W' ∧ J (nx s x) W' ∧ Tch T W W') (fun c W' => Keep W W' ∧ Jx c W')) a1 W)
    (hdone : ∀ (D : Nat) (s : σ) (W : World), w.heap.size ≤ D → Fin s → J s W → W.heap[D]? = some (.deferred (some [])) → Q .normal { a with defers := { target := .collected D, args := #[] } :: a.defers } W)
    (hstop : ∀ (D : Nat) (c : Code) (W : World), w.heap.size ≤ D → Jx c W → W.heap[D]? = some (.deferred (some [])) → c.wpIn Fence.wide 0 P Q { a with defers := { target := .collected D, args := #[] } :: a.defers } W) :
    (Code.rangeFunc g ps assign body).wpIn Fence.wide 0 P Q a w := by
  refine wpIn_rangeFunc ?_
  intro fn hfn
  obtain ⟨rec, hrec⟩ : ∃ rec : LoopState → Option Code → Loop, rec = fun st pe => { state := st, pending := pe, fn, tmps := a.tmps, params := ps, assign, body, defers := w.heap.size } := ⟨_, rfl⟩
  obtain ⟨W1, hW1⟩ : ∃ W1, (w.alloc (.deferred (some []))).alloc (.loop (rec .ready none)) = W1 := ⟨_, rfl⟩
  have hL1 : W1.heap[w.heap.size + 1]? = some (.loop (rec .ready none)) := by
    rw [← hW1]; have := World.alloc_heap_new (w.alloc (.deferred (some []))) (.loop (rec .ready none)); rwa [World.size_alloc] at this
  have hK1 : W1.heap[w.heap.size]? = some (.deferred (some [])) := by
    rw [← hW1]; exact (Below.heap_alloc _ _ _ (by simp)).trans (World.alloc_heap_new w _)
  have hb1 : Below w.heap.size w W1 := by
    rw [← hW1]; exact ((Below.refl _ w).alloc (Nat.le_refl _) _).alloc (by simp) _
  have hI1 : J s0 W1 := (hJ s0).ext h0 hb1
  have keepE : ∀ {W W' : World} {k : Nat} {o : Obj}, W.heap[k]? = some o → Below W.heap.size W W' → W'.heap[k]? = some o :=
    fun hk hb => (hb.block _ (Array.getElem?_eq_some_iff.1 hk).1).trans hk
  refine ⟨w.heap.size + 1, [{ target := .collected w.heap.size, args := #[] }], W1, { target := .fn (.func gf) lb, args := #[.func (.yield (w.heap.size + 1)) #[] #[]] }, W1, gf,
    #[.func (.yield (w.heap.size + 1)) #[] #[]] ++ lb, W1, ?_, ?_, ?_, ?_, fun h => by simp [Fence.wide] at h, ?_⟩
  · rw [← hW1, hrec]; exact run_enterLoop_outer _ _ _ _ _
  · simp only [resolve, hg]
    simp [go_sem]
  · intro f' hf'; trivial
  · simp [invoke, go_sem, eg]
  · refine (hit (w.heap.size + 1)
      (fun s W => J s W ∧ W.heap[w.heap.size + 1]? = some (.loop (rec .ready none)) ∧ W.heap[w.heap.size]? = some (.deferred (some [])))
      (fun W => ∃ c, Jx c W ∧ W.heap[w.heap.size + 1]? = some (.loop (rec .done (some c))) ∧ W.heap[w.heap.size]? = some (.deferred (some [])))
      (fun W k => T W k ∨ k = w.heap.size + 1 ∨ k = w.heap.size)
      W1 (fun s A B row h hg hr => by
        have hz : W1.heap.size = w.heap.size + 1 + 1 := by rw [← hW1]; simp
        refine ⟨hJ s A B row h.1 hg (fun r e => ?_), (hg.block _ (Array.getElem?_eq_some_iff.1 h.2.1).1 (fun e => ?_)).trans h.2.1, (hg.block _ (Array.getElem?_eq_some_iff.1 h.2.2).1 (fun e => ?_)).trans h.2.2⟩
        · obtain ⟨h1, o, h2, h3⟩ := hr r e
          exact ⟨by omega, o, h2, by unfold isBk; rw [h3]; simp⟩
        · obtain ⟨h1, _⟩ := hr _ e.symm
          omega
        · obtain ⟨h1, _⟩ := hr _ e.symm
          omega)
      (fun A B h hb => by obtain ⟨c, h1, h2, h3⟩ := h; exact ⟨c, (hJx c).ext h1 hb, keepE h2 hb, keepE h3 hb⟩)
      (fun s W h => hInv s W h.1)
      (fun s W k h ht => by
        rcases ht with ht | rfl | rfl
        · exact hT0 s W k h.1 ht
        · exact (Array.getElem?_eq_some_iff.1 h.2.1).1
        · exact (Array.getElem?_eq_some_iff.1 h.2.2).1)
      (fun s A B row k h hg hr ht => by
        have hz : W1.heap.size = w.heap.size + 1 + 1 := by rw [← hW1]; simp
        rcases ht with ht | ht
        · exact .inl (hTg A B row hg (fun r e => by
            obtain ⟨h1, o, h2, h3⟩ := hr r e
            exact ⟨by omega, o, h2, by unfold isBk; rw [h3]; simp⟩) ⟨s, h.1⟩ k ht)
        · exact .inr ht)
      ?_ ⟨hI1, hL1, hK1⟩).mono ?_
    · rintro s x W hok ⟨hi, hl, hk⟩
      have hy := run_yield (P := P) (args := enc x) hl (by rw [hrec]; exact hps x)
      rw [hrec] at hy
      refine ⟨fn, _, assign, body, hy, roundIn_of_wpIn hfn (wpIn_mono (hassign _ s x W hok hi) ?_)⟩
      rintro e a1 V hp
      cases e with
      | normal =>
        obtain ⟨hkp, hiV, hAV, hTV⟩ := hp
        have hlV := hkp _ _ hl rfl
        have hkV := hkp _ _ hk rfl
        have hlt : w.heap.size + 1 < V.heap.size := (Array.getElem?_eq_some_iff.1 hlV).1
        refine ⟨_, run_beginRound hlV (by rw [hrec]), ?_⟩
        have hl2 : (V.putObj (w.heap.size + 1) (.loop { rec .ready none with state := .busy })).heap[w.heap.size + 1]? = some (.loop { rec .ready none with state := .busy }) := World.putObj_heap_same hlt
        have hk2 : (V.putObj (w.heap.size + 1) (.loop { rec .ready none with state := .busy })).heap[w.heap.size]? = some (.deferred (some [])) := (World.putObj_heap_other (by omega)).trans hkV
        refine wpIn_mono (hbody _ s x a1 _ hok ((hJ s).put _ hiV (by omega) hlV rfl) ((hA s x a1).put _ hAV (by omega) hlV rfl)) ?_
        have fin : ∀ (jump : Option Code) (W3 : World), Keep (V.putObj (w.heap.size + 1) (.loop { rec .ready none with state := .busy })) W3 →
            (Instr.endRound (w.heap.size + 1) jump).run P W3 = .ok (.bool jump.isNone) (W3.putObj (w.heap.size + 1) (.loop (rec (if jump.isNone then .ready else .done) jump))) ∧
            W3.heap[w.heap.size + 1]? = some (.loop { rec .ready none with state := .busy }) ∧
            (W3.putObj (w.heap.size + 1) (.loop (rec (if jump.isNone then .ready else .done) jump))).heap[w.heap.size + 1]? = some (.loop (rec (if jump.isNone then .ready else .done) jump)) ∧
            (W3.putObj (w.heap.size + 1) (.loop (rec (if jump.isNone then .ready else .done) jump))).heap[w.heap.size]? = some (.deferred (some [])) := fun jump W3 hk3 => by
          have hl3 := hk3 _ _ hl2 rfl
          have := run_endRound (P := P) jump hl3
          rw [hrec] at this ⊢
          exact ⟨this, by rw [hrec] at hl3; exact hl3, World.putObj_heap_same (Array.getElem?_eq_some_iff.1 hl3).1, (World.putObj_heap_other (by omega)).trans (hk3 _ _ hk2 rfl)⟩
        rintro e a3 W3 hp
        cases e with
        | normal =>
          obtain ⟨hk3, hi3, hT3⟩ := hp
          obtain ⟨hr, hl3, hl4, hk4⟩ := fin none W3 hk3
          refine ⟨_, _, hr, .inl ⟨rfl, ⟨(hJ _).put _ hi3 (by omega) hl3 rfl, hl4, hk4⟩, ?_⟩⟩
          have g1 := grown_put V (w.heap.size + 1) (.loop { rec .ready none with state := .busy })
          have g2 := grown_put W3 (w.heap.size + 1) (.loop (rec (if (none : Option Code).isNone then .ready else .done) none))
          have t1 : ∀ k, T (V.putObj (w.heap.size + 1) (.loop { rec .ready none with state := .busy })) k → T V k := hTg _ _ _ g1 (fun r hr => by cases hr; exact ⟨by omega, _, hlV, rfl⟩) ⟨s, hiV⟩
          have t2 : ∀ k, T (W3.putObj (w.heap.size + 1) (.loop (rec (if (none : Option Code).isNone then .ready else .done) none))) k → T W3 k := hTg _ _ _ g2 (fun r hr => by cases hr; exact ⟨by omega, _, hl3, rfl⟩) ⟨_, hi3⟩
          have z1 : (V.putObj (w.heap.size + 1) (.loop { rec .ready none with state := .busy })).heap.size = V.heap.size := by simp
          have z2 : (W3.putObj (w.heap.size + 1) (.loop (rec (if (none : Option Code).isNone then .ready else .done) none))).heap.size = W3.heap.size := by simp
          have s1 := hTV.1
          have s3 := hT3.1
          rw [z1] at s3
          refine ⟨by rw [z2]; omega, fun k hk hn => ?_, fun k hk => ?_⟩
          · have n1 : k ≠ w.heap.size + 1 := fun e => hn (.inr (.inl e))
            have n0 : ¬ T W k := fun e => hn (.inl e)
            have m1 : ¬ T V k := fun e => (hTV.2.2 k e).elim n0 (by omega)
            have m2 := fun e => m1 (t1 k e)
            rw [World.putObj_heap_other n1, hT3.2.1 k (by rw [z1]; omega) m2, World.putObj_heap_other n1, hTV.2.1 k hk n0]
          · rcases hk with hk | hk
            · rcases hT3.2.2 k (t2 k hk) with h | h
              · rcases hTV.2.2 k (t1 k h) with h | h
                · exact .inl (.inl h)
                · exact .inr h
              · rw [z1] at h
                exact .inr (by omega)
            · exact .inl (.inr hk)
        | ret =>
          obtain ⟨hk3, hi3⟩ := hp
          obtain ⟨hr, hl3, hl4, hk4⟩ := fin (some .ret) W3 hk3
          exact ⟨_, _, hr, .inr ⟨rfl, .ret, (hJx _).put _ hi3 (by omega) hl3 rfl, hl4, hk4⟩⟩
        | exit id =>
          obtain ⟨hk3, hi3⟩ := hp
          obtain ⟨hr, hl3, hl4, hk4⟩ := fin (some (.exit id)) W3 hk3
          exact ⟨_, _, hr, .inr ⟨rfl, .exit id, (hJx _).put _ hi3 (by omega) hl3 rfl, hl4, hk4⟩⟩
        | goto t =>
          obtain ⟨hk3, hi3⟩ := hp
          obtain ⟨hr, hl3, hl4, hk4⟩ := fin (some (.goto t)) W3 hk3
          exact ⟨_, _, hr, .inr ⟨rfl, .goto t, (hJx _).put _ hi3 (by omega) hl3 rfl, hl4, hk4⟩⟩
        | panic ch => exact hp.elim
        | outgrown => exact hp.elim
      | exit id => exact hp.elim
      | goto t => exact hp.elim
      | ret => exact hp.elim
      | panic chain => exact hp.elim
      | outgrown => exact hp.elim
    · rintro e W2 ⟨⟨v, rfl⟩, (⟨s, hS, hi, hl, hk⟩ | ⟨c, hi, hl, hk⟩)⟩
      · exact ⟨none, _, by have := run_endLoop (P := P) hl (by rw [hrec]; simp); rw [hrec] at this; exact this, hdone _ s _ (Nat.le_refl _) hS ((hJ s).put _ hi (by omega) hl rfl) ((World.putObj_heap_other (by omega)).trans hk)⟩
      · exact ⟨some c, _, by have := run_endLoop (P := P) hl (by rw [hrec]; simp); rw [hrec] at this; exact this, hstop _ c _ (Nat.le_refl _) ((hJx c).put _ hi (by omega) hl rfl) ((World.putObj_heap_other (by omega)).trans hk)⟩
end
end Go.Proofs.YtfpbfdkjcmlimaaGreat
