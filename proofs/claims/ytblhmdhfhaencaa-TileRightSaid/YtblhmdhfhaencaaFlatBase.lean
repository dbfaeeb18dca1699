/-
  Ranges over functions, where the iterator has memory of its own: what rounds turn is known by T. No program in sight.
-/
import Derived.Test.YtblhmdhfhaencaaSeq
import Derived.Test.YtblhmdhfhaencaaMix
import Derived.Deep.DeepAppendRoom
import Derived.Maps.AppendAt
namespace Go.Proofs.Ytblhmdhfhaencaa
set_option linter.unusedSimpArgs false
set_option linter.unusedVariables false
set_option linter.unusedSectionVars false
section
open Go.RowKit

/-- only blocks of T, and new ones, have turned; T has not taken in what was there -/
def Tch (T : World → Nat → Prop) (W W' : World) : Prop :=
  W.heap.size ≤ W'.heap.size ∧ (∀ k, k < W.heap.size → ¬ T W k → W'.heap[k]? = W.heap[k]?) ∧ ∀ k, T W' k → T W k ∨ W.heap.size ≤ k
theorem Tch.refl (T : World → Nat → Prop) (W : World) : Tch T W W := ⟨Nat.le_refl _, fun _ _ _ => rfl, fun _ h => .inl h⟩
theorem Tch.trans {T : World → Nat → Prop} {A B C : World} (h : Tch T A B) (k : Tch T B C) : Tch T A C :=
  ⟨Nat.le_trans h.1 k.1, fun i hi hn => (k.2.1 i (Nat.lt_of_lt_of_le hi h.1) (fun ht => (h.2.2 i ht).elim hn (by omega))).trans (h.2.1 i hi hn),
    fun i ht => (k.2.2 i ht).elim (h.2.2 i) (fun hs => .inr (Nat.le_trans h.1 hs))⟩
theorem grown_put (W : World) (l : Nat) (o : Obj) : W.grownBy (W.putObj l o) (some l) :=
  ⟨rfl, rfl, rfl, by simp, fun k _ hne => World.putObj_heap_other (fun e => hne (by rw [e]))⟩
/-- an iterator that may have memory of its own -/
def IterT {σ α : Type} (P : Program) (gf : Nat) (lb : Array Value) (enc : α → Array Value) (ok : σ → α → Prop) (nx : σ → α → σ) (s0 : σ) (Fin : σ → Prop) (Inv : σ → World → Prop) : Prop :=
  ∀ (l : Nat) (K : σ → World → Prop) (Kx : World → Prop) (T : World → Nat → Prop) (W : World),
    (∀ s W W', K s W → Below W.heap.size W W' → K s W') → (∀ W W', Kx W → Below W.heap.size W W' → Kx W') → (∀ s W, K s W → Inv s W) →
    (∀ s W k, K s W → T W k → k < W.heap.size) → (∀ s W W' k, K s W → Below W.heap.size W W' → T W' k → T W k) →
    (∀ s x W, ok s x → K s W → YieldAt Fence.wide 0 P l (enc x) W fun e W' => (e = .returned (.bool true) ∧ K (nx s x) W' ∧ Tch T W W') ∨ (e = .returned (.bool false) ∧ Kx W')) →
    K s0 W → CallsIn Fence.wide 0 P gf (#[.func (.yield l) #[] #[]] ++ lb) W fun e W' => (∃ v, e = .returned v) ∧ ((∃ s, Fin s ∧ K s W') ∨ Kx W')
/-- THE CALLER's LAW, outermost loop, where the iterator has memory of its own -/
theorem range_outerT {P : Program} {σ α : Type} {g : Operand} {ps : Array Tmp} {assign body : Code} {Q : Exit → Act → World → Prop} {a : Act} {w : World} {gf : Nat} {lb : Array Value}
    (hg : a.eval g = .func (.func gf) #[] lb) (eg : ∀ args w, (callFunc gf args).run P w = .ok (.enter gf args) w)
    {enc : α → Array Value} {ok : σ → α → Prop} {nx : σ → α → σ} {s0 : σ} {Fin : σ → Prop} {Inv : σ → World → Prop} (hit : IterT P gf lb enc ok nx s0 Fin Inv)
    (hps : ∀ x, (enc x).size = ps.size)
    (J : σ → World → Prop) (Jx : Code → World → Prop) (A : σ → α → Act → World → Prop)
    (hJ : ∀ s, Steady w.heap.size (J s)) (hJx : ∀ c, Steady w.heap.size (Jx c)) (hA : ∀ s x a, Steady w.heap.size (A s x a)) (hInv : ∀ s W, J s W → Inv s W)
    (T : World → Nat → Prop) (hT0 : ∀ s W k, J s W → T W k → k < W.heap.size) (hTg : ∀ W W' row, W.grownBy W' row → (∀ r, row = some r → w.heap.size ≤ r ∧ ∃ o : Obj, W.heap[r]? = some o ∧ isBook o = true) → (∃ s, J s W) → ∀ k, T W' k → T W k)
    (h0 : J s0 w)
    (hassign : ∀ (l : Nat) (s : σ) (x : α) (W : World), ok s x → J s W →
      assign.wpIn (Fence.wide.inRound l) 0 P (Exit.then (fun a1 W1 => Keep W W1 ∧ J s W1 ∧ A s x a1 W1 ∧ Tch T W W1) (fun _ _ _ => False)) { tmps := (ps.zip (enc x)).foldl (fun t (p, v) => t.setIfInBounds p v) a.tmps, defers := [] } W)
    (hbody : ∀ (l : Nat) (s : σ) (x : α) (a1 : Act) (W : World), ok s x → J s W → A s x a1 W →
      body.wpIn (Fence.wide.inRound l) 0 P (roundEnd (fun W' => Keep W W' ∧ J (nx s x) W' ∧ Tch T W W') (fun c W' => Keep W W' ∧ Jx c W')) a1 W)
    (hdone : ∀ (D : Nat) (s : σ) (W : World), w.heap.size ≤ D → Fin s → J s W → W.heap[D]? = some (.deferred (some [])) → Q .normal { a with defers := { target := .collected D, args := #[] } :: a.defers } W)
    (hstop : ∀ (D : Nat) (c : Code) (W : World), w.heap.size ≤ D → Jx c W → W.heap[D]? = some (.deferred (some [])) → c.wpIn Fence.wide 0 P Q { a with defers := { target := .collected D, args := #[] } :: a.defers } W) :
    (Code.rangeFunc g ps assign body).wpIn Fence.wide 0 P Q a w := by
  refine wpIn_rangeFunc ?_
  intro fn hfn
  obtain ⟨rec, hrec⟩ : ∃ rec : LoopState → Option Code → Loop, rec = fun st pe => { state := st, pending := pe, fn, tmps := a.tmps, params := ps, assign, body, defers := w.heap.size } := ⟨_, rfl⟩
  obtain ⟨W1, hW1⟩ : ∃ W1, (w.alloc (.deferred (some []))).alloc (.loop (rec .ready none)) = W1 := ⟨_, rfl⟩
  have hL1 : W1.heap[w.heap.size + 1]? = some (.loop (rec .ready none)) := by
    rw [← hW1]; have := World.alloc_heap_new (w.alloc (.deferred (some []))) (.loop (rec .ready none)); rwa [World.size_alloc] at this
  have hK1 : W1.heap[w.heap.size]? = some (.deferred (some [])) := by
    rw [← hW1]; exact (Below.heap_alloc _ _ _ (by simp)).trans (World.alloc_heap_new w _)
  have hb1 : Below w.heap.size w W1 := by
    rw [← hW1]; exact ((Below.refl _ w).alloc (Nat.le_refl _) _).alloc (by simp) _
  have hI1 : J s0 W1 := (hJ s0).ext h0 hb1
  have keepE : ∀ {W W' : World} {k : Nat} {o : Obj}, W.heap[k]? = some o → Below W.heap.size W W' → W'.heap[k]? = some o :=
    fun hk hb => (hb.block _ (Array.getElem?_eq_some_iff.1 hk).1).trans hk
  refine ⟨w.heap.size + 1, [{ target := .collected w.heap.size, args := #[] }], W1, { target := .fn (.func gf) lb, args := #[.func (.yield (w.heap.size + 1)) #[] #[]] }, W1, gf,
    #[.func (.yield (w.heap.size + 1)) #[] #[]] ++ lb, W1, ?_, ?_, ?_, ?_, fun h => by simp [Fence.wide] at h, ?_⟩
  · rw [← hW1, hrec]; exact run_enterLoop_outer _ _ _ _ _
  · simp only [resolve, hg]
    simp [go_sem]
  · intro f' hf'; trivial
  · simp [invoke, go_sem, eg]
  · refine (hit (w.heap.size + 1)
      (fun s W => J s W ∧ W.heap[w.heap.size + 1]? = some (.loop (rec .ready none)) ∧ W.heap[w.heap.size]? = some (.deferred (some [])))
      (fun W => ∃ c, Jx c W ∧ W.heap[w.heap.size + 1]? = some (.loop (rec .done (some c))) ∧ W.heap[w.heap.size]? = some (.deferred (some [])))
      (fun W k => T W k ∨ k = w.heap.size + 1 ∨ k = w.heap.size)
      W1 (fun s A B h hb => ⟨(hJ s).ext h.1 hb, keepE h.2.1 hb, keepE h.2.2 hb⟩)
      (fun A B h hb => by obtain ⟨c, h1, h2, h3⟩ := h; exact ⟨c, (hJx c).ext h1 hb, keepE h2 hb, keepE h3 hb⟩)
      (fun s W h => hInv s W h.1)
      (fun s W k h ht => by
        rcases ht with ht | rfl | rfl
        · exact hT0 s W k h.1 ht
        · exact (Array.getElem?_eq_some_iff.1 h.2.1).1
        · exact (Array.getElem?_eq_some_iff.1 h.2.2).1)
      (fun s A B k h hb ht => by
        rcases ht with ht | ht
        · exact .inl (hTg A B none ⟨hb.os, hb.tape, hb.output, hb.size, fun k hk _ => hb.block k hk⟩ (fun r hr => by cases hr) ⟨s, h.1⟩ k ht)
        · exact .inr ht)
      ?_ ⟨hI1, hL1, hK1⟩).mono ?_
    · rintro s x W hok ⟨hi, hl, hk⟩
      have hy := run_yield (P := P) (args := enc x) hl (by rw [hrec]; exact hps x)
      rw [hrec] at hy
      refine ⟨fn, _, assign, body, hy, roundIn_of_wpIn hfn (wpIn_mono (hassign _ s x W hok hi) ?_)⟩
      rintro e a1 V hp
      cases e with
      | normal =>
        obtain ⟨hkp, hiV, hAV, hTV⟩ := hp
        have hlV := hkp _ _ hl rfl
        have hkV := hkp _ _ hk rfl
        have hlt : w.heap.size + 1 < V.heap.size := (Array.getElem?_eq_some_iff.1 hlV).1
        refine ⟨_, run_beginRound hlV (by rw [hrec]), ?_⟩
        have hl2 : (V.putObj (w.heap.size + 1) (.loop { rec .ready none with state := .busy })).heap[w.heap.size + 1]? = some (.loop { rec .ready none with state := .busy }) := World.putObj_heap_same hlt
        have hk2 : (V.putObj (w.heap.size + 1) (.loop { rec .ready none with state := .busy })).heap[w.heap.size]? = some (.deferred (some [])) := (World.putObj_heap_other (by omega)).trans hkV
        refine wpIn_mono (hbody _ s x a1 _ hok ((hJ s).put _ hiV (by omega) hlV rfl) ((hA s x a1).put _ hAV (by omega) hlV rfl)) ?_
        have fin : ∀ (jump : Option Code) (W3 : World), Keep (V.putObj (w.heap.size + 1) (.loop { rec .ready none with state := .busy })) W3 →
            (Instr.endRound (w.heap.size + 1) jump).run P W3 = .ok (.bool jump.isNone) (W3.putObj (w.heap.size + 1) (.loop (rec (if jump.isNone then .ready else .done) jump))) ∧
            W3.heap[w.heap.size + 1]? = some (.loop { rec .ready none with state := .busy }) ∧
            (W3.putObj (w.heap.size + 1) (.loop (rec (if jump.isNone then .ready else .done) jump))).heap[w.heap.size + 1]? = some (.loop (rec (if jump.isNone then .ready else .done) jump)) ∧
            (W3.putObj (w.heap.size + 1) (.loop (rec (if jump.isNone then .ready else .done) jump))).heap[w.heap.size]? = some (.deferred (some [])) := fun jump W3 hk3 => by
          have hl3 := hk3 _ _ hl2 rfl
          have := run_endRound (P := P) jump hl3
          rw [hrec] at this ⊢
          exact ⟨this, by rw [hrec] at hl3; exact hl3, World.putObj_heap_same (Array.getElem?_eq_some_iff.1 hl3).1, (World.putObj_heap_other (by omega)).trans (hk3 _ _ hk2 rfl)⟩
        rintro e a3 W3 hp
        cases e with
        | normal =>
          obtain ⟨hk3, hi3, hT3⟩ := hp
          obtain ⟨hr, hl3, hl4, hk4⟩ := fin none W3 hk3
          refine ⟨_, _, hr, .inl ⟨rfl, ⟨(hJ _).put _ hi3 (by omega) hl3 rfl, hl4, hk4⟩, ?_⟩⟩
          have g1 := grown_put V (w.heap.size + 1) (.loop { rec .ready none with state := .busy })
          have g2 := grown_put W3 (w.heap.size + 1) (.loop (rec (if (none : Option Code).isNone then .ready else .done) none))
          have t1 : ∀ k, T (V.putObj (w.heap.size + 1) (.loop { rec .ready none with state := .busy })) k → T V k := hTg _ _ _ g1 (fun r hr => by cases hr; exact ⟨by omega, _, hlV, rfl⟩) ⟨s, hiV⟩
          have t2 : ∀ k, T (W3.putObj (w.heap.size + 1) (.loop (rec (if (none : Option Code).isNone then .ready else .done) none))) k → T W3 k := hTg _ _ _ g2 (fun r hr => by cases hr; exact ⟨by omega, _, hl3, rfl⟩) ⟨_, hi3⟩
          have z1 : (V.putObj (w.heap.size + 1) (.loop { rec .ready none with state := .busy })).heap.size = V.heap.size := by simp
          have z2 : (W3.putObj (w.heap.size + 1) (.loop (rec (if (none : Option Code).isNone then .ready else .done) none))).heap.size = W3.heap.size := by simp
          have s1 := hTV.1
          have s3 := hT3.1
          rw [z1] at s3
          refine ⟨by rw [z2]; omega, fun k hk hn => ?_, fun k hk => ?_⟩
          · have n1 : k ≠ w.heap.size + 1 := fun e => hn (.inr (.inl e))
            have n0 : ¬ T W k := fun e => hn (.inl e)
            have m1 : ¬ T V k := fun e => (hTV.2.2 k e).elim n0 (by omega)
            have m2 := fun e => m1 (t1 k e)
            rw [World.putObj_heap_other n1, hT3.2.1 k (by rw [z1]; omega) m2, World.putObj_heap_other n1, hTV.2.1 k hk n0]
          · rcases hk with hk | hk
            · rcases hT3.2.2 k (t2 k hk) with h | h
              · rcases hTV.2.2 k (t1 k h) with h | h
                · exact .inl (.inl h)
                · exact .inr h
              · rw [z1] at h
                exact .inr (by omega)
            · exact .inl (.inr hk)
        | ret =>
          obtain ⟨hk3, hi3⟩ := hp
          obtain ⟨hr, hl3, hl4, hk4⟩ := fin (some .ret) W3 hk3
          exact ⟨_, _, hr, .inr ⟨rfl, .ret, (hJx _).put _ hi3 (by omega) hl3 rfl, hl4, hk4⟩⟩
        | exit id =>
          obtain ⟨hk3, hi3⟩ := hp
          obtain ⟨hr, hl3, hl4, hk4⟩ := fin (some (.exit id)) W3 hk3
          exact ⟨_, _, hr, .inr ⟨rfl, .exit id, (hJx _).put _ hi3 (by omega) hl3 rfl, hl4, hk4⟩⟩
        | goto t =>
          obtain ⟨hk3, hi3⟩ := hp
          obtain ⟨hr, hl3, hl4, hk4⟩ := fin (some (.goto t)) W3 hk3
          exact ⟨_, _, hr, .inr ⟨rfl, .goto t, (hJx _).put _ hi3 (by omega) hl3 rfl, hl4, hk4⟩⟩
        | panic ch => exact hp.elim
        | outgrown => exact hp.elim
      | exit id => exact hp.elim
      | goto t => exact hp.elim
      | ret => exact hp.elim
      | panic chain => exact hp.elim
      | outgrown => exact hp.elim
    · rintro e W2 ⟨⟨v, rfl⟩, (⟨s, hS, hi, hl, hk⟩ | ⟨c, hi, hl, hk⟩)⟩
      · exact ⟨none, _, by have := run_endLoop (P := P) hl (by rw [hrec]; simp); rw [hrec] at this; exact this, hdone _ s _ (Nat.le_refl _) hS ((hJ s).put _ hi (by omega) hl rfl) ((World.putObj_heap_other (by omega)).trans hk)⟩
      · exact ⟨some c, _, by have := run_endLoop (P := P) hl (by rw [hrec]; simp); rw [hrec] at this; exact this, hstop _ c _ (Nat.le_refl _) ((hJx c).put _ hi (by omega) hl rfl) ((World.putObj_heap_other (by omega)).trans hk)⟩
/-- an iterator that yields a list's elements, as long as I holds, with memory of its own -/
def IterTI {α : Type} (P : Program) (gf : Nat) (lb : Array Value) (enc : α → Array Value) (l : List α) (I : World → Prop) : Prop :=
  IterT P gf lb enc okL nxL l finL (fun _ W => I W)
theorem IterTI.mono {α : Type} {P : Program} {gf : Nat} {lb : Array Value} {enc : α → Array Value} {l : List α} {I I' : World → Prop} (h : IterTI P gf lb enc l I) (hi : ∀ W, I' W → I W) : IterTI P gf lb enc l I' :=
  fun lp K Kx T W hK hKx hInv h1 h2 hY h0 => h lp K Kx T W hK hKx (fun s W hs => hi W (hInv s W hs)) h1 h2 hY h0
/-- THE CALLER's LAW where a list's elements are gone through, outermost loop: d done, r to come -/
theorem range_listT {P : Program} {α : Type} {g : Operand} {ps : Array Tmp} {assign body : Code} {Q : Exit → Act → World → Prop} {a : Act} {w : World} {gf : Nat} {lb : Array Value}
    (hg : a.eval g = .func (.func gf) #[] lb) (eg : ∀ args w, (callFunc gf args).run P w = .ok (.enter gf args) w)
    {enc : α → Array Value} {l : List α} (I : World → Prop) (hit : IterTI P gf lb enc l I) (hps : ∀ x, (enc x).size = ps.size)
    (J : List α → List α → World → Prop) (Jx : Code → World → Prop)
    (hJ : ∀ d r, Steady w.heap.size (J d r)) (hJx : ∀ c, Steady w.heap.size (Jx c)) (hInv : ∀ d r W, J d r W → I W)
    (T : World → Nat → Prop) (hT0 : ∀ d r W k, J d r W → T W k → k < W.heap.size) (hTg : ∀ W W' row, W.grownBy W' row → (∀ q, row = some q → w.heap.size ≤ q ∧ ∃ o : Obj, W.heap[q]? = some o ∧ isBook o = true) → (∃ d r, J d r W) → ∀ k, T W' k → T W k)
    (h0 : J [] l w)
    (hround : ∀ (lp : Nat) (d : List α) (x : α) (r : List α) (W : World), l = d ++ x :: r → J d (x :: r) W →
      assign.wpIn (Fence.wide.inRound lp) 0 P (Exit.then (fun a1 W1 => Keep W W1 ∧ J d (x :: r) W1 ∧ Tch T W W1 ∧ ∀ (lp : Nat) (W2 : World), J d (x :: r) W2 →
        body.wpIn (Fence.wide.inRound lp) 0 P (roundEnd (fun W' => Keep W2 W' ∧ J (d ++ [x]) r W' ∧ Tch T W2 W') (fun c W' => Keep W2 W' ∧ Jx c W')) a1 W2) (fun _ _ _ => False)) { tmps := (ps.zip (enc x)).foldl (fun t (p, v) => t.setIfInBounds p v) a.tmps, defers := [] } W)
    (hdone : ∀ (D : Nat) (W : World), w.heap.size ≤ D → J l [] W → W.heap[D]? = some (.deferred (some [])) → Q .normal { a with defers := { target := .collected D, args := #[] } :: a.defers } W)
    (hstop : ∀ (D : Nat) (c : Code) (W : World), w.heap.size ≤ D → Jx c W → W.heap[D]? = some (.deferred (some [])) → c.wpIn Fence.wide 0 P Q { a with defers := { target := .collected D, args := #[] } :: a.defers } W) :
    (Code.rangeFunc g ps assign body).wpIn Fence.wide 0 P Q a w := by
  refine range_outerT (enc := enc) hg eg hit hps (fun s W => ∃ d, l = d ++ s ∧ J d s W) Jx
    (fun s x a1 _ => ∀ (d : List α) (lp : Nat) (W2 : World), l = d ++ s → J d s W2 → body.wpIn (Fence.wide.inRound lp) 0 P (roundEnd (fun W' => Keep W2 W' ∧ J (d ++ [x]) (nxL s x) W' ∧ Tch T W2 W') (fun c W' => Keep W2 W' ∧ Jx c W')) a1 W2)
    (fun s => Steady.ex fun d => (Steady.pure _ _).and (hJ d s)) hJx (fun _ _ _ => Steady.pure _ _) (fun s W ⟨d, _, h⟩ => hInv d s W h) T (fun s W k ⟨d, _, h⟩ ht => hT0 d s W k h ht) (fun W W' row hg hr ⟨s, d, _, h⟩ => hTg W W' row hg hr ⟨d, s, h⟩) ⟨[], rfl, h0⟩ ?_ ?_ ?_ hstop
  · rintro lp s x W hok ⟨d, hd, hj⟩
    have hs := okL_cons hok
    generalize nxL s x = r at hs ⊢
    subst hs
    refine wpIn_mono (hround lp d x r W hd hj) ?_
    rintro e a1 W1 he
    cases e with
    | normal =>
      obtain ⟨h1, h2, hT1, h3⟩ := he
      refine ⟨h1, ⟨d, hd, h2⟩, fun d' lp' W2 hd' hj' => ?_, hT1⟩
      have : d' = d := by
        have := hd'.symm.trans hd
        exact List.append_cancel_right this
      subst this
      exact h3 lp' W2 hj'
    | _ => exact he.elim
  · rintro lp s x a1 W hok ⟨d, hd, hj⟩ hA
    refine wpIn_mono (hA d lp W hd hj) ?_
    rintro e a3 W3 he
    cases e with
    | normal =>
      refine ⟨he.1, ⟨d ++ [x], ?_, he.2.1⟩, he.2.2⟩
      rw [hd, List.append_assoc]
      congr 1
      exact okL_cons hok
    | ret => exact he
    | exit id => exact he
    | goto t => exact he
    | panic ch => exact he.elim
    | outgrown => exact he.elim
  · rintro D s W hD hf ⟨d, hd, hj⟩ hk
    have hf : s = [] := hf
    subst hf
    rw [List.append_nil] at hd
    subst hd
    exact hdone D W hD hj hk
end

section
open Go.RowKit

def cmpV (x y : Int) : Int := if x < y then -1 else if y < x then 1 else 0
def orV : List Int → Int
  | [] => 0
  | x :: l => if x = 0 then orV l else x
theorem orV_hit : ∀ (l : List Int) (k : Nat), k < l.length → (∀ j, j < k → l.getD j 0 = 0) → l.getD k 0 ≠ 0 → orV l = l.getD k 0
  | x :: l, 0, _, _, h => by simp only [orV, List.getD_cons_zero] at h ⊢; rw [if_neg h]
  | x :: l, k + 1, hk, h0, h => by
    have h1 : x = 0 := by have := h0 0 (by omega); simpa using this
    rw [orV, if_pos h1, List.getD_cons_succ]
    exact orV_hit l k (by simpa using hk) (fun j hj => by have := h0 (j + 1) (by omega); simpa using this) (by simpa using h)
theorem orV_none : ∀ (l : List Int), (∀ j, j < l.length → l.getD j 0 = 0) → orV l = 0
  | [], _ => rfl
  | x :: l, h => by
    have h1 : x = 0 := by have := h 0 (by simp); simpa using this
    rw [orV, if_pos h1]
    exact orV_none l fun j hj => by have := h (j + 1) (by simpa using hj); simpa using this
theorem isNaN_any (x : Int) (w : World) : Calls Try.prog 86 #[.int .i64 x] w fun e w' => e = .returned (.bool false) ∧ w = w' := by
  go_enter Try.func86, Try.ntmps86
  go_wp2
  go_ret
  exact ⟨rfl, rfl⟩
set_option maxHeartbeats 1000000 in
theorem compare_any (x y : Int) (w : World) : Calls Try.prog 56 #[.int .i64 x, .int .i64 y] w fun e w' => e = .returned (.int .i64 (cmpV x y)) ∧ w = w' := by
  by_cases h1 : x < y
  · have HE : Hid (cmpV x y = -1) := by rw [Hid, cmpV, if_pos h1]
    go_enter Try.func56, Try.ntmps56
    go_wp2_with (go_at_call 86; refine (isNaN_any _ _).mono ?_; rintro e w1 ⟨rfl, rfl⟩)
    go_ret
    exact ⟨by rw [HE.out]; rfl, rfl⟩
  · by_cases h2 : y < x
    · have HE : Hid (cmpV x y = 1) := by rw [Hid, cmpV, if_neg h1, if_pos h2]
      go_enter Try.func56, Try.ntmps56
      go_wp2_with (go_at_call 86; refine (isNaN_any _ _).mono ?_; rintro e w1 ⟨rfl, rfl⟩)
      go_ret
      exact ⟨by rw [HE.out]; rfl, rfl⟩
    · have HE : Hid (cmpV x y = 0) := by rw [Hid, cmpV, if_neg h1, if_neg h2]
      go_enter Try.func56, Try.ntmps56
      go_wp2_with (go_at_call 86; refine (isNaN_any _ _).mono ?_; rintro e w1 ⟨rfl, rfl⟩)
      go_ret
      exact ⟨by rw [HE.out]; rfl, rfl⟩
set_option maxHeartbeats 1000000 in
theorem cmpOr_any (a : Option Addr) (n c : Nat) (xs : List Int) (w : World) (h : Ints w a n xs) : Calls Try.prog 55 #[.slice a n c] w fun e w' => e = .returned (.int .i64 (orV xs)) ∧ w = w' := by
  obtain ⟨hl, hn, hc⟩ := h
  have HL := Lib.hid hl
  have HC := Lib.hid hc
  clear hl hc
  go_enter Try.func55, Try.ntmps55
  go_wp2
  go_loopw [5, 8] (fun _ i wr => ∃ (k : Nat), k ≤ n ∧ i = .int .i64 k ∧ wr = w ∧ Hid (∀ j, j < k → xs.getD j 0 = 0)) (fun _ i _ => n - (intOf i).toNat)
  case atStart => exact ⟨0, by omega, rfl, rfl, fun j hj => absurd hj (by omega)⟩
  case round =>
    obtain ⟨k, hk, rfl, rfl, HR⟩ := hrel
    by_cases hlt : k < n
    · have hlt' : (k : Int) < (n : Int) := by omega
      obtain ⟨b, o, rfl, hcell, _⟩ := HC.out k hlt
      by_cases he : xs.getD k 0 = 0
      · have HE : Hid (∀ j, j < k + 1 → xs.getD j 0 = 0) := fun j hj => by
          by_cases hjk : j = k
          · subst hjk; exact he
          · exact HR.out j (by omega)
        rw [he] at hcell
        clear he
        go_wp2
        go_roundw
        case rel => exact ⟨k + 1, by omega, by go_num, trivial, HE⟩
        case measure => simp [intOf]; omega
      · have HE : Hid (orV xs = xs.getD k 0) := orV_hit xs k (by rw [HL.out]; exact hlt) HR.out he
        have hne : (xs.getD k 0 != 0) = true := by simpa using he
        generalize xs.getD k 0 = y at *
        go_wp2
        go_ret
        exact ⟨by rw [HE.out]; rfl, rfl⟩
    · have hlt' : ¬ (k : Int) < (n : Int) := by omega
      have HE : Hid (orV xs = 0) := orV_none xs fun j hj => HR.out j (by rw [HL.out] at hj; omega)
      go_wp2
      go_ret
      exact ⟨by rw [HE.out]; rfl, rfl⟩
/-- what the comparison of two keys tells -/
theorem or_cmp (a b x y : Int) : orV [cmpV a b, cmpV x y] < 0 ↔ a < b ∨ a = b ∧ x < y := by
  simp only [orV, cmpV]
  repeat' split
  all_goals omega
end

section
open Go.RowKit

/-- a slice of the call's own that reads as a list of records -/
def OwnR {α : Type} (e : TypeId) (size : Nat) (cs : α → List Value) (w : World) (base : Nat) (v : Value) (ls : List α) : Prop := w.ownsRow base e size v ls.length (ls.flatMap cs) ∧ ls.length ≤ 17592186044416
section
variable {α : Type} {e : TypeId} {size : Nat} {cs : α → List Value} {w w' : World} {base base' : Nat} {v : Value} {ls : List α}
theorem OwnR.nil (e : TypeId) (size : Nat) (cs : α → List Value) (w : World) (base : Nat) : OwnR e size cs w base (.slice none 0 0) [] := ⟨World.ownsRow_nil _ _ _ _, by simp⟩
theorem OwnR.mono (h : OwnR e size cs w base v ls) (hb : base' ≤ base) : OwnR e size cs w base' v ls := by
  refine ⟨⟨h.1.1, ?_⟩, h.2⟩
  rcases h.1.2 with h0 | ⟨g, cap, cur, hv, h1, r⟩
  · exact .inl h0
  · exact .inr ⟨g, cap, cur, hv, Nat.le_trans hb h1, r⟩
theorem OwnR.kept {row : Option Nat} (h : OwnR e size cs w base v ls) (hg : w.grownBy w' row) (hne : v.ownBlock = none ∨ v.ownBlock ≠ row) : OwnR e size cs w' base v ls := ⟨h.1.kept hg hne, h.2⟩
theorem OwnR.ext (h : OwnR e size cs w base v ls) (hb : Below w.heap.size w w') : OwnR e size cs w' base v ls := by
  refine ⟨h.1.kept (row := none) ⟨hb.os, hb.tape, hb.output, hb.size, fun k hk _ => hb.block k hk⟩ ?_, h.2⟩
  cases h1 : v.ownBlock with
  | none => exact .inl rfl
  | some k => exact .inr (by simp)
theorem OwnR.form (h : OwnR e size cs w base v ls) : ∃ a c, v = .slice a ls.length c := by
  rcases h.1.2 with ⟨rfl, h0⟩ | ⟨g, cap, cur, hv, _⟩
  · have h0 : ls.length = 0 := h0
    rw [h0]
    exact ⟨none, 0, rfl⟩
  · exact ⟨_, _, hv⟩
theorem OwnR.recs {a : Option Addr} {n c : Nat} (hs : ∀ x, (cs x).length = size) (h : OwnR e size cs w base (.slice a n c) ls) : Recs size cs w a n ls := by
  obtain ⟨a', c', e1, e2, _⟩ := recs_of_own hs h.1 h.2
  injection e1 with h1 h2 h3
  subst h1 h2 h3
  exact e2
theorem OwnR.low {k : Nat} (h : OwnR e size cs w base v ls) (hk : v.ownBlock = some k) : base ≤ k ∧ k < w.heap.size := ⟨(h.1.lt k hk).1, (h.1.lt k hk).2⟩
theorem Steady.ownR (D base : Nat) (v : Value) (ls : List α) : Steady D (fun W => OwnR e size cs W base v ls) := (Steady.ownsRow _ _ _ _ _ _ _).and (Steady.pure _ _)
end
/-- a variable's block, and that of the row in it -/
def TV (B : Nat) (ty : TypeId) (W : World) (k : Nat) : Prop := k = B ∨ ∃ v, W.heap[B]? = some (.cells #[v] ty (0, 0)) ∧ v.ownBlock = some k
theorem TV.ext {B : Nat} {ty : TypeId} {W W' : World} (h : W'.heap[B]? = W.heap[B]?) {k : Nat} (ht : TV B ty W' k) : TV B ty W k := by
  rcases ht with ht | ⟨v, hv, hk⟩
  · exact .inl ht
  · exact .inr ⟨v, h ▸ hv, hk⟩
theorem tch_var {W W' : World} {B : Nat} {ty : TypeId} {v v' : Value} (hB : W.heap[B]? = some (.cells #[v] ty (0, 0))) (hB' : W'.heap[B]? = some (.cells #[v'] ty (0, 0))) (hs : W.heap.size ≤ W'.heap.size)
    (hk : ∀ k, k < W.heap.size → k ≠ B → v.ownBlock ≠ some k → W'.heap[k]? = W.heap[k]?) (ho : ∀ k, v'.ownBlock = some k → v.ownBlock = some k ∨ W.heap.size ≤ k) : Tch (TV B ty) W W' := by
  refine ⟨hs, fun k h1 h2 => hk k h1 (fun e => h2 (.inl e)) (fun e => h2 (.inr ⟨v, hB, e⟩)), fun k ht => ?_⟩
  rcases ht with ht | ⟨u, hu, huk⟩
  · exact .inl (.inl ht)
  · rw [hB'] at hu
    simp only [Option.some.injEq, Obj.cells.injEq, Array.mk.injEq, List.cons.injEq, and_true] at hu
    obtain ⟨rfl, _⟩ := hu
    rcases ho k huk with h | h
    · exact .inl (.inr ⟨v, hB, h⟩)
    · exact .inr h
theorem tch_below {W W' : World} {B : Nat} {ty : TypeId} (hB : B < W.heap.size) (hb : Below W.heap.size W W') : Tch (TV B ty) W W' :=
  ⟨hb.size, fun k hk _ => hb.block k hk, fun _ ht => .inl (ht.ext (hb.block B hB))⟩
section
variable {P : Program}
/-- THE CALLER's LAW where a list's elements are gone through, outermost loop; what the assignment has made (G) is chosen in the round -/
theorem range_listTB {α : Type} {g : Operand} {ps : Array Tmp} {assign body : Code} {Q : Exit → Act → World → Prop} {a : Act} {w : World} {gf : Nat} {lb : Array Value}
    (hg : a.eval g = .func (.func gf) #[] lb) (eg : ∀ args w, (callFunc gf args).run P w = .ok (.enter gf args) w)
    {enc : α → Array Value} {l : List α} (I : World → Prop) (hit : IterTI P gf lb enc l I) (hps : ∀ x, (enc x).size = ps.size)
    (J : List α → List α → World → Prop) (Jx : Code → World → Prop)
    (hJ : ∀ d r, Steady w.heap.size (J d r)) (hJx : ∀ c, Steady w.heap.size (Jx c)) (hInv : ∀ d r W, J d r W → I W)
    (T : World → Nat → Prop) (hT0 : ∀ d r W k, J d r W → T W k → k < W.heap.size) (hTg : ∀ W W' row, W.grownBy W' row → (∀ q, row = some q → w.heap.size ≤ q ∧ ∃ o : Obj, W.heap[q]? = some o ∧ isBook o = true) → (∃ d r, J d r W) → ∀ k, T W' k → T W k)
    (h0 : J [] l w)
    (hround : ∀ (lp : Nat) (d : List α) (x : α) (r : List α) (W : World), l = d ++ x :: r → J d (x :: r) W →
      assign.wpIn (Fence.wide.inRound lp) 0 P (Exit.then (fun a1 W1 => Keep W W1 ∧ J d (x :: r) W1 ∧ Tch T W W1 ∧ ∃ G : World → Prop, Steady w.heap.size G ∧ G W1 ∧ ∀ (lp : Nat) (W2 : World), J d (x :: r) W2 → G W2 →
        body.wpIn (Fence.wide.inRound lp) 0 P (roundEnd (fun W' => Keep W2 W' ∧ J (d ++ [x]) r W' ∧ Tch T W2 W') (fun c W' => Keep W2 W' ∧ Jx c W')) a1 W2) (fun _ _ _ => False)) { tmps := (ps.zip (enc x)).foldl (fun t (p, v) => t.setIfInBounds p v) a.tmps, defers := [] } W)
    (hdone : ∀ (D : Nat) (W : World), w.heap.size ≤ D → J l [] W → W.heap[D]? = some (.deferred (some [])) → Q .normal { a with defers := { target := .collected D, args := #[] } :: a.defers } W)
    (hstop : ∀ (D : Nat) (c : Code) (W : World), w.heap.size ≤ D → Jx c W → W.heap[D]? = some (.deferred (some [])) → c.wpIn Fence.wide 0 P Q { a with defers := { target := .collected D, args := #[] } :: a.defers } W) :
    (Code.rangeFunc g ps assign body).wpIn Fence.wide 0 P Q a w := by
  refine range_outerT (enc := enc) hg eg hit hps (fun s W => ∃ d, l = d ++ s ∧ J d s W) Jx
    (fun s x a1 W => ∃ G : World → Prop, Steady w.heap.size G ∧ G W ∧ ∀ (d : List α) (lp : Nat) (W2 : World), l = d ++ s → J d s W2 → G W2 → body.wpIn (Fence.wide.inRound lp) 0 P (roundEnd (fun W' => Keep W2 W' ∧ J (d ++ [x]) (nxL s x) W' ∧ Tch T W2 W') (fun c W' => Keep W2 W' ∧ Jx c W')) a1 W2)
    (fun s => Steady.ex fun d => (Steady.pure _ _).and (hJ d s)) hJx (fun _ _ _ => fun W W' row h hg hr => let ⟨G, h1, h2, h3⟩ := h; ⟨G, h1, h1 W W' row h2 hg hr, h3⟩) (fun s W ⟨d, _, h⟩ => hInv d s W h) T (fun s W k ⟨d, _, h⟩ ht => hT0 d s W k h ht) (fun W W' row hg hr ⟨s, d, _, h⟩ => hTg W W' row hg hr ⟨d, s, h⟩) ⟨[], rfl, h0⟩ ?_ ?_ ?_ hstop
  · rintro lp s x W hok ⟨d, hd, hj⟩
    have hs := okL_cons hok
    generalize nxL s x = r at hs ⊢
    subst hs
    refine wpIn_mono (hround lp d x r W hd hj) ?_
    rintro e a1 W1 he
    cases e with
    | normal =>
      obtain ⟨h1, h2, hT1, G, h4, h5, h3⟩ := he
      refine ⟨h1, ⟨d, hd, h2⟩, ⟨G, h4, h5, fun d' lp' W2 hd' hj' hG' => ?_⟩, hT1⟩
      have : d' = d := by
        have := hd'.symm.trans hd
        exact List.append_cancel_right this
      subst this
      exact h3 lp' W2 hj' hG'
    | _ => exact he.elim
  · rintro lp s x a1 W hok ⟨d, hd, hj⟩ ⟨G, _, hG, hA⟩
    refine wpIn_mono (hA d lp W hd hj hG) ?_
    rintro e a3 W3 he
    cases e with
    | normal =>
      refine ⟨he.1, ⟨d ++ [x], ?_, he.2.1⟩, he.2.2⟩
      rw [hd, List.append_assoc]
      congr 1
      exact okL_cons hok
    | ret => exact he
    | exit id => exact he
    | goto t => exact he
    | panic ch => exact he.elim
    | outgrown => exact he.elim
  · rintro D s W hD hf ⟨d, hd, hj⟩ hk
    have hf : s = [] := hf
    subst hf
    rw [List.append_nil] at hd
    subst hd
    exact hdone D W hD hj hk
end
end

section
open Go.RowKit

/-- w' is w but for new blocks and the blocks of S -/
structure Chg (S : Nat → Prop) (w w' : World) : Prop where
  os : w'.os = w.os
  tape : w'.tape = w.tape
  output : w'.output = w.output
  size : w.heap.size ≤ w'.heap.size
  block : ∀ k, k < w.heap.size → ¬ S k → w'.heap[k]? = w.heap[k]?
theorem Chg.refl (S : Nat → Prop) (w : World) : Chg S w w := ⟨rfl, rfl, rfl, Nat.le_refl _, fun _ _ _ => rfl⟩
theorem Chg.trans {S : Nat → Prop} {a b c : World} (h : Chg S a b) (k : Chg S b c) : Chg S a c :=
  ⟨k.os.trans h.os, k.tape.trans h.tape, k.output.trans h.output, Nat.le_trans h.size k.size, fun i hi hn => (k.block i (Nat.lt_of_lt_of_le hi h.size) hn).trans (h.block i hi hn)⟩
theorem Chg.drewN {S : Nat → Prop} {a w : World} (h : Chg S a w) (n : Nat) : Chg S a (w.drewN n) := ⟨h.os, h.tape, h.output, h.size, h.block⟩
theorem Chg.grown {S : Nat → Prop} {a w w' : World} {row : Option Nat} (h : Chg S a w) (hg : w.grownBy w' row) (hr : ∀ k, row = some k → S k ∨ a.heap.size ≤ k) : Chg S a w' :=
  ⟨hg.os.trans h.os, hg.tape.trans h.tape, hg.output.trans h.output, Nat.le_trans h.size hg.size, fun k hk hn => (hg.block k (Nat.lt_of_lt_of_le hk h.size) (fun e => by
    rcases hr k e.symm with h1 | h1
    · exact hn h1
    · omega)).trans (h.block k hk hn)⟩
theorem Chg.alloc {S : Nat → Prop} {a w : World} (h : Chg S a w) (o : Obj) : Chg S a (w.alloc o) := h.grown (World.grownBy_alloc w o none) (fun k e => by cases e)
theorem Chg.setCell {S : Nat → Prop} {a w : World} (h : Chg S a w) {p : Addr} (hp : S p.block ∨ a.heap.size ≤ p.block) (u : Value) : Chg S a (w.setCell p u) :=
  ⟨h.os, h.tape, h.output, Nat.le_trans h.size (by simp [World.setCell]), fun k hk hn => (Below.heap_setCell w p u k (fun e => by
    subst e
    rcases hp with h1 | h1
    · exact hn h1
    · omega)).trans (h.block k hk hn)⟩
theorem Chg.mono {S T : Nat → Prop} {a w : World} (h : Chg S a w) (hs : ∀ k, S k → T k) : Chg T a w := ⟨h.os, h.tape, h.output, h.size, fun k hk hn => h.block k hk (fun hk' => hn (hs k hk'))⟩
theorem Chg.below {S : Nat → Prop} {a w : World} {B : Nat} (h : Chg S a w) (hB : B ≤ a.heap.size) (hs : ∀ k, S k → B ≤ k) : Below B a w :=
  ⟨h.os, h.tape, h.output, h.size, fun k hk => h.block k (by omega) (fun hk' => by have := hs k hk'; omega)⟩
theorem Chg.of_ext {S : Nat → Prop} {a b c : World} (h : Chg S a b) (hb : Below b.heap.size b c) : Chg S a c := h.trans ⟨hb.os, hb.tape, hb.output, hb.size, fun k hk _ => hb.block k hk⟩
theorem ownsRow_chg {S : Nat → Prop} {w w' : World} {base : Nat} {e : TypeId} {size : Nat} {v : Value} {n : Nat} {xs : List Value} (h : w.ownsRow base e size v n xs) (hc : Chg S w w') (hn : ∀ g, v.ownBlock = some g → ¬ S g) : w'.ownsRow base e size v n xs := by
  refine ⟨h.1, ?_⟩
  rcases h.2 with h2 | ⟨g, cap, cur, rfl, hb, hh, r⟩
  · exact .inl h2
  · exact .inr ⟨g, cap, cur, rfl, hb, (hc.block g (Array.getElem?_eq_some_iff.1 hh).1 (hn g rfl)).trans hh, r⟩

/-- rows whose elements' types differ lie in different blocks -/
theorem rows_ne {w : World} {base base' : Nat} {e e' : TypeId} {size size' : Nat} {v v' : Value} {n n' : Nat} {xs xs' : List Value} (h : w.ownsRow base e size v n xs) (h' : w.ownsRow base' e' size' v' n' xs') (hne : e ≠ e') :
    ∀ g, v.ownBlock = some g → v'.ownBlock ≠ some g := by
  intro g hg hg'
  rcases h.2 with ⟨rfl, _⟩ | ⟨b, cap, cur, rfl, _, hh, _⟩
  · simp [Value.ownBlock] at hg
  · rcases h'.2 with ⟨rfl, _⟩ | ⟨b', cap', cur', rfl, _, hh', _⟩
    · simp [Value.ownBlock] at hg'
    · simp only [Value.ownBlock, Option.some.injEq] at hg hg'
      subst hg
      subst hg'
      rw [hh] at hh'
      injection hh' with hh'
      injection hh' with _ ht
      exact hne ht
theorem row_lt {w : World} {base : Nat} {e : TypeId} {size : Nat} {v : Value} {n : Nat} {xs : List Value} (h : w.ownsRow base e size v n xs) : ∀ g, v.ownBlock = some g → base ≤ g ∧ g < w.heap.size := h.lt

/-- what an append onto v, n elements long, keeps: rows elsewhere, and rows in v's block that are no longer than v -/
def KeepR (e : TypeId) (size : Nat) (v : Value) (n : Nat) (w w' : World) : Prop :=
  ∀ (base0 : Nat) (v0 : Value) (n0 : Nat) (xs0 : List Value), w.ownsRow base0 e size v0 n0 xs0 → (∀ g, v0.ownBlock = some g → v.ownBlock = some g → n0 ≤ n) → w'.ownsRow base0 e size v0 n0 xs0

section
variable {P : Program} {Q : Exit → Act → World → Prop}
theorem append_keep (w : World) (base : Nat) (t ty e : TypeId) (i : TypeInfo) (z : Value) (size bytes : Nat) (ht : P.underlying t = some (.slice e)) (hi : P.info? e = some i) (hz : i.zero = some z)
    (hsize : i.size = size) (hby : i.bytes = bytes) (hzs : z.cells.size = size) (hsz : 0 < size)
    (v : Value) (n : Nat) (xs : List Value) (hown : w.ownsRow base e size v n xs)
    (a : Addr) (m c : Nat) (news : List Value) (hl : news.length = m * size) (hnews : ∀ j u, news[j]? = some u → w.cell? (a.add j) = some u) (h1 : ∀ u ∈ news, u.oneCell' = true)
    (h63 : n + m ≤ maxLen) (hbytes : (n + m) * bytes ≤ 140737488355328) (hbase : base ≤ w.heap.size) :
    ∃ v' w', (Builtin.append_ #[t, t] ty #[v, .slice (some a) m c]).run P w = .ok v' w' ∧ w'.ownsRow base e size v' (n + m) (xs ++ news) ∧ w.grownBy w' v.ownBlock ∧
      (v'.ownBlock = v.ownBlock ∨ v'.ownBlock = some w.heap.size) ∧ KeepR e size v n w w' := by
  obtain ⟨v', w', hrun, h2, h3, h4, h5⟩ := run_append_own_at (P := P) w base t ty e i z size bytes ht hi hz hsize hby hzs hsz v n xs hown a m c news hl hnews h1 h63 hbytes hbase
  refine ⟨v', w', hrun, h2, h3, h5, ?_⟩
  intro base0 v0 n0 xs0 h0 hle
  rcases h0.2 with ⟨hv0, hn0⟩ | ⟨g0, cap0, cur0, hv0, hb0, hh0, hnc0, hcm0, hcs0, htake0⟩
  · exact ⟨h0.1, .inl ⟨hv0, hn0⟩⟩
  · subst hv0
    by_cases hblk : v.ownBlock = some g0
    · have hn0 := hle g0 rfl hblk
      rcases hown.2 with ⟨rfl, _⟩ | ⟨g, cap, cur, rfl, hbg, hg, hnc, hcm, hcs, htake⟩
      · simp [Value.ownBlock] at hblk
      · simp only [Value.ownBlock, Option.some.injEq] at hblk
        subst hblk
        rw [hg] at hh0
        injection hh0 with hh0
        injection hh0 with hcc _
        subst hcc
        have hcap : cap = cap0 := Nat.eq_of_mul_eq_mul_right hsz (hcs.symm.trans hcs0)
        subst hcap
        have hle2 : n0 * size ≤ n * size := Nat.mul_le_mul_right _ hn0
        have hxs0 : xs0 = xs.take (n0 * size) := by
          rw [← htake0, ← htake, List.take_take, Nat.min_eq_left hle2]
        by_cases hroom : n + m ≤ cap
        · obtain ⟨w'', hr, h6, h7⟩ := run_append_own_spare (P := P) w base t ty e i size ht hi hsize g n cap xs hown a m c news hl hnews h1 hroom
          rw [hrun] at hr
          injection hr with e1 e2
          subst e1
          subst e2
          rcases h6.2 with ⟨hbad, _⟩ | ⟨g', cap', cur', hv', hb', hh', hnc', hcm', hcs', htake'⟩
          · cases hbad
          · injection hv' with e1 e2 e3
            injection e1 with e1
            injection e1 with e1 _ _
            subst e1
            subst e3
            refine ⟨h0.1, .inr ⟨g, cap, cur', rfl, hb0, hh', hnc0, hcm0, hcs', ?_⟩⟩
            have : cur'.toList.take (n0 * size) = (cur'.toList.take ((n + m) * size)).take (n0 * size) := by
              rw [List.take_take, Nat.min_eq_left (Nat.mul_le_mul_right _ (by omega))]
            rw [this, htake', hxs0, List.take_append_of_le_length (by rw [hown.1]; exact hle2)]
        · have holds : ∀ j u, xs[j]? = some u → w.cell? ((⟨g, 0, none⟩ : Addr).add j) = some u := hown.cells (g := g) rfl
          subst hsize
          have hr := run_append_grow (P := P) w t ty e i z ht hi hz ⟨g, 0, none⟩ n cap xs hown.1 holds a m c news hl hnews (by omega) (by simp only [maxLen] at h63; omega) (growslice_fits (by omega) (by rw [hby]; exact hbytes))
          rw [hrun] at hr
          injection hr with e1 e2
          subst e2
          refine ⟨h0.1, .inr ⟨g, cap, cur, rfl, hb0, ?_, hnc0, hcm0, hcs, htake0⟩⟩
          exact (Below.heap_alloc _ _ _ (by simpa using (Array.getElem?_eq_some_iff.1 hg).1)).trans hg
    · exact h0.kept h3 (.inr (fun e => hblk e.symm))

/-- append of one element, which lies in the newest block; what it keeps -/
theorem wpList_append1K {ops : Array Oper} {rest : List Oper} {o : Oper} {a : Act} (hgd : o.guard = none) (w0 : World) (s x : Operand) (t e : TypeId) (ho : o.op = .call { callee := .builtin .append, args := #[s, x], argTypes := #[t, t] })
    (base : Nat) (z : Value) (size bytes : Nat) (ht : P.underlying t = some (.slice e)) (hinfo : (P.info? e).map (fun i => (i.zero, i.size, i.bytes)) = some (some z, size, bytes)) (hzs : z.cells.size = size) (hsz : 0 < size)
    (v : Value) (n : Nat) (xs news : List Value) (hs : a.eval s = v) (hown : w0.ownsRow base e size v n xs) (H : Nat) (hH : w0.heap.size = H) (hx : a.eval x = .slice (some ⟨H, 0, none⟩) 1 1) (hl : news.length = size) (h1 : ∀ u ∈ news, u.oneCell' = true)
    (h63 : n + 1 ≤ maxLen) (hbytes : (n + 1) * bytes ≤ 140737488355328) (hbase : base ≤ w0.heap.size)
    (h : ∀ g cap w', w'.ownsRow base e size (.slice (some ⟨g, 0, none⟩) (n + 1) cap) (n + 1) (xs ++ news) → w0.grownBy w' v.ownBlock → (some g = v.ownBlock ∨ g = H + 1) → KeepR e size v n w0 w' → wpList P ops Q rest (a.put o.dst (.slice (some ⟨g, 0, none⟩) (n + 1) cap)) w') :
    wpList P ops Q (o :: rest) a (w0.alloc (.cells news.toArray e)) := by
  refine wpList_plain hgd fun K hK => ?_
  subst hH
  obtain ⟨i, hi, hz, hsize, hby⟩ := info_parts hinfo
  have hnews : ∀ j u, news[j]? = some u → (w0.alloc (.cells news.toArray e)).cell? ((⟨w0.heap.size, 0, none⟩ : Addr).add j) = some u := by
    intro j u hu
    have hadd : (⟨w0.heap.size, 0, none⟩ : Addr).add j = ⟨w0.heap.size, j, none⟩ := by unfold Addr.add; split <;> simp_all
    rw [hadd, cell_of_row _ _ _ _ _ _ (World.alloc_heap_new w0 _)]
    simpa using hu
  obtain ⟨v', w', hrun, h2, h3, h5, h6⟩ := append_keep (P := P) (w0.alloc (.cells news.toArray e)) base t o.type e i z size bytes ht hi hz hsize hby hzs hsz v n xs (hown.alloc _) ⟨w0.heap.size, 0, none⟩ 1 1 news (by omega) hnews h1 h63 hbytes (by simp; omega)
  obtain ⟨g, cap, rfl⟩ : ∃ g cap, v' = .slice (some ⟨g, 0, none⟩) (n + 1) cap := by
    rcases h2.2 with ⟨_, h0⟩ | ⟨g, cap, cur, hv, _⟩
    · omega
    · exact ⟨g, cap, hv⟩
  have hg : w0.grownBy w' v.ownBlock := by
    refine ⟨h3.os, h3.tape, h3.output, Nat.le_trans (by simp) h3.size, fun k hk hne => ?_⟩
    rw [h3.block k (by simp; omega) hne]
    exact Below.heap_alloc _ _ _ hk
  unfold Oper.wp execOp
  simp only [ho, resolve, invoke, builtin, Sem.run_bind, Sem.run_pure, Result.andThen_ok, List.map_toArray, List.map_cons, List.map_nil, hs, hx, hrun]
  refine hK _ _ (h g cap w' h2 hg ?_ (fun b0 v0 n0 xs0 h0 hle => h6 b0 v0 n0 xs0 (h0.alloc _) hle))
  rcases h5 with h5 | h5
  · exact Or.inl (by simpa [Value.ownBlock] using h5)
  · exact Or.inr (by simpa [Value.ownBlock] using h5)
/-- append of a whole slice of the call's own; what it keeps -/
theorem wpList_appendK {ops : Array Oper} {rest : List Oper} {o : Oper} {a : Act} (hgd : o.guard = none) (w : World) (s x : Operand) (t e : TypeId) (ho : o.op = .call { callee := .builtin .append, args := #[s, x], argTypes := #[t, t] })
    (base : Nat) (z : Value) (size bytes : Nat) (ht : P.underlying t = some (.slice e)) (hinfo : (P.info? e).map (fun i => (i.zero, i.size, i.bytes)) = some (some z, size, bytes)) (hzs : z.cells.size = size) (hsz : 0 < size)
    (v : Value) (n : Nat) (xs : List Value) (hs : a.eval s = v) (hown : w.ownsRow base e size v n xs) (M m c : Nat) (news : List Value) (hx : a.eval x = .slice (some ⟨M, 0, none⟩) m c) (hm : w.ownsRow base e size (.slice (some ⟨M, 0, none⟩) m c) m news) (h1 : ∀ u ∈ news, u.oneCell' = true)
    (h63 : n + m ≤ maxLen) (hbytes : (n + m) * bytes ≤ 140737488355328) (hbase : base ≤ w.heap.size)
    (h : ∀ v' w', w'.ownsRow base e size v' (n + m) (xs ++ news) → w.grownBy w' v.ownBlock → (v'.ownBlock = v.ownBlock ∨ v'.ownBlock = some w.heap.size) → KeepR e size v n w w' → wpList P ops Q rest (a.put o.dst v') w') :
    wpList P ops Q (o :: rest) a w := by
  refine wpList_plain hgd fun K hK => ?_
  obtain ⟨i, hi, hz, hsize, hby⟩ := info_parts hinfo
  obtain ⟨v', w', hrun, h2, h3, h5, h6⟩ := append_keep (P := P) w base t o.type e i z size bytes ht hi hz hsize hby hzs hsz v n xs hown ⟨M, 0, none⟩ m c news hm.1 (hm.cells (g := M) rfl) h1 h63 hbytes hbase
  unfold Oper.wp execOp
  simp only [ho, resolve, invoke, builtin, Sem.run_bind, Sem.run_pure, Result.andThen_ok, List.map_toArray, List.map_cons, List.map_nil, hs, hx, hrun]
  exact hK _ _ (h v' w' h2 h3 h5 h6)
end

/-- two slices that share no block -/
def SepF (v v' : Value) : Prop := ∀ g, v.ownBlock = some g → v'.ownBlock ≠ some g
theorem SepF.symm {v v' : Value} (h : SepF v v') : SepF v' v := fun g h1 h2 => h g h2 h1
/-- the marks of a row, n of them -/
def mrow (mk : Nat → Nat → List Value) (k n : Nat) : List Value := (List.range n).flatMap (mk k)
theorem mrow_snoc (mk : Nat → Nat → List Value) (k n : Nat) : mrow mk k (n + 1) = mrow mk k n ++ mk k n := by simp [mrow, List.range_succ]
theorem mrow_len (mk : Nat → Nat → List Value) (size : Nat) (hs : ∀ k i, (mk k i).length = size) (k n : Nat) : (mrow mk k n).length = n * size := by
  induction n with
  | zero => simp [mrow]
  | succ n ih => rw [mrow_snoc, List.length_append, ih, hs, Nat.add_mul, Nat.one_mul]
theorem mrow_at (mk : Nat → Nat → List Value) (hs : ∀ k i, (mk k i).length = 1) (k n i : Nat) (hi : i < n) : (mrow mk k n)[i]? = (mk k i)[0]? := by
  induction n with
  | zero => omega
  | succ n ih =>
    have hl := mrow_len mk 1 hs k n
    rw [mrow_snoc]
    by_cases h : i < n
    · rw [List.getElem?_append_left (by omega), ih h]
    · have : i = n := by omega
      subst this
      rw [List.getElem?_append_right (by omega)]
      congr 1
      omega
/-- a map of a list's numbers, one of them set -/
theorem range_map_set {α : Type} (K : Nat) (f : Nat → α) (k : Nat) (x : α) : ((List.range K).map f).set k x = (List.range K).map (fun j => if j = k then x else f j) := by
  refine List.ext_getElem (by simp) fun i h1 h2 => ?_
  simp only [List.getElem_set, List.getElem_map, List.getElem_range]
  by_cases e : k = i
  · subst e; simp
  · rw [if_neg e, if_neg (fun h => e h.symm)]
end
end Go.Proofs.Ytblhmdhfhaencaa
