/-
 Ranges over functions, where the iterator has memory of its own: what rounds turn is known by T. No program in sight.
-/
import Derived.Test.YtblhmdhfhaencaaTD
import Derived.Test.YtblhmdhfhaencaaFlatBase
import Derived.Test.YtblhmdhfhaencaaRecs
import Derived.BigQuiet
import Derived.Deep.MidRow
namespace Go.Proofs.Ytblhmdhfhaencaa
set_option linter.unusedSimpArgs false
set_option linter.unusedVariables false
set_option linter.unusedSectionVars false
set_option maxRecDepth 100000
set_option maxHeartbeats 40000000
section
open Go.RowKit

/-- only blocks of T, and new ones, have turned; T has not taken in what was there -/
def Tch (T : World → Nat → Prop) (W W' : World) : Prop :=
 W.heap.size ≤ W'.heap.size ∧ (∀ k, k < W.heap.size → ¬ T W k → W'.heap[k]? = W.heap[k]?) ∧ ∀ k, T W' k → T W k ∨ W.heap.size ≤ k
theorem Tch.refl (T : World → Nat → Prop) (W : World) : Tch T W W := ⟨Nat.le_refl _, fun _ _ _ => rfl, fun _ h => .inl h⟩
theorem Tch.trans {T : World → Nat → Prop} {A B C : World} (h : Tch T A B) (k : Tch T B C) : Tch T A C :=
 ⟨Nat.le_trans h.1 k.1, fun i hi hn => (k.2.1 i (Nat.lt_of_lt_of_le hi h.1) (fun ht => (h.2.2 i ht).elim hn (by omega))).trans (h.2.1 i hi hn),
  fun i ht => (k.2.2 i ht).elim (h.2.2 i) (fun hs => .inr (Nat.le_trans h.1 hs))⟩
theorem grown_put (W : World) (l : Nat) (o : Obj) : W.grownBy (W.putObj l o) (some l) :=
 ⟨rfl, rfl, rfl, by simp, fun k _ hne => World.putObj_heap_other (fun e => hne (by rw [e]))⟩
/-- an iterator that may have memory of its own -/
def IterT {σ α : Type} (P : Program) (gf : Nat) (lb : Array Value) (enc : α → Array Value) (ok : σ → α → Prop) (nx : σ → α → σ) (s0 : σ) (Fin : σ → Prop) (Inv : σ → World → Prop) : Prop :=
 ∀ (l : Nat) (K : σ → World → Prop) (Kx : World → Prop) (T : World → Nat → Prop) (W : World),
   (∀ s W W', K s W → Below W.heap.size W W' → K s W') → (∀ W W', Kx W → Below W.heap.size W W' → Kx W') → (∀ s W, K s W → Inv s W) →
   (∀ s W k, K s W → T W k → k < W.heap.size) → (∀ s W W' k, K s W → Below W.heap.size W W' → T W' k → T W k) →
   (∀ s x W, ok s x → K s W → YieldAt Fence.wide 0 P l (enc x) W fun e W' => (e = .returned (.bool true) ∧ K (nx s x) W' ∧ Tch T W W') ∨ (e = .returned (.bool false) ∧ Kx W')) →
   K s0 W → CallsIn Fence.wide 0 P gf (#[.func (.yield l) #[] #[]] ++ lb) W fun e W' => (∃ v, e = .returned v) ∧ ((∃ s, Fin s ∧ K s W') ∨ Kx W')
/-- THE CALLER's LAW, outermost loop, where the iterator has memory of its own -/
theorem range_outerT {P : Program} {σ α : Type} {g : Operand} {ps : Array Tmp} {assign body : Code} {Q : Exit → Act → World → Prop} {a : Act} {w : World} {gf : Nat} {lb : Array Value}
  (hg : a.eval g = .func (.func gf) #[] lb) (eg : ∀ args w, (callFunc gf args).run P w = .ok (.enter gf args) w)
  {enc : α → Array Value} {ok : σ → α → Prop} {nx : σ → α → σ} {s0 : σ} {Fin : σ → Prop} {Inv : σ → World → Prop} (hit : IterT P gf lb enc ok nx s0 Fin Inv)
  (hps : ∀ x, (enc x).size = ps.size)
  (J : σ → World → Prop) (Jx : Code → World → Prop) (A : σ → α → Act → World → Prop)
  (hJ : ∀ s, Steady w.heap.size (J s)) (hJx : ∀ c, Steady w.heap.size (Jx c)) (hA : ∀ s x a, Steady w.heap.size (A s x a)) (hInv : ∀ s W, J s W → Inv s W)
  (T : World → Nat → Prop) (hT0 : ∀ s W k, J s W → T W k → k < W.heap.size) (hTg : ∀ W W' row, W.grownBy W' row → (∀ r, row = some r → w.heap.size ≤ r ∧ ∃ o : Obj, W.heap[r]? = some o ∧ isBook o = true) → (∃ s, J s W) → ∀ k, T W' k → T W k)
  (h0 : J s0 w)
  (hassign : ∀ (l : Nat) (s : σ) (x : α) (W : World), ok s x → J s W →
    assign.wpIn (Fence.wide.inRound l) 0 P (Exit.then (fun a1 W1 => Keep W W1 ∧ J s W1 ∧ A s x a1 W1 ∧ Tch T W W1) (fun _ _ _ => False)) { tmps := (ps.zip (enc x)).foldl (fun t (p, v) => t.setIfInBounds p v) a.tmps, defers := [] } W)
  (hbody : ∀ (l : Nat) (s : σ) (x : α) (a1 : Act) (W : World), ok s x → J s W → A s x a1 W →
    body.wpIn (Fence.wide.inRound l) 0 P (roundEnd (fun W' => Keep W W' ∧ J (nx s x) W' ∧ Tch T W W') (fun c W' => Keep W W' ∧ Jx c W')) a1 W)
  (hdone : ∀ (D : Nat) (s : σ) (W : World), w.heap.size ≤ D → Fin s → J s W → W.heap[D]? = some (.deferred (some [])) → Q .normal { a with defers := { target := .collected D, args := #[] } :: a.defers } W)
  (hstop : ∀ (D : Nat) (c : Code) (W : World), w.heap.size ≤ D → Jx c W → W.heap[D]? = some (.deferred (some [])) → c.wpIn Fence.wide 0 P Q { a with defers := { target := .collected D, args := #[] } :: a.defers } W) :
  (Code.rangeFunc g ps assign body).wpIn Fence.wide 0 P Q a w := by
 refine wpIn_rangeFunc ?_
 intro fn hfn
 obtain ⟨rec, hrec⟩ : ∃ rec : LoopState → Option Code → Loop, rec = fun st pe => { state := st, pending := pe, fn, tmps := a.tmps, params := ps, assign, body, defers := w.heap.size } := ⟨_, rfl⟩
 obtain ⟨W1, hW1⟩ : ∃ W1, (w.alloc (.deferred (some []))).alloc (.loop (rec .ready none)) = W1 := ⟨_, rfl⟩
 have hL1 : W1.heap[w.heap.size + 1]? = some (.loop (rec .ready none)) := by
  rw [← hW1]; have := World.alloc_heap_new (w.alloc (.deferred (some []))) (.loop (rec .ready none)); rwa [World.size_alloc] at this
 have hK1 : W1.heap[w.heap.size]? = some (.deferred (some [])) := by
  rw [← hW1]; exact (Below.heap_alloc _ _ _ (by simp)).trans (World.alloc_heap_new w _)
 have hb1 : Below w.heap.size w W1 := by
  rw [← hW1]; exact ((Below.refl _ w).alloc (Nat.le_refl _) _).alloc (by simp) _
 have hI1 : J s0 W1 := (hJ s0).ext h0 hb1
 have keepE : ∀ {W W' : World} {k : Nat} {o : Obj}, W.heap[k]? = some o → Below W.heap.size W W' → W'.heap[k]? = some o :=
  fun hk hb => (hb.block _ (Array.getElem?_eq_some_iff.1 hk).1).trans hk
 refine ⟨w.heap.size + 1, [{ target := .collected w.heap.size, args := #[] }], W1, { target := .fn (.func gf) lb, args := #[.func (.yield (w.heap.size + 1)) #[] #[]] }, W1, gf,
  #[.func (.yield (w.heap.size + 1)) #[] #[]] ++ lb, W1, ?_, ?_, ?_, ?_, fun h => by simp [Fence.wide] at h, ?_⟩
 · rw [← hW1, hrec]; exact run_enterLoop_outer _ _ _ _ _
 · simp only [resolve, hg]
   simp [go_sem]
 · intro f' hf'; trivial
 · simp [invoke, go_sem, eg]
 · refine (hit (w.heap.size + 1)
    (fun s W => J s W ∧ W.heap[w.heap.size + 1]? = some (.loop (rec .ready none)) ∧ W.heap[w.heap.size]? = some (.deferred (some [])))
    (fun W => ∃ c, Jx c W ∧ W.heap[w.heap.size + 1]? = some (.loop (rec .done (some c))) ∧ W.heap[w.heap.size]? = some (.deferred (some [])))
    (fun W k => T W k ∨ k = w.heap.size + 1 ∨ k = w.heap.size)
    W1 (fun s A B h hb => ⟨(hJ s).ext h.1 hb, keepE h.2.1 hb, keepE h.2.2 hb⟩)
    (fun A B h hb => by obtain ⟨c, h1, h2, h3⟩ := h; exact ⟨c, (hJx c).ext h1 hb, keepE h2 hb, keepE h3 hb⟩)
    (fun s W h => hInv s W h.1)
    (fun s W k h ht => by
      rcases ht with ht | rfl | rfl
      · exact hT0 s W k h.1 ht
      · exact (Array.getElem?_eq_some_iff.1 h.2.1).1
      · exact (Array.getElem?_eq_some_iff.1 h.2.2).1)
    (fun s A B k h hb ht => by
      rcases ht with ht | ht
      · exact .inl (hTg A B none ⟨hb.os, hb.tape, hb.output, hb.size, fun k hk _ => hb.block k hk⟩ (fun r hr => by cases hr) ⟨s, h.1⟩ k ht)
      · exact .inr ht)
    ?_ ⟨hI1, hL1, hK1⟩).mono ?_
   · rintro s x W hok ⟨hi, hl, hk⟩
     have hy := run_yield (P := P) (args := enc x) hl (by rw [hrec]; exact hps x)
     rw [hrec] at hy
     refine ⟨fn, _, assign, body, hy, roundIn_of_wpIn hfn (wpIn_mono (hassign _ s x W hok hi) ?_)⟩
     rintro e a1 V hp
     cases e with
     | normal =>
       obtain ⟨hkp, hiV, hAV, hTV⟩ := hp
       have hlV := hkp _ _ hl rfl
       have hkV := hkp _ _ hk rfl
       have hlt : w.heap.size + 1 < V.heap.size := (Array.getElem?_eq_some_iff.1 hlV).1
       refine ⟨_, run_beginRound hlV (by rw [hrec]), ?_⟩
       have hl2 : (V.putObj (w.heap.size + 1) (.loop { rec .ready none with state := .busy })).heap[w.heap.size + 1]? = some (.loop { rec .ready none with state := .busy }) := World.putObj_heap_same hlt
       have hk2 : (V.putObj (w.heap.size + 1) (.loop { rec .ready none with state := .busy })).heap[w.heap.size]? = some (.deferred (some [])) := (World.putObj_heap_other (by omega)).trans hkV
       refine wpIn_mono (hbody _ s x a1 _ hok ((hJ s).put _ hiV (by omega) hlV rfl) ((hA s x a1).put _ hAV (by omega) hlV rfl)) ?_
       have fin : ∀ (jump : Option Code) (W3 : World), Keep (V.putObj (w.heap.size + 1) (.loop { rec .ready none with state := .busy })) W3 →
         (Instr.endRound (w.heap.size + 1) jump).run P W3 = .ok (.bool jump.isNone) (W3.putObj (w.heap.size + 1) (.loop (rec (if jump.isNone then .ready else .done) jump))) ∧
         W3.heap[w.heap.size + 1]? = some (.loop { rec .ready none with state := .busy }) ∧
         (W3.putObj (w.heap.size + 1) (.loop (rec (if jump.isNone then .ready else .done) jump))).heap[w.heap.size + 1]? = some (.loop (rec (if jump.isNone then .ready else .done) jump)) ∧
         (W3.putObj (w.heap.size + 1) (.loop (rec (if jump.isNone then .ready else .done) jump))).heap[w.heap.size]? = some (.deferred (some [])) := fun jump W3 hk3 => by
        have hl3 := hk3 _ _ hl2 rfl
        have := run_endRound (P := P) jump hl3
        rw [hrec] at this ⊢
        exact ⟨this, by rw [hrec] at hl3; exact hl3, World.putObj_heap_same (Array.getElem?_eq_some_iff.1 hl3).1, (World.putObj_heap_other (by omega)).trans (hk3 _ _ hk2 rfl)⟩
       rintro e a3 W3 hp
       cases e with
       | normal =>
         obtain ⟨hk3, hi3, hT3⟩ := hp
         obtain ⟨hr, hl3, hl4, hk4⟩ := fin none W3 hk3
         refine ⟨_, _, hr, .inl ⟨rfl, ⟨(hJ _).put _ hi3 (by omega) hl3 rfl, hl4, hk4⟩, ?_⟩⟩
         have g1 := grown_put V (w.heap.size + 1) (.loop { rec .ready none with state := .busy })
         have g2 := grown_put W3 (w.heap.size + 1) (.loop (rec (if (none : Option Code).isNone then .ready else .done) none))
         have t1 : ∀ k, T (V.putObj (w.heap.size + 1) (.loop { rec .ready none with state := .busy })) k → T V k := hTg _ _ _ g1 (fun r hr => by cases hr; exact ⟨by omega, _, hlV, rfl⟩) ⟨s, hiV⟩
         have t2 : ∀ k, T (W3.putObj (w.heap.size + 1) (.loop (rec (if (none : Option Code).isNone then .ready else .done) none))) k → T W3 k := hTg _ _ _ g2 (fun r hr => by cases hr; exact ⟨by omega, _, hl3, rfl⟩) ⟨_, hi3⟩
         have z1 : (V.putObj (w.heap.size + 1) (.loop { rec .ready none with state := .busy })).heap.size = V.heap.size := by simp
         have z2 : (W3.putObj (w.heap.size + 1) (.loop (rec (if (none : Option Code).isNone then .ready else .done) none))).heap.size = W3.heap.size := by simp
         have s1 := hTV.1
         have s3 := hT3.1
         rw [z1] at s3
         refine ⟨by rw [z2]; omega, fun k hk hn => ?_, fun k hk => ?_⟩
         · have n1 : k ≠ w.heap.size + 1 := fun e => hn (.inr (.inl e))
           have n0 : ¬ T W k := fun e => hn (.inl e)
           have m1 : ¬ T V k := fun e => (hTV.2.2 k e).elim n0 (by omega)
           have m2 := fun e => m1 (t1 k e)
           rw [World.putObj_heap_other n1, hT3.2.1 k (by rw [z1]; omega) m2, World.putObj_heap_other n1, hTV.2.1 k hk n0]
         · rcases hk with hk | hk
           · rcases hT3.2.2 k (t2 k hk) with h | h
             · rcases hTV.2.2 k (t1 k h) with h | h
               · exact .inl (.inl h)
               · exact .inr h
             · rw [z1] at h
               exact .inr (by omega)
           · exact .inl (.inr hk)
       | ret =>
         obtain ⟨hk3, hi3⟩ := hp
         obtain ⟨hr, hl3, hl4, hk4⟩ := fin (some .ret) W3 hk3
         exact ⟨_, _, hr, .inr ⟨rfl, .ret, (hJx _).put _ hi3 (by omega) hl3 rfl, hl4, hk4⟩⟩
       | exit id =>
         obtain ⟨hk3, hi3⟩ := hp
         obtain ⟨hr, hl3, hl4, hk4⟩ := fin (some (.exit id)) W3 hk3
         exact ⟨_, _, hr, .inr ⟨rfl, .exit id, (hJx _).put _ hi3 (by omega) hl3 rfl, hl4, hk4⟩⟩
       | goto t =>
         obtain ⟨hk3, hi3⟩ := hp
         obtain ⟨hr, hl3, hl4, hk4⟩ := fin (some (.goto t)) W3 hk3
         exact ⟨_, _, hr, .inr ⟨rfl, .goto t, (hJx _).put _ hi3 (by omega) hl3 rfl, hl4, hk4⟩⟩
       | panic ch => exact hp.elim
       | outgrown => exact hp.elim
     | exit id => exact hp.elim
     | goto t => exact hp.elim
     | ret => exact hp.elim
     | panic chain => exact hp.elim
     | outgrown => exact hp.elim
   · rintro e W2 ⟨⟨v, rfl⟩, (⟨s, hS, hi, hl, hk⟩ | ⟨c, hi, hl, hk⟩)⟩
     · exact ⟨none, _, by have := run_endLoop (P := P) hl (by rw [hrec]; simp); rw [hrec] at this; exact this, hdone _ s _ (Nat.le_refl _) hS ((hJ s).put _ hi (by omega) hl rfl) ((World.putObj_heap_other (by omega)).trans hk)⟩
     · exact ⟨some c, _, by have := run_endLoop (P := P) hl (by rw [hrec]; simp); rw [hrec] at this; exact this, hstop _ c _ (Nat.le_refl _) ((hJx c).put _ hi (by omega) hl rfl) ((World.putObj_heap_other (by omega)).trans hk)⟩
/-- an iterator that yields a list's elements, as long as I holds, with memory of its own -/
def IterTI {α : Type} (P : Program) (gf : Nat) (lb : Array Value) (enc : α → Array Value) (l : List α) (I : World → Prop) : Prop :=
 IterT P gf lb enc okL nxL l finL (fun _ W => I W)
theorem IterTI.mono {α : Type} {P : Program} {gf : Nat} {lb : Array Value} {enc : α → Array Value} {l : List α} {I I' : World → Prop} (h : IterTI P gf lb enc l I) (hi : ∀ W, I' W → I W) : IterTI P gf lb enc l I' :=
 fun lp K Kx T W hK hKx hInv h1 h2 hY h0 => h lp K Kx T W hK hKx (fun s W hs => hi W (hInv s W hs)) h1 h2 hY h0
/-- THE CALLER's LAW where a list's elements are gone through, outermost loop: d done, r to come -/
theorem range_listT {P : Program} {α : Type} {g : Operand} {ps : Array Tmp} {assign body : Code} {Q : Exit → Act → World → Prop} {a : Act} {w : World} {gf : Nat} {lb : Array Value}
  (hg : a.eval g = .func (.func gf) #[] lb) (eg : ∀ args w, (callFunc gf args).run P w = .ok (.enter gf args) w)
  {enc : α → Array Value} {l : List α} (I : World → Prop) (hit : IterTI P gf lb enc l I) (hps : ∀ x, (enc x).size = ps.size)
  (J : List α → List α → World → Prop) (Jx : Code → World → Prop)
  (hJ : ∀ d r, Steady w.heap.size (J d r)) (hJx : ∀ c, Steady w.heap.size (Jx c)) (hInv : ∀ d r W, J d r W → I W)
  (T : World → Nat → Prop) (hT0 : ∀ d r W k, J d r W → T W k → k < W.heap.size) (hTg : ∀ W W' row, W.grownBy W' row → (∀ q, row = some q → w.heap.size ≤ q ∧ ∃ o : Obj, W.heap[q]? = some o ∧ isBook o = true) → (∃ d r, J d r W) → ∀ k, T W' k → T W k)
  (h0 : J [] l w)
  (hround : ∀ (lp : Nat) (d : List α) (x : α) (r : List α) (W : World), l = d ++ x :: r → J d (x :: r) W →
    assign.wpIn (Fence.wide.inRound lp) 0 P (Exit.then (fun a1 W1 => Keep W W1 ∧ J d (x :: r) W1 ∧ Tch T W W1 ∧ ∀ (lp : Nat) (W2 : World), J d (x :: r) W2 →
     body.wpIn (Fence.wide.inRound lp) 0 P (roundEnd (fun W' => Keep W2 W' ∧ J (d ++ [x]) r W' ∧ Tch T W2 W') (fun c W' => Keep W2 W' ∧ Jx c W')) a1 W2) (fun _ _ _ => False)) { tmps := (ps.zip (enc x)).foldl (fun t (p, v) => t.setIfInBounds p v) a.tmps, defers := [] } W)
  (hdone : ∀ (D : Nat) (W : World), w.heap.size ≤ D → J l [] W → W.heap[D]? = some (.deferred (some [])) → Q .normal { a with defers := { target := .collected D, args := #[] } :: a.defers } W)
  (hstop : ∀ (D : Nat) (c : Code) (W : World), w.heap.size ≤ D → Jx c W → W.heap[D]? = some (.deferred (some [])) → c.wpIn Fence.wide 0 P Q { a with defers := { target := .collected D, args := #[] } :: a.defers } W) :
  (Code.rangeFunc g ps assign body).wpIn Fence.wide 0 P Q a w := by
 refine range_outerT (enc := enc) hg eg hit hps (fun s W => ∃ d, l = d ++ s ∧ J d s W) Jx
  (fun s x a1 _ => ∀ (d : List α) (lp : Nat) (W2 : World), l = d ++ s → J d s W2 → body.wpIn (Fence.wide.inRound lp) 0 P (roundEnd (fun W' => Keep W2 W' ∧ J (d ++ [x]) (nxL s x) W' ∧ Tch T W2 W') (fun c W' => Keep W2 W' ∧ Jx c W')) a1 W2)
  (fun s => Steady.ex fun d => (Steady.pure _ _).and (hJ d s)) hJx (fun _ _ _ => Steady.pure _ _) (fun s W ⟨d, _, h⟩ => hInv d s W h) T (fun s W k ⟨d, _, h⟩ ht => hT0 d s W k h ht) (fun W W' row hg hr ⟨s, d, _, h⟩ => hTg W W' row hg hr ⟨d, s, h⟩) ⟨[], rfl, h0⟩ ?_ ?_ ?_ hstop
 · rintro lp s x W hok ⟨d, hd, hj⟩
   have hs := okL_cons hok
   generalize nxL s x = r at hs ⊢
   subst hs
   refine wpIn_mono (hround lp d x r W hd hj) ?_
   rintro e a1 W1 he
   cases e with
   | normal =>
     obtain ⟨h1, h2, hT1, h3⟩ := he
     refine ⟨h1, ⟨d, hd, h2⟩, fun d' lp' W2 hd' hj' => ?_, hT1⟩
     have : d' = d := by
      have := hd'.symm.trans hd
      exact List.append_cancel_right this
     subst this
     exact h3 lp' W2 hj'
   | _ => exact he.elim
 · rintro lp s x a1 W hok ⟨d, hd, hj⟩ hA
   refine wpIn_mono (hA d lp W hd hj) ?_
   rintro e a3 W3 he
   cases e with
   | normal =>
     refine ⟨he.1, ⟨d ++ [x], ?_, he.2.1⟩, he.2.2⟩
     rw [hd, List.append_assoc]
     congr 1
     exact okL_cons hok
   | ret => exact he
   | exit id => exact he
   | goto t => exact he
   | panic ch => exact he.elim
   | outgrown => exact he.elim
 · rintro D s W hD hf ⟨d, hd, hj⟩ hk
   have hf : s = [] := hf
   subst hf
   rw [List.append_nil] at hd
   subst hd
   exact hdone D W hD hj hk
end

section
open Go.RowKit

def cmpV (x y : Int) : Int := if x < y then -1 else if y < x then 1 else 0
def orV : List Int → Int
 | [] => 0
 | x :: l => if x = 0 then orV l else x
theorem orV_hit : ∀ (l : List Int) (k : Nat), k < l.length → (∀ j, j < k → l.getD j 0 = 0) → l.getD k 0 ≠ 0 → orV l = l.getD k 0
 | x :: l, 0, _, _, h => by simp only [orV, List.getD_cons_zero] at h ⊢; rw [if_neg h]
 | x :: l, k + 1, hk, h0, h => by
   have h1 : x = 0 := by have := h0 0 (by omega); simpa using this
   rw [orV, if_pos h1, List.getD_cons_succ]
   exact orV_hit l k (by simpa using hk) (fun j hj => by have := h0 (j + 1) (by omega); simpa using this) (by simpa using h)
theorem orV_none : ∀ (l : List Int), (∀ j, j < l.length → l.getD j 0 = 0) → orV l = 0
 | [], _ => rfl
 | x :: l, h => by
   have h1 : x = 0 := by have := h 0 (by simp); simpa using this
   rw [orV, if_pos h1]
   exact orV_none l fun j hj => by have := h (j + 1) (by simpa using hj); simpa using this
theorem isNaN_any (x : Int) (w : World) : Calls Try.prog 86 #[.int .i64 x] w fun e w' => e = .returned (.bool false) ∧ w = w' := by
 go_enter Try.func86, Try.ntmps86
 go_wp2
 go_ret
 exact ⟨rfl, rfl⟩
theorem compare_any (x y : Int) (w : World) : Calls Try.prog 56 #[.int .i64 x, .int .i64 y] w fun e w' => e = .returned (.int .i64 (cmpV x y)) ∧ w = w' := by
 by_cases h1 : x < y
 · have HE : Hid (cmpV x y = -1) := by rw [Hid, cmpV, if_pos h1]
   go_enter Try.func56, Try.ntmps56
   go_wp2_with (go_at_call 86; refine (isNaN_any _ _).mono ?_; rintro e w1 ⟨rfl, rfl⟩)
   go_ret
   exact ⟨by rw [HE.out]; rfl, rfl⟩
 · by_cases h2 : y < x
   · have HE : Hid (cmpV x y = 1) := by rw [Hid, cmpV, if_neg h1, if_pos h2]
     go_enter Try.func56, Try.ntmps56
     go_wp2_with (go_at_call 86; refine (isNaN_any _ _).mono ?_; rintro e w1 ⟨rfl, rfl⟩)
     go_ret
     exact ⟨by rw [HE.out]; rfl, rfl⟩
   · have HE : Hid (cmpV x y = 0) := by rw [Hid, cmpV, if_neg h1, if_neg h2]
     go_enter Try.func56, Try.ntmps56
     go_wp2_with (go_at_call 86; refine (isNaN_any _ _).mono ?_; rintro e w1 ⟨rfl, rfl⟩)
     go_ret
     exact ⟨by rw [HE.out]; rfl, rfl⟩
theorem cmpOr_any (a : Option Addr) (n c : Nat) (xs : List Int) (w : World) (h : Ints w a n xs) : Calls Try.prog 55 #[.slice a n c] w fun e w' => e = .returned (.int .i64 (orV xs)) ∧ w = w' := by
 obtain ⟨hl, hn, hc⟩ := h
 have HL := Lib.hid hl
 have HC := Lib.hid hc
 clear hl hc
 go_enter Try.func55, Try.ntmps55
 go_wp2
 go_loopw [5, 8] (fun _ i wr => ∃ (k : Nat), k ≤ n ∧ i = .int .i64 k ∧ wr = w ∧ Hid (∀ j, j < k → xs.getD j 0 = 0)) (fun _ i _ => n - (intOf i).toNat)
 case atStart => exact ⟨0, by omega, rfl, rfl, fun j hj => absurd hj (by omega)⟩
 case round =>
  obtain ⟨k, hk, rfl, rfl, HR⟩ := hrel
  by_cases hlt : k < n
  · have hlt' : (k : Int) < (n : Int) := by omega
    obtain ⟨b, o, rfl, hcell, _⟩ := HC.out k hlt
    by_cases he : xs.getD k 0 = 0
    · have HE : Hid (∀ j, j < k + 1 → xs.getD j 0 = 0) := fun j hj => by
       by_cases hjk : j = k
       · subst hjk; exact he
       · exact HR.out j (by omega)
      rw [he] at hcell
      clear he
      go_wp2
      go_roundw
      case rel => exact ⟨k + 1, by omega, by go_num, trivial, HE⟩
      case measure => simp [intOf]; omega
    · have HE : Hid (orV xs = xs.getD k 0) := orV_hit xs k (by rw [HL.out]; exact hlt) HR.out he
      have hne : (xs.getD k 0 != 0) = true := by simpa using he
      generalize xs.getD k 0 = y at *
      go_wp2
      go_ret
      exact ⟨by rw [HE.out]; rfl, rfl⟩
  · have hlt' : ¬ (k : Int) < (n : Int) := by omega
    have HE : Hid (orV xs = 0) := orV_none xs fun j hj => HR.out j (by rw [HL.out] at hj; omega)
    go_wp2
    go_ret
    exact ⟨by rw [HE.out]; rfl, rfl⟩
/-- what the comparison of two keys tells -/
theorem or_cmp (a b x y : Int) : orV [cmpV a b, cmpV x y] < 0 ↔ a < b ∨ a = b ∧ x < y := by
 simp only [orV, cmpV]
 repeat' split
 all_goals omega
end

section
open Go.RowKit

/-- a slice of the call's own that reads as a list of records -/
def OwnR {α : Type} (e : TypeId) (size : Nat) (cs : α → List Value) (w : World) (base : Nat) (v : Value) (ls : List α) : Prop := w.ownsRow base e size v ls.length (ls.flatMap cs) ∧ ls.length ≤ 17592186044416
section
variable {α : Type} {e : TypeId} {size : Nat} {cs : α → List Value} {w w' : World} {base base' : Nat} {v : Value} {ls : List α}
theorem OwnR.nil (e : TypeId) (size : Nat) (cs : α → List Value) (w : World) (base : Nat) : OwnR e size cs w base (.slice none 0 0) [] := ⟨World.ownsRow_nil _ _ _ _, by simp⟩
theorem OwnR.mono (h : OwnR e size cs w base v ls) (hb : base' ≤ base) : OwnR e size cs w base' v ls := by
 refine ⟨⟨h.1.1, ?_⟩, h.2⟩
 rcases h.1.2 with h0 | ⟨g, cap, cur, hv, h1, r⟩
 · exact .inl h0
 · exact .inr ⟨g, cap, cur, hv, Nat.le_trans hb h1, r⟩
theorem OwnR.kept {row : Option Nat} (h : OwnR e size cs w base v ls) (hg : w.grownBy w' row) (hne : v.ownBlock = none ∨ v.ownBlock ≠ row) : OwnR e size cs w' base v ls := ⟨h.1.kept hg hne, h.2⟩
theorem OwnR.ext (h : OwnR e size cs w base v ls) (hb : Below w.heap.size w w') : OwnR e size cs w' base v ls := by
 refine ⟨h.1.kept (row := none) ⟨hb.os, hb.tape, hb.output, hb.size, fun k hk _ => hb.block k hk⟩ ?_, h.2⟩
 cases h1 : v.ownBlock with
 | none => exact .inl rfl
 | some k => exact .inr (by simp)
theorem OwnR.form (h : OwnR e size cs w base v ls) : ∃ a c, v = .slice a ls.length c := by
 rcases h.1.2 with ⟨rfl, h0⟩ | ⟨g, cap, cur, hv, _⟩
 · have h0 : ls.length = 0 := h0
   rw [h0]
   exact ⟨none, 0, rfl⟩
 · exact ⟨_, _, hv⟩
theorem OwnR.recs {a : Option Addr} {n c : Nat} (hs : ∀ x, (cs x).length = size) (h : OwnR e size cs w base (.slice a n c) ls) : Recs size cs w a n ls := by
 obtain ⟨a', c', e1, e2, _⟩ := recs_of_own hs h.1 h.2
 injection e1 with h1 h2 h3
 subst h1 h2 h3
 exact e2
theorem OwnR.low {k : Nat} (h : OwnR e size cs w base v ls) (hk : v.ownBlock = some k) : base ≤ k ∧ k < w.heap.size := ⟨(h.1.lt k hk).1, (h.1.lt k hk).2⟩
theorem Steady.ownR (D base : Nat) (v : Value) (ls : List α) : Steady D (fun W => OwnR e size cs W base v ls) := (Steady.ownsRow _ _ _ _ _ _ _).and (Steady.pure _ _)
end
/-- a variable's block, and that of the row in it -/
def TV (B : Nat) (ty : TypeId) (W : World) (k : Nat) : Prop := k = B ∨ ∃ v, W.heap[B]? = some (.cells #[v] ty (0, 0)) ∧ v.ownBlock = some k
theorem TV.ext {B : Nat} {ty : TypeId} {W W' : World} (h : W'.heap[B]? = W.heap[B]?) {k : Nat} (ht : TV B ty W' k) : TV B ty W k := by
 rcases ht with ht | ⟨v, hv, hk⟩
 · exact .inl ht
 · exact .inr ⟨v, h ▸ hv, hk⟩
theorem tch_var {W W' : World} {B : Nat} {ty : TypeId} {v v' : Value} (hB : W.heap[B]? = some (.cells #[v] ty (0, 0))) (hB' : W'.heap[B]? = some (.cells #[v'] ty (0, 0))) (hs : W.heap.size ≤ W'.heap.size)
  (hk : ∀ k, k < W.heap.size → k ≠ B → v.ownBlock ≠ some k → W'.heap[k]? = W.heap[k]?) (ho : ∀ k, v'.ownBlock = some k → v.ownBlock = some k ∨ W.heap.size ≤ k) : Tch (TV B ty) W W' := by
 refine ⟨hs, fun k h1 h2 => hk k h1 (fun e => h2 (.inl e)) (fun e => h2 (.inr ⟨v, hB, e⟩)), fun k ht => ?_⟩
 rcases ht with ht | ⟨u, hu, huk⟩
 · exact .inl (.inl ht)
 · rw [hB'] at hu
   simp only [Option.some.injEq, Obj.cells.injEq, Array.mk.injEq, List.cons.injEq, and_true] at hu
   obtain ⟨rfl, _⟩ := hu
   rcases ho k huk with h | h
   · exact .inl (.inr ⟨v, hB, h⟩)
   · exact .inr h
theorem tch_below {W W' : World} {B : Nat} {ty : TypeId} (hB : B < W.heap.size) (hb : Below W.heap.size W W') : Tch (TV B ty) W W' :=
 ⟨hb.size, fun k hk _ => hb.block k hk, fun _ ht => .inl (ht.ext (hb.block B hB))⟩
section
variable {P : Program}
/-- THE CALLER's LAW where a list's elements are gone through, outermost loop; what the assignment has made (G) is chosen in the round -/
theorem range_listTB {α : Type} {g : Operand} {ps : Array Tmp} {assign body : Code} {Q : Exit → Act → World → Prop} {a : Act} {w : World} {gf : Nat} {lb : Array Value}
  (hg : a.eval g = .func (.func gf) #[] lb) (eg : ∀ args w, (callFunc gf args).run P w = .ok (.enter gf args) w)
  {enc : α → Array Value} {l : List α} (I : World → Prop) (hit : IterTI P gf lb enc l I) (hps : ∀ x, (enc x).size = ps.size)
  (J : List α → List α → World → Prop) (Jx : Code → World → Prop)
  (hJ : ∀ d r, Steady w.heap.size (J d r)) (hJx : ∀ c, Steady w.heap.size (Jx c)) (hInv : ∀ d r W, J d r W → I W)
  (T : World → Nat → Prop) (hT0 : ∀ d r W k, J d r W → T W k → k < W.heap.size) (hTg : ∀ W W' row, W.grownBy W' row → (∀ q, row = some q → w.heap.size ≤ q ∧ ∃ o : Obj, W.heap[q]? = some o ∧ isBook o = true) → (∃ d r, J d r W) → ∀ k, T W' k → T W k)
  (h0 : J [] l w)
  (hround : ∀ (lp : Nat) (d : List α) (x : α) (r : List α) (W : World), l = d ++ x :: r → J d (x :: r) W →
    assign.wpIn (Fence.wide.inRound lp) 0 P (Exit.then (fun a1 W1 => Keep W W1 ∧ J d (x :: r) W1 ∧ Tch T W W1 ∧ ∃ G : World → Prop, Steady w.heap.size G ∧ G W1 ∧ ∀ (lp : Nat) (W2 : World), J d (x :: r) W2 → G W2 →
     body.wpIn (Fence.wide.inRound lp) 0 P (roundEnd (fun W' => Keep W2 W' ∧ J (d ++ [x]) r W' ∧ Tch T W2 W') (fun c W' => Keep W2 W' ∧ Jx c W')) a1 W2) (fun _ _ _ => False)) { tmps := (ps.zip (enc x)).foldl (fun t (p, v) => t.setIfInBounds p v) a.tmps, defers := [] } W)
  (hdone : ∀ (D : Nat) (W : World), w.heap.size ≤ D → J l [] W → W.heap[D]? = some (.deferred (some [])) → Q .normal { a with defers := { target := .collected D, args := #[] } :: a.defers } W)
  (hstop : ∀ (D : Nat) (c : Code) (W : World), w.heap.size ≤ D → Jx c W → W.heap[D]? = some (.deferred (some [])) → c.wpIn Fence.wide 0 P Q { a with defers := { target := .collected D, args := #[] } :: a.defers } W) :
  (Code.rangeFunc g ps assign body).wpIn Fence.wide 0 P Q a w := by
 refine range_outerT (enc := enc) hg eg hit hps (fun s W => ∃ d, l = d ++ s ∧ J d s W) Jx
  (fun s x a1 W => ∃ G : World → Prop, Steady w.heap.size G ∧ G W ∧ ∀ (d : List α) (lp : Nat) (W2 : World), l = d ++ s → J d s W2 → G W2 → body.wpIn (Fence.wide.inRound lp) 0 P (roundEnd (fun W' => Keep W2 W' ∧ J (d ++ [x]) (nxL s x) W' ∧ Tch T W2 W') (fun c W' => Keep W2 W' ∧ Jx c W')) a1 W2)
  (fun s => Steady.ex fun d => (Steady.pure _ _).and (hJ d s)) hJx (fun _ _ _ => fun W W' row h hg hr => let ⟨G, h1, h2, h3⟩ := h; ⟨G, h1, h1 W W' row h2 hg hr, h3⟩) (fun s W ⟨d, _, h⟩ => hInv d s W h) T (fun s W k ⟨d, _, h⟩ ht => hT0 d s W k h ht) (fun W W' row hg hr ⟨s, d, _, h⟩ => hTg W W' row hg hr ⟨d, s, h⟩) ⟨[], rfl, h0⟩ ?_ ?_ ?_ hstop
 · rintro lp s x W hok ⟨d, hd, hj⟩
   have hs := okL_cons hok
   generalize nxL s x = r at hs ⊢
   subst hs
   refine wpIn_mono (hround lp d x r W hd hj) ?_
   rintro e a1 W1 he
   cases e with
   | normal =>
     obtain ⟨h1, h2, hT1, G, h4, h5, h3⟩ := he
     refine ⟨h1, ⟨d, hd, h2⟩, ⟨G, h4, h5, fun d' lp' W2 hd' hj' hG' => ?_⟩, hT1⟩
     have : d' = d := by
      have := hd'.symm.trans hd
      exact List.append_cancel_right this
     subst this
     exact h3 lp' W2 hj' hG'
   | _ => exact he.elim
 · rintro lp s x a1 W hok ⟨d, hd, hj⟩ ⟨G, _, hG, hA⟩
   refine wpIn_mono (hA d lp W hd hj hG) ?_
   rintro e a3 W3 he
   cases e with
   | normal =>
     refine ⟨he.1, ⟨d ++ [x], ?_, he.2.1⟩, he.2.2⟩
     rw [hd, List.append_assoc]
     congr 1
     exact okL_cons hok
   | ret => exact he
   | exit id => exact he
   | goto t => exact he
   | panic ch => exact he.elim
   | outgrown => exact he.elim
 · rintro D s W hD hf ⟨d, hd, hj⟩ hk
   have hf : s = [] := hf
   subst hf
   rw [List.append_nil] at hd
   subst hd
   exact hdone D W hD hj hk
end
end

section
open Go.RowKit

section
variable {P : Program} {ops : Array Oper} {rest : List Oper} {o : Oper} {a : Act}
theorem wpQuiet_load_mid {C : World → Prop} {Q : Act → Prop} (hw : Region.wanted o (yielded ops a.tmps) = true) (ty : TypeId) (x : Operand) (ho : o.op = .load ty x)
  (b q : Nat) (hx : a.eval x = .pointer (some ⟨b, q, none⟩)) (cs : List Value) (d : TypeDesc) (hc : ∀ w, C w → w.rangeAt b q cs)
  (hu : P.underlying ty = some d) (hd : d.isRow = true) (hi : (P.info? ty).map (·.size) = some cs.length)
  (h : wpQuiet P ops C Q rest (a.put o.dst (.agg cs.toArray))) : wpQuiet P ops C Q (o :: rest) a :=
 BigFrame.wpQuiet_want hw fun _ hK => ⟨.agg cs.toArray, fun w hC => by
  unfold Oper.quietAt execOp
  simp only [ho, hx, Instr.loadAt, Instr.sureAddr, Sem.run_bind, Sem.run_pure, Result.andThen_ok, run_loadVar_mid w b q ty cs d (hc w hC) hu hd hi]
  exact ⟨rfl, rfl⟩, hK _ h⟩
end
theorem own_cells {base : Nat} {e : TypeId} {size g n c : Nat} : ∀ (vs : List Value) (o : Nat) (xs : List Value) (w : World), w.ownsRow base e size (.slice (some ⟨g, 0, none⟩) n c) n xs → o + vs.length ≤ xs.length →
  (w.setCells g o vs).ownsRow base e size (.slice (some ⟨g, 0, none⟩) n c) n (xs.take o ++ vs ++ xs.drop (o + vs.length))
 | [], o, xs, w, h, _ => by simpa [World.setCells] using h
 | v :: r, o, xs, w, h, ho => by
   simp only [List.length_cons] at ho
   have h1 := own_cells r (o + 1) _ _ (h.stored o v).1 (by simp; omega)
   rw [World.setCells]
   have e : (xs.set o v).take (o + 1) ++ r ++ (xs.set o v).drop (o + 1 + r.length) = xs.take o ++ (v :: r) ++ xs.drop (o + (v :: r).length) := by
    rw [List.drop_set_of_lt (by omega), List.take_add_one, List.take_set_of_le (by omega), List.getElem?_set_self (by omega)]
    simp [Nat.add_assoc, Nat.add_comm 1]
   rw [e] at h1
   exact h1
theorem flat_set {α : Type} (cs : α → List Value) (size : Nat) (hs : ∀ x, (cs x).length = size) (x : α) : ∀ (l : List α) (k : Nat), k < l.length → (l.flatMap cs).take (k * size) ++ cs x ++ (l.flatMap cs).drop (k * size + size) = (l.set k x).flatMap cs
 | y :: l, 0, _ => by
   simp only [List.flatMap_cons, Nat.zero_mul, List.take_zero, List.nil_append, List.set_cons_zero, Nat.zero_add]
   rw [← hs y, List.drop_left]
 | y :: l, k + 1, h => by
   have ih := flat_set cs size hs x l k (by simpa using h)
   rw [List.flatMap_cons, List.set_cons_succ, List.flatMap_cons, ← ih, Nat.add_mul, Nat.one_mul]
   have e1 : k * size + size = (cs y).length + k * size := by rw [hs]; omega
   have e2 : k * size + size + size = (cs y).length + (k * size + size) := by rw [hs]; omega
   rw [e2, List.drop_append, e1, List.take_append]
   simp only [List.append_assoc]
   rw [List.take_of_length_le (by omega), List.drop_of_length_le (l := cs y) (by omega), List.nil_append]
   congr 2
   · congr 1; omega
   · congr 1
     congr 1; omega
section
variable {α : Type} {e : TypeId} {size : Nat} {cs : α → List Value} {w w' : World} {base : Nat} {ls : List α} {g n c : Nat}
/-- an element loaded -/
theorem OwnR.range (hs : ∀ x, (cs x).length = size) (h : OwnR e size cs w base (.slice (some ⟨g, 0, none⟩) n c) ls) (z : α) {k : Nat} (hk : k < ls.length) : w.rangeAt g (k * size) (cs (ls.getD k z)) := by
 obtain rfl : n = ls.length := by obtain ⟨a, c', e⟩ := h.form; injection e
 have hr := h.recs hs
 obtain ⟨b, o, ea, hc⟩ := hr.at_ (k := k) (by rw [hr.1]; exact hk) z
 injection ea with ea
 injection ea with ea eo
 subst ea eo
 intro j v hv
 have hj : j < size := by rw [← hs (ls.getD k z)]; exact (List.getElem?_eq_some_iff.1 hv).1
 rw [← hv, ← hc j hj, Nat.zero_add]
/-- an element stored -/
theorem OwnR.setAt (hs : ∀ x, (cs x).length = size) (h : OwnR e size cs w base (.slice (some ⟨g, 0, none⟩) n c) ls) {k : Nat} (hk : k < ls.length) (x : α) : OwnR e size cs (w.setCells g (k * size) (cs x)) base (.slice (some ⟨g, 0, none⟩) n c) (ls.set k x) := by
 obtain rfl : n = ls.length := by obtain ⟨a, c', e⟩ := h.form; injection e
 have hl := flatMap_len cs size hs ls
 have hkk : k * size + size ≤ ls.length * size := by
  have : (k + 1) * size ≤ ls.length * size := Nat.mul_le_mul_right _ hk
  rw [Nat.add_mul, Nat.one_mul] at this
  exact this
 have h1 := own_cells (cs x) (k * size) _ _ h.1 (by rw [hs, hl]; exact hkk)
 rw [hs, flat_set cs size hs x ls k hk] at h1
 refine ⟨?_, by simpa using h.2⟩
 rw [List.length_set]
 exact h1
theorem OwnR.there (hs : ∀ x, (cs x).length = size) (h : OwnR e size cs w base (.slice (some ⟨g, 0, none⟩) n c) ls) {k : Nat} (hk : k < ls.length) : w.there g (k * size) size := by
 have hl := flatMap_len cs size hs ls
 have hkk : k * size + size ≤ ls.length * size := by
  have : (k + 1) * size ≤ ls.length * size := Nat.mul_le_mul_right _ hk
  rw [Nat.add_mul, Nat.one_mul] at this
  exact this
 rcases h.1.2 with ⟨h0, _⟩ | ⟨g', cap, cur, hv, hb, hh, hnc, hcm, hcs, ht⟩
 · cases h0
 · simp only [Value.slice.injEq, Option.some.injEq, Addr.mk.injEq, and_true, true_and] at hv
   obtain ⟨rfl, rfl, rfl⟩ := hv
   intro j hj
   have : ls.length * size ≤ c * size := Nat.mul_le_mul_right _ hnc
   refine ⟨?_, frozen_of_row _ _ _ _ _ hh⟩
   rw [cell_of_row _ _ _ _ _ _ hh]
   rw [Array.getElem?_eq_getElem (by omega)]
   rfl
end
theorem chg_setCells {S : Nat → Prop} {a : World} {g : Nat} (hs : S g) : ∀ (vs : List Value) (o : Nat) (w : World), Chg S a w → Chg S a (w.setCells g o vs)
 | [], _, _, h => h
 | v :: r, o, w, h => chg_setCells hs r (o + 1) _ (h.setCell (Or.inl hs) v)
end
end Go.Proofs.Ytblhmdhfhaencaa
