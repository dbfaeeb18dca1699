/-
  A range over a function, at the wide fence: one law for the caller, one word for the iterator. No program in sight.
-/
import Derived.RangeFuncRecord
import Derived.RangeFuncLeaves
import Derived.RangeFuncSeq
import Derived.RangeFuncIn
import Derived.RangeFuncOwn
import Derived.TacticsInMore
import Derived.LoopNIn
import Derived.LoopIn
import Derived.OwnWalkIn
import Derived.RangeFuncCalls
import Derived.Shelf.RegionOpen
import Derived.Test.YtfpbfdkjcmlimaaGreatIdx
import Derived.Deep.Quiet
namespace Go.Proofs.YtfpbfdkjcmlimaaGreat
set_option linter.unusedSimpArgs false
set_option linter.unusedVariables false
set_option linter.unusedSectionVars false
set_option maxRecDepth 100000
set_option maxHeartbeats 40000000
section
open Go.RowKit
theorem wide_fn (f : FuncId) : Fence.wide.fn f = True := rfl
theorem wide_depth : Fence.wide.depth = none := rfl
theorem wide_fnR (l : Nat) (f : FuncId) : (Fence.wide.inRound l).fn f = True := rfl
theorem wide_depthR (l : Nat) : (Fence.wide.inRound l).depth = none := rfl
def isBook : Obj → Bool
  | .loop _ => true
  | .deferred _ => true
  | _ => false
def Keep (W W' : World) : Prop := ∀ (k : Nat) (o : Obj), W.heap[k]? = some o → isBook o = true → W'.heap[k]? = some o
theorem Keep.refl (W : World) : Keep W W := fun _ _ h _ => h
theorem Keep.trans {A B C : World} (h : Keep A B) (k : Keep B C) : Keep A C := fun i o hi ho => k i o (h i o hi ho) ho
theorem Keep.alloc (W : World) (o : Obj) : Keep W (W.alloc o) := fun k o' hk _ => (Below.heap_alloc W o k (Array.getElem?_eq_some_iff.1 hk).1).trans hk
theorem Keep.setCell (W : World) (a : Addr) (v : Value) : Keep W (W.setCell a v) := fun k o hk ho => by
  by_cases e : k = a.block
  · subst e
    obtain ⟨hlt, hk'⟩ := Array.getElem?_eq_some_iff.1 hk
    show (W.heap.modify a.block _)[a.block]? = some o
    rw [Array.getElem?_eq_getElem (by rw [Array.size_modify]; exact hlt), Array.getElem_modify_self, hk']
    cases o <;> first | rfl | (simp [isBook] at ho)
  · exact (Below.heap_setCell W a v k e).trans hk
theorem Keep.ext {W W' : World} (h : Below W.heap.size W W') : Keep W W' := fun k _ hk _ => (h.block k (Array.getElem?_eq_some_iff.1 hk).1).trans hk
theorem Keep.grown {W W' : World} {row : Option Nat} (hg : W.grownBy W' row) (hrow : ∀ (j : Nat) (o : Obj), row = some j → W.heap[j]? = some o → isBook o = false) : Keep W W' :=
  fun k o hk ho => by
    refine (hg.block k (Array.getElem?_eq_some_iff.1 hk).1 ?_).trans hk
    intro e
    rw [hrow k o e.symm hk] at ho; cases ho
def Steady (B : Nat) (J : World → Prop) : Prop :=
  ∀ W W' row, J W → W.grownBy W' row → (∀ r, row = some r → B ≤ r ∧ ∃ o : Obj, W.heap[r]? = some o ∧ isBook o = true) → J W'
theorem Steady.pure (B : Nat) (p : Prop) : Steady B (fun _ => p) := fun _ _ _ h _ _ => h
theorem Steady.and {B : Nat} {J J' : World → Prop} (h : Steady B J) (h' : Steady B J') : Steady B (fun W => J W ∧ J' W) :=
  fun W W' row hj hg hr => ⟨h W W' row hj.1 hg hr, h' W W' row hj.2 hg hr⟩
theorem Steady.ex {B : Nat} {α : Sort _} {J : α → World → Prop} (h : ∀ x, Steady B (J x)) : Steady B (fun W => ∃ x, J x W) :=
  fun W W' row ⟨x, hj⟩ hg hr => ⟨x, h x W W' row hj hg hr⟩
theorem block_keep {W W' : World} {row : Option Nat} {B k : Nat} {o : Obj} (hk : W.heap[k]? = some o) (ho : isBook o = false) (hg : W.grownBy W' row)
    (hr : ∀ r, row = some r → B ≤ r ∧ ∃ o : Obj, W.heap[r]? = some o ∧ isBook o = true) : W'.heap[k]? = some o := by
  refine (hg.block k (Array.getElem?_eq_some_iff.1 hk).1 (fun e => ?_)).trans hk
  obtain ⟨_, o', ho', hb⟩ := hr k e.symm
  rw [hk] at ho'; cases ho'; rw [ho] at hb; cases hb
theorem Steady.block (B k : Nat) {o : Obj} (ho : isBook o = false) : Steady B (fun W => W.heap[k]? = some o) := fun _ _ _ h hg hr => block_keep h ho hg hr
theorem Steady.below {n₀ B : Nat} {w₀ : World} (hn : n₀ ≤ w₀.heap.size) (hB : n₀ ≤ B) : Steady B (fun W => Below n₀ w₀ W) :=
  fun _ _ _ hs hg hr => hs.grown hg (Nat.le_trans hn hs.size) (fun k e => Nat.le_trans hB (hr k e).1)
theorem Steady.ext {B : Nat} {J : World → Prop} (h : Steady B J) {W W' : World} (hj : J W) (hb : Below W.heap.size W W') : J W' :=
  h W W' none hj ⟨hb.os, hb.tape, hb.output, hb.size, fun k hk _ => hb.block k hk⟩ (fun r e => by cases e)
theorem Steady.put {B : Nat} {J : World → Prop} (h : Steady B J) {W : World} {l : Nat} {o : Obj} (o' : Obj) (hj : J W) (hl : B ≤ l) (ho : W.heap[l]? = some o) (hb : isBook o = true) : J (W.putObj l o') :=
  h W _ (some l) hj (grownBy_putObj' W l o') (fun r e => by cases e; exact ⟨hl, o, ho, hb⟩)
def roundEnd (JN : World → Prop) (JX : Code → World → Prop) : Exit → Act → World → Prop
  | .normal, _, W => JN W
  | .ret, _, W => JX .ret W
  | .exit id, _, W => JX (.exit id) W
  | .goto t, _, W => JX (.goto t) W
  | .panic _, _, _ => False
  | .outgrown, _, _ => False
def Iter {σ α : Type} (P : Program) (gf : Nat) (lb : Array Value) (enc : α → Array Value) (ok : σ → α → Prop) (nx : σ → α → σ) (s0 : σ) (Fin : σ → Prop) (Inv : σ → World → Prop) : Prop :=
  ∀ (l : Nat) (K : σ → World → Prop) (Kx : World → Prop) (W : World),
    (∀ s W W', K s W → Below W.heap.size W W' → K s W') → (∀ W W', Kx W → Below W.heap.size W W' → Kx W') → (∀ s W, K s W → Inv s W) →
    (∀ s x W, ok s x → K s W → YieldAt Fence.wide 0 P l (enc x) W fun e W' => (e = .returned (.bool true) ∧ K (nx s x) W') ∨ (e = .returned (.bool false) ∧ Kx W')) →
    K s0 W → CallsIn Fence.wide 0 P gf (#[.func (.yield l) #[] #[]] ++ lb) W fun e W' => (∃ v, e = .returned v) ∧ ((∃ s, Fin s ∧ K s W') ∨ Kx W')
theorem range_outer {P : Program} {σ α : Type} {g : Operand} {ps : Array Tmp} {assign body : Code} {Q : Exit → Act → World → Prop} {a : Act} {w : World} {gf : Nat} {lb : Array Value}
    (hg : a.eval g = .func (.func gf) #[] lb) (eg : ∀ args w, (callFunc gf args).run P w = .ok (.enter gf args) w)
    {enc : α → Array Value} {ok : σ → α → Prop} {nx : σ → α → σ} {s0 : σ} {Fin : σ → Prop} {Inv : σ → World → Prop} (hit : Iter P gf lb enc ok nx s0 Fin Inv)
    (hps : ∀ x, (enc x).size = ps.size)
    (J : σ → World → Prop) (Jx : Code → World → Prop) (A : σ → α → Act → World → Prop)
    (hJ : ∀ s, Steady w.heap.size (J s)) (hJx : ∀ c, Steady w.heap.size (Jx c)) (hA : ∀ s x a, Steady w.heap.size (A s x a)) (hInv : ∀ s W, J s W → Inv s W)
    (h0 : J s0 w)
    (hassign : ∀ (l : Nat) (s : σ) (x : α) (W : World), ok s x → J s W →
      assign.wpIn (Fence.wide.inRound l) 0 P (Exit.then (fun a1 W1 => Keep W W1 ∧ J s W1 ∧ A s x a1 W1) (fun _ _ _ => False)) { tmps := (ps.zip (enc x)).foldl (fun t (p, v) => t.setIfInBounds p v) a.tmps, defers := [] } W)
    (hbody : ∀ (l : Nat) (s : σ) (x : α) (a1 : Act) (W : World), ok s x → J s W → A s x a1 W →
      body.wpIn (Fence.wide.inRound l) 0 P (roundEnd (fun W' => Keep W W' ∧ J (nx s x) W') (fun c W' => Keep W W' ∧ Jx c W')) a1 W)
    (hdone : ∀ (D : Nat) (s : σ) (W : World), w.heap.size ≤ D → Fin s → J s W → W.heap[D]? = some (.deferred (some [])) → Q .normal { a with defers := { target := .collected D, args := #[] } :: a.defers } W)
    (hstop : ∀ (D : Nat) (c : Code) (W : World), w.heap.size ≤ D → Jx c W → W.heap[D]? = some (.deferred (some [])) → c.wpIn Fence.wide 0 P Q { a with defers := { target := .collected D, args := #[] } :: a.defers } W) :
    (Code.rangeFunc g ps assign body).wpIn Fence.wide 0 P Q a w := by
  refine wpIn_rangeFunc ?_
  intro fn hfn
  obtain ⟨rec, hrec⟩ : ∃ rec : LoopState → Option Code → Loop, rec = fun st pe => { state := st, pending := pe, fn, tmps := a.tmps, params := ps, assign, body, defers := w.heap.size } := ⟨_, rfl⟩
  obtain ⟨W1, hW1⟩ : ∃ W1, (w.alloc (.deferred (some []))).alloc (.loop (rec .ready none)) = W1 := ⟨_, rfl⟩
  have hL1 : W1.heap[w.heap.size + 1]? = some (.loop (rec .ready none)) := by
    rw [← hW1]; have := World.alloc_heap_new (w.alloc (.deferred (some []))) (.loop (rec .ready none)); rwa [World.size_alloc] at this
  have hK1 : W1.heap[w.heap.size]? = some (.deferred (some [])) := by
    rw [← hW1]; exact (Below.heap_alloc _ _ _ (by simp)).trans (World.alloc_heap_new w _)
  have hb1 : Below w.heap.size w W1 := by
    rw [← hW1]; exact ((Below.refl _ w).alloc (Nat.le_refl _) _).alloc (by simp) _
  have hI1 : J s0 W1 := (hJ s0).ext h0 hb1
  have keepE : ∀ {W W' : World} {k : Nat} {o : Obj}, W.heap[k]? = some o → Below W.heap.size W W' → W'.heap[k]? = some o :=
    fun hk hb => (hb.block _ (Array.getElem?_eq_some_iff.1 hk).1).trans hk
  refine ⟨w.heap.size + 1, [{ target := .collected w.heap.size, args := #[] }], W1, { target := .fn (.func gf) lb, args := #[.func (.yield (w.heap.size + 1)) #[] #[]] }, W1, gf,
    #[.func (.yield (w.heap.size + 1)) #[] #[]] ++ lb, W1, ?_, ?_, ?_, ?_, fun h => by simp [Fence.wide] at h, ?_⟩
  · rw [← hW1, hrec]; exact run_enterLoop_outer _ _ _ _ _
  · simp only [resolve, hg]
    simp [go_sem]
  · intro f' hf'; trivial
  · simp [invoke, go_sem, eg]
  · refine (hit (w.heap.size + 1)
      (fun s W => J s W ∧ W.heap[w.heap.size + 1]? = some (.loop (rec .ready none)) ∧ W.heap[w.heap.size]? = some (.deferred (some [])))
      (fun W => ∃ c, Jx c W ∧ W.heap[w.heap.size + 1]? = some (.loop (rec .done (some c))) ∧ W.heap[w.heap.size]? = some (.deferred (some [])))
      W1 (fun s A B h hb => ⟨(hJ s).ext h.1 hb, keepE h.2.1 hb, keepE h.2.2 hb⟩)
      (fun A B h hb => by obtain ⟨c, h1, h2, h3⟩ := h; exact ⟨c, (hJx c).ext h1 hb, keepE h2 hb, keepE h3 hb⟩)
      (fun s W h => hInv s W h.1) ?_ ⟨hI1, hL1, hK1⟩).mono ?_
    · rintro s x W hok ⟨hi, hl, hk⟩
      have hy := run_yield (P := P) (args := enc x) hl (by rw [hrec]; exact hps x)
      rw [hrec] at hy
      refine ⟨fn, _, assign, body, hy, roundIn_of_wpIn hfn (wpIn_mono (hassign _ s x W hok hi) ?_)⟩
      rintro e a1 V hp
      cases e with
      | normal =>
        obtain ⟨hkp, hiV, hAV⟩ := hp
        have hlV := hkp _ _ hl rfl
        have hkV := hkp _ _ hk rfl
        have hlt : w.heap.size + 1 < V.heap.size := (Array.getElem?_eq_some_iff.1 hlV).1
        refine ⟨_, run_beginRound hlV (by rw [hrec]), ?_⟩
        have hl2 : (V.putObj (w.heap.size + 1) (.loop { rec .ready none with state := .busy })).heap[w.heap.size + 1]? = some (.loop { rec .ready none with state := .busy }) := World.putObj_heap_same hlt
        have hk2 : (V.putObj (w.heap.size + 1) (.loop { rec .ready none with state := .busy })).heap[w.heap.size]? = some (.deferred (some [])) := (World.putObj_heap_other (by omega)).trans hkV
        refine wpIn_mono (hbody _ s x a1 _ hok ((hJ s).put _ hiV (by omega) hlV rfl) ((hA s x a1).put _ hAV (by omega) hlV rfl)) ?_
        have fin : ∀ (jump : Option Code) (W3 : World), Keep (V.putObj (w.heap.size + 1) (.loop { rec .ready none with state := .busy })) W3 →
            (Instr.endRound (w.heap.size + 1) jump).run P W3 = .ok (.bool jump.isNone) (W3.putObj (w.heap.size + 1) (.loop (rec (if jump.isNone then .ready else .done) jump))) ∧
            W3.heap[w.heap.size + 1]? = some (.loop { rec .ready none with state := .busy }) ∧
            (W3.putObj (w.heap.size + 1) (.loop (rec (if jump.isNone then .ready else .done) jump))).heap[w.heap.size + 1]? = some (.loop (rec (if jump.isNone then .ready else .done) jump)) ∧
            (W3.putObj (w.heap.size + 1) (.loop (rec (if jump.isNone then .ready else .done) jump))).heap[w.heap.size]? = some (.deferred (some [])) := fun jump W3 hk3 => by
          have hl3 := hk3 _ _ hl2 rfl
          have := run_endRound (P := P) jump hl3
          rw [hrec] at this ⊢
          exact ⟨this, by rw [hrec] at hl3; exact hl3, World.putObj_heap_same (Array.getElem?_eq_some_iff.1 hl3).1, (World.putObj_heap_other (by omega)).trans (hk3 _ _ hk2 rfl)⟩
        rintro e a3 W3 hp
        cases e with
        | normal =>
          obtain ⟨hk3, hi3⟩ := hp
          obtain ⟨hr, hl3, hl4, hk4⟩ := fin none W3 hk3
          exact ⟨_, _, hr, .inl ⟨rfl, (hJ _).put _ hi3 (by omega) hl3 rfl, hl4, hk4⟩⟩
        | ret =>
          obtain ⟨hk3, hi3⟩ := hp
          obtain ⟨hr, hl3, hl4, hk4⟩ := fin (some .ret) W3 hk3
          exact ⟨_, _, hr, .inr ⟨rfl, .ret, (hJx _).put _ hi3 (by omega) hl3 rfl, hl4, hk4⟩⟩
        | exit id =>
          obtain ⟨hk3, hi3⟩ := hp
          obtain ⟨hr, hl3, hl4, hk4⟩ := fin (some (.exit id)) W3 hk3
          exact ⟨_, _, hr, .inr ⟨rfl, .exit id, (hJx _).put _ hi3 (by omega) hl3 rfl, hl4, hk4⟩⟩
        | goto t =>
          obtain ⟨hk3, hi3⟩ := hp
          obtain ⟨hr, hl3, hl4, hk4⟩ := fin (some (.goto t)) W3 hk3
          exact ⟨_, _, hr, .inr ⟨rfl, .goto t, (hJx _).put _ hi3 (by omega) hl3 rfl, hl4, hk4⟩⟩
        | panic ch => exact hp.elim
        | outgrown => exact hp.elim
      | exit id => exact hp.elim
      | goto t => exact hp.elim
      | ret => exact hp.elim
      | panic chain => exact hp.elim
      | outgrown => exact hp.elim
    · rintro e W2 ⟨⟨v, rfl⟩, (⟨s, hS, hi, hl, hk⟩ | ⟨c, hi, hl, hk⟩)⟩
      · exact ⟨none, _, by have := run_endLoop (P := P) hl (by rw [hrec]; simp); rw [hrec] at this; exact this, hdone _ s _ (Nat.le_refl _) hS ((hJ s).put _ hi (by omega) hl rfl) ((World.putObj_heap_other (by omega)).trans hk)⟩
      · exact ⟨some c, _, by have := run_endLoop (P := P) hl (by rw [hrec]; simp); rw [hrec] at this; exact this, hstop _ c _ (Nat.le_refl _) ((hJx c).put _ hi (by omega) hl rfl) ((World.putObj_heap_other (by omega)).trans hk)⟩
end

section
open Go.RowKit
def notDefer (o : Oper) : Bool := match o.op with | .defer _ => false | _ => true
theorem rowsIn_of {n : Nat} {P : Program} {row : String} {args : Array Value} {w : World} {R : Value → World → Prop} (l : Nat) (h : Rows P row args w R) : RowsIn (Fence.wide.inRound l) n P row args w R :=
  fun c cs _ => let ⟨v, w', r, s⟩ := h c cs; ⟨v, w', r, stepsIn_wide.2 s⟩
theorem noOut_then {K : Act → World → Prop} {Q : Exit → Act → World → Prop} (h : ¬ LetsOut Q) : ¬ LetsOut (Exit.then K Q) := h
theorem noOut_block {id : Nat} {Q : Exit → Act → World → Prop} (h : ¬ LetsOut Q) : ¬ LetsOut (Exit.inBlock id Q) := h
theorem noOut_round {JN : World → Prop} {JX : Code → World → Prop} : ¬ LetsOut (roundEnd JN JX) := fun ⟨_, _, h⟩ => h
end
end Go.Proofs.YtfpbfdkjcmlimaaGreat
