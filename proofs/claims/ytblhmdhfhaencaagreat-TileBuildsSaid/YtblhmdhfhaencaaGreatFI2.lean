/-
  A range over a function, at the wide fence: one law for the caller, one word for the iterator. No program in sight.
-/
import Derived.RangeFuncRecord
import Derived.RangeFuncLeaves
import Derived.RangeFuncSeq
import Derived.RangeFuncIn
import Derived.RangeFuncOwn
import Derived.TacticsInMore
import Derived.LoopNIn
import Derived.LoopIn
import Derived.OwnWalkIn
import Derived.RangeFuncCalls
import Derived.Shelf.RegionOpen
import Derived.Test.YtblhmdhfhaencaaGreatBR
import Derived.Deep.Quiet
import Derived.OrdersHeld
import Derived.Maps.AppendAt
import Derived.Deep.RegionHeld3
import Derived.Deep.DeepAppendRoom
import Derived.Laws.Tables
import Derived.Laws.CopyOwn
import Derived.Laws.OwnMore
import Derived.StillTailTactics
namespace Go.Proofs.YtblhmdhfhaencaaGreat
set_option linter.unusedSimpArgs false
set_option linter.unusedVariables false
set_option linter.unusedSectionVars false
set_option maxRecDepth 100000
set_option maxHeartbeats 40000000
section
open Go.RowKit
theorem wide_fn (f : FuncId) : Fence.wide.fn f = True := rfl
theorem wide_depth : Fence.wide.depth = none := rfl
theorem wide_fnR (l : Nat) (f : FuncId) : (Fence.wide.inRound l).fn f = True := rfl
theorem wide_depthR (l : Nat) : (Fence.wide.inRound l).depth = none := rfl
def isBook : Obj → Bool
  | .loop _ => true
  | .deferred _ => true
  | _ => false
def Keep (W W' : World) : Prop := ∀ (k : Nat) (o : Obj), W.heap[k]? = some o → isBook o = true → W'.heap[k]? = some o
theorem Keep.refl (W : World) : Keep W W := fun _ _ h _ => h
theorem Keep.trans {A B C : World} (h : Keep A B) (k : Keep B C) : Keep A C := fun i o hi ho => k i o (h i o hi ho) ho
theorem Keep.setCell (W : World) (a : Addr) (v : Value) : Keep W (W.setCell a v) := fun k o hk ho => by
  by_cases e : k = a.block
  · subst e;obtain ⟨hlt, hk'⟩ := Array.getElem?_eq_some_iff.1 hk;show (W.heap.modify a.block _)[a.block]? = some o;rw [Array.getElem?_eq_getElem (by rw [Array.size_modify]; exact hlt), Array.getElem_modify_self, hk'];cases o <;> first | rfl | (simp [isBook] at ho)
  · exact (Below.heap_setCell W a v k e).trans hk
theorem Keep.ext {W W' : World} (h : Below W.heap.size W W') : Keep W W' := fun k _ hk _ => (h.block k (Array.getElem?_eq_some_iff.1 hk).1).trans hk
theorem Keep.grown {W W' : World} {row : Option Nat} (hg : W.grownBy W' row) (hrow : ∀ (j : Nat) (o : Obj), row = some j → W.heap[j]? = some o → isBook o = false) : Keep W W' :=
  fun k o hk ho => by
    refine (hg.block k (Array.getElem?_eq_some_iff.1 hk).1 ?_).trans hk;intro e;rw [hrow k o e.symm hk] at ho; cases ho
def Steady (B : Nat) (J : World → Prop) : Prop :=
  ∀ W W' row, J W → W.grownBy W' row → (∀ r, row = some r → B ≤ r ∧ ∃ o : Obj, W.heap[r]? = some o ∧ isBook o = true) → J W'
theorem Steady.pure (B : Nat) (p : Prop) : Steady B (fun _ => p) := fun _ _ _ h _ _ => h
theorem Steady.and {B : Nat} {J J' : World → Prop} (h : Steady B J) (h' : Steady B J') : Steady B (fun W => J W ∧ J' W) :=
  fun W W' row hj hg hr => ⟨h W W' row hj.1 hg hr, h' W W' row hj.2 hg hr⟩
theorem Steady.ex {B : Nat} {α : Sort _} {J : α → World → Prop} (h : ∀ x, Steady B (J x)) : Steady B (fun W => ∃ x, J x W) :=
  fun W W' row ⟨x, hj⟩ hg hr => ⟨x, h x W W' row hj hg hr⟩
theorem block_keep {W W' : World} {row : Option Nat} {B k : Nat} {o : Obj} (hk : W.heap[k]? = some o) (ho : isBook o = false) (hg : W.grownBy W' row)
    (hr : ∀ r, row = some r → B ≤ r ∧ ∃ o : Obj, W.heap[r]? = some o ∧ isBook o = true) : W'.heap[k]? = some o := by
  refine (hg.block k (Array.getElem?_eq_some_iff.1 hk).1 (fun e => ?_)).trans hk
  obtain ⟨_, o', ho', hb⟩ := hr k e.symm
  rw [hk] at ho'; cases ho'; rw [ho] at hb; cases hb
theorem Steady.block (B k : Nat) {o : Obj} (ho : isBook o = false) : Steady B (fun W => W.heap[k]? = some o) := fun _ _ _ h hg hr => block_keep h ho hg hr
theorem Steady.below {n₀ B : Nat} {w₀ : World} (hn : n₀ ≤ w₀.heap.size) (hB : n₀ ≤ B) : Steady B (fun W => Below n₀ w₀ W) :=
  fun _ _ _ hs hg hr => hs.grown hg (Nat.le_trans hn hs.size) (fun k e => Nat.le_trans hB (hr k e).1)
theorem Steady.keep (B : Nat) (w₀ : World) (hB : w₀.heap.size ≤ B) : Steady B (fun W => Keep w₀ W) :=
  fun W W' row h hg hr k o hk ho => by
    have h1 := h k o hk ho;refine (hg.block k (Array.getElem?_eq_some_iff.1 h1).1 (fun e => ?_)).trans h1;have := (hr k e.symm).1;have := (Array.getElem?_eq_some_iff.1 hk).1;omega
theorem Steady.ownsRow (B : Nat) (base : Nat) (e : TypeId) (size : Nat) (v : Value) (n : Nat) (xs : List Value) : Steady B (fun W => W.ownsRow base e size v n xs) :=
  fun W W' row h hg hr => by
    refine ⟨h.1, ?_⟩;rcases h.2 with h2 | ⟨g, cap, cur, hv, hb, hh, r⟩
    · exact Or.inl h2
    · exact Or.inr ⟨g, cap, cur, hv, hb, block_keep hh rfl hg hr, r⟩
theorem Steady.ext {B : Nat} {J : World → Prop} (h : Steady B J) {W W' : World} (hj : J W) (hb : Below W.heap.size W W') : J W' :=
  h W W' none hj ⟨hb.os, hb.tape, hb.output, hb.size, fun k hk _ => hb.block k hk⟩ (fun r e => by cases e)
theorem Steady.put {B : Nat} {J : World → Prop} (h : Steady B J) {W : World} {l : Nat} {o : Obj} (o' : Obj) (hj : J W) (hl : B ≤ l) (ho : W.heap[l]? = some o) (hb : isBook o = true) : J (W.putObj l o') :=
  h W _ (some l) hj (grownBy_putObj' W l o') (fun r e => by cases e; exact ⟨hl, o, ho, hb⟩)
def roundEnd (JN : World → Prop) (JX : Code → World → Prop) : Exit → Act → World → Prop
  | .normal, _, W => JN W
  | .ret, _, W => JX .ret W
  | .exit id, _, W => JX (.exit id) W
  | .goto t, _, W => JX (.goto t) W
  | .panic _, _, _ => False
  | .outgrown, _, _ => False
def Iter {σ α : Type} (P : Program) (gf : Nat) (lb : Array Value) (enc : α → Array Value) (ok : σ → α → Prop) (nx : σ → α → σ) (s0 : σ) (Fin : σ → Prop) (Inv : σ → World → Prop) : Prop :=
  ∀ (l : Nat) (K : σ → World → Prop) (Kx : World → Prop) (W : World),
    (∀ s W W', K s W → Below W.heap.size W W' → K s W') → (∀ W W', Kx W → Below W.heap.size W W' → Kx W') → (∀ s W, K s W → Inv s W) →
    (∀ s x W, ok s x → K s W → YieldAt Fence.wide 0 P l (enc x) W fun e W' => (e = .returned (.bool true) ∧ K (nx s x) W') ∨ (e = .returned (.bool false) ∧ Kx W')) →
    K s0 W → CallsIn Fence.wide 0 P gf (#[.func (.yield l) #[] #[]] ++ lb) W fun e W' => (∃ v, e = .returned v) ∧ ((∃ s, Fin s ∧ K s W') ∨ Kx W')
theorem range_outer {P : Program} {σ α : Type} {g : Operand} {ps : Array Tmp} {assign body : Code} {Q : Exit → Act → World → Prop} {a : Act} {w : World} {gf : Nat} {lb : Array Value}
    (hg : a.eval g = .func (.func gf) #[] lb) (eg : ∀ args w, (callFunc gf args).run P w = .ok (.enter gf args) w)
    {enc : α → Array Value} {ok : σ → α → Prop} {nx : σ → α → σ} {s0 : σ} {Fin : σ → Prop} {Inv : σ → World → Prop} (hit : Iter P gf lb enc ok nx s0 Fin Inv)
    (hps : ∀ x, (enc x).size = ps.size)
    (J : σ → World → Prop) (Jx : Code → World → Prop) (A : σ → α → Act → World → Prop)
    (hJ : ∀ s, Steady w.heap.size (J s)) (hJx : ∀ c, Steady w.heap.size (Jx c)) (hA : ∀ s x a, Steady w.heap.size (A s x a)) (hInv : ∀ s W, J s W → Inv s W)
    (h0 : J s0 w)
    (hassign : ∀ (l : Nat) (s : σ) (x : α) (W : World), ok s x → J s W →
      assign.wpIn (Fence.wide.inRound l) 0 P (Exit.then (fun a1 W1 => Keep W W1 ∧ J s W1 ∧ A s x a1 W1) (fun _ _ _ => False)) { tmps := (ps.zip (enc x)).foldl (fun t (p, v) => t.setIfInBounds p v) a.tmps, defers := [] } W)
    (hbody : ∀ (l : Nat) (s : σ) (x : α) (a1 : Act) (W : World), ok s x → J s W → A s x a1 W →
      body.wpIn (Fence.wide.inRound l) 0 P (roundEnd (fun W' => Keep W W' ∧ J (nx s x) W') (fun c W' => Keep W W' ∧ Jx c W')) a1 W)
    (hdone : ∀ (D : Nat) (s : σ) (W : World), w.heap.size ≤ D → Fin s → J s W → W.heap[D]? = some (.deferred (some [])) → Q .normal { a with defers := { target := .collected D, args := #[] } :: a.defers } W)
    (hstop : ∀ (D : Nat) (c : Code) (W : World), w.heap.size ≤ D → Jx c W → W.heap[D]? = some (.deferred (some [])) → c.wpIn Fence.wide 0 P Q { a with defers := { target := .collected D, args := #[] } :: a.defers } W) :
    (Code.rangeFunc g ps assign body).wpIn Fence.wide 0 P Q a w := by
  refine wpIn_rangeFunc ?_
  intro fn hfn
  obtain ⟨rec, hrec⟩ : ∃ rec : LoopState → Option Code → Loop, rec = fun st pe => { state := st, pending := pe, fn, tmps := a.tmps, params := ps, assign, body, defers := w.heap.size } := ⟨_, rfl⟩
  obtain ⟨W1, hW1⟩ : ∃ W1, (w.alloc (.deferred (some []))).alloc (.loop (rec .ready none)) = W1 := ⟨_, rfl⟩
  have hL1 : W1.heap[w.heap.size + 1]? = some (.loop (rec .ready none)) := by
    rw [← hW1]; have := World.alloc_heap_new (w.alloc (.deferred (some []))) (.loop (rec .ready none)); rwa [World.size_alloc] at this
  have hK1 : W1.heap[w.heap.size]? = some (.deferred (some [])) := by
    rw [← hW1]; exact (Below.heap_alloc _ _ _ (by simp)).trans (World.alloc_heap_new w _)
  have hb1 : Below w.heap.size w W1 := by
    rw [← hW1]; exact ((Below.refl _ w).alloc (Nat.le_refl _) _).alloc (by simp) _
  have hI1 : J s0 W1 := (hJ s0).ext h0 hb1
  have keepE : ∀ {W W' : World} {k : Nat} {o : Obj}, W.heap[k]? = some o → Below W.heap.size W W' → W'.heap[k]? = some o :=
    fun hk hb => (hb.block _ (Array.getElem?_eq_some_iff.1 hk).1).trans hk
  refine ⟨w.heap.size + 1, [{ target := .collected w.heap.size, args := #[] }], W1, { target := .fn (.func gf) lb, args := #[.func (.yield (w.heap.size + 1)) #[] #[]] }, W1, gf,
    #[.func (.yield (w.heap.size + 1)) #[] #[]] ++ lb, W1, ?_, ?_, ?_, ?_, fun h => by simp [Fence.wide] at h, ?_⟩
  · rw [← hW1, hrec]; exact run_enterLoop_outer _ _ _ _ _
  · simp only [resolve, hg];simp [go_sem]
  · intro f' hf'; trivial
  · simp [invoke, go_sem, eg]
  · refine (hit (w.heap.size + 1)
      (fun s W => J s W ∧ W.heap[w.heap.size + 1]? = some (.loop (rec .ready none)) ∧ W.heap[w.heap.size]? = some (.deferred (some [])))
      (fun W => ∃ c, Jx c W ∧ W.heap[w.heap.size + 1]? = some (.loop (rec .done (some c))) ∧ W.heap[w.heap.size]? = some (.deferred (some [])))
      W1 (fun s A B h hb => ⟨(hJ s).ext h.1 hb, keepE h.2.1 hb, keepE h.2.2 hb⟩)
      (fun A B h hb => by obtain ⟨c, h1, h2, h3⟩ := h; exact ⟨c, (hJx c).ext h1 hb, keepE h2 hb, keepE h3 hb⟩)
      (fun s W h => hInv s W h.1) ?_ ⟨hI1, hL1, hK1⟩).mono ?_
    · rintro s x W hok ⟨hi, hl, hk⟩;have hy := run_yield (P := P) (args := enc x) hl (by rw [hrec]; exact hps x);rw [hrec] at hy;refine ⟨fn, _, assign, body, hy, roundIn_of_wpIn hfn (wpIn_mono (hassign _ s x W hok hi) ?_)⟩;rintro e a1 V hp;cases e with
      | normal =>
        obtain ⟨hkp, hiV, hAV⟩ := hp;have hlV := hkp _ _ hl rfl;have hkV := hkp _ _ hk rfl;have hlt : w.heap.size + 1 < V.heap.size := (Array.getElem?_eq_some_iff.1 hlV).1;refine ⟨_, run_beginRound hlV (by rw [hrec]), ?_⟩;have hl2 : (V.putObj (w.heap.size + 1) (.loop { rec .ready none with state := .busy })).heap[w.heap.size + 1]? = some (.loop { rec .ready none with state := .busy }) := World.putObj_heap_same hlt;have hk2 : (V.putObj (w.heap.size + 1) (.loop { rec .ready none with state := .busy })).heap[w.heap.size]? = some (.deferred (some [])) := (World.putObj_heap_other (by omega)).trans hkV;refine wpIn_mono (hbody _ s x a1 _ hok ((hJ s).put _ hiV (by omega) hlV rfl) ((hA s x a1).put _ hAV (by omega) hlV rfl)) ?_;have fin : ∀ (jump : Option Code) (W3 : World), Keep (V.putObj (w.heap.size + 1) (.loop { rec .ready none with state := .busy })) W3 →
            (Instr.endRound (w.heap.size + 1) jump).run P W3 = .ok (.bool jump.isNone) (W3.putObj (w.heap.size + 1) (.loop (rec (if jump.isNone then .ready else .done) jump))) ∧
            W3.heap[w.heap.size + 1]? = some (.loop { rec .ready none with state := .busy }) ∧
            (W3.putObj (w.heap.size + 1) (.loop (rec (if jump.isNone then .ready else .done) jump))).heap[w.heap.size + 1]? = some (.loop (rec (if jump.isNone then .ready else .done) jump)) ∧
            (W3.putObj (w.heap.size + 1) (.loop (rec (if jump.isNone then .ready else .done) jump))).heap[w.heap.size]? = some (.deferred (some [])) := fun jump W3 hk3 => by
          have hl3 := hk3 _ _ hl2 rfl;have := run_endRound (P := P) jump hl3;rw [hrec] at this ⊢;exact ⟨this, by rw [hrec] at hl3; exact hl3, World.putObj_heap_same (Array.getElem?_eq_some_iff.1 hl3).1, (World.putObj_heap_other (by omega)).trans (hk3 _ _ hk2 rfl)⟩
        rintro e a3 W3 hp;cases e with
        | normal =>
          obtain ⟨hk3, hi3⟩ := hp;obtain ⟨hr, hl3, hl4, hk4⟩ := fin none W3 hk3;exact ⟨_, _, hr, .inl ⟨rfl, (hJ _).put _ hi3 (by omega) hl3 rfl, hl4, hk4⟩⟩
        | ret =>
          obtain ⟨hk3, hi3⟩ := hp;obtain ⟨hr, hl3, hl4, hk4⟩ := fin (some .ret) W3 hk3;exact ⟨_, _, hr, .inr ⟨rfl, .ret, (hJx _).put _ hi3 (by omega) hl3 rfl, hl4, hk4⟩⟩
        | exit id =>
          obtain ⟨hk3, hi3⟩ := hp;obtain ⟨hr, hl3, hl4, hk4⟩ := fin (some (.exit id)) W3 hk3;exact ⟨_, _, hr, .inr ⟨rfl, .exit id, (hJx _).put _ hi3 (by omega) hl3 rfl, hl4, hk4⟩⟩
        | goto t =>
          obtain ⟨hk3, hi3⟩ := hp;obtain ⟨hr, hl3, hl4, hk4⟩ := fin (some (.goto t)) W3 hk3;exact ⟨_, _, hr, .inr ⟨rfl, .goto t, (hJx _).put _ hi3 (by omega) hl3 rfl, hl4, hk4⟩⟩
        | panic ch => exact hp.elim
        | outgrown => exact hp.elim
      | exit id => exact hp.elim
      | goto t => exact hp.elim
      | ret => exact hp.elim
      | panic chain => exact hp.elim
      | outgrown => exact hp.elim
    · rintro e W2 ⟨⟨v, rfl⟩, (⟨s, hS, hi, hl, hk⟩ | ⟨c, hi, hl, hk⟩)⟩
      · exact ⟨none, _, by have := run_endLoop (P := P) hl (by rw [hrec]; simp); rw [hrec] at this; exact this, hdone _ s _ (Nat.le_refl _) hS ((hJ s).put _ hi (by omega) hl rfl) ((World.putObj_heap_other (by omega)).trans hk)⟩
      · exact ⟨some c, _, by have := run_endLoop (P := P) hl (by rw [hrec]; simp); rw [hrec] at this; exact this, hstop _ c _ (Nat.le_refl _) ((hJx c).put _ hi (by omega) hl rfl) ((World.putObj_heap_other (by omega)).trans hk)⟩
end

section
open Go.RowKit
def notDefer (o : Oper) : Bool := match o.op with | .defer _ => false | _ => true
theorem rowsIn_of {n : Nat} {P : Program} {row : String} {args : Array Value} {w : World} {R : Value → World → Prop} (l : Nat) (h : Rows P row args w R) : RowsIn (Fence.wide.inRound l) n P row args w R :=
  fun c cs _ => let ⟨v, w', r, s⟩ := h c cs; ⟨v, w', r, stepsIn_wide.2 s⟩
theorem wpOpsIn_of {P : Program} {ops : Array Oper} {Q : Exit → Act → World → Prop} (l : Nat) (hn : ∀ (i : Nat) (o : Oper), ops[i]? = some o → notDefer o = true) (hQ : ¬ LetsOut Q) :
    ∀ (order : List Nat) (a : Act) (w : World), wpOps P ops Q order a w → wpOpsIn (Fence.wide.inRound l) 0 P ops Q order a w := by
  intro order
  induction order with
  | nil => intro a w h; exact h
  | cons i rest ih =>
    intro a w h;simp only [wpOps, wpOpsIn] at h ⊢;cases ho : ops[i]? with
    | none => simp only [ho] at h ⊢; exact ih a w h
    | some o =>
      simp only [ho] at h ⊢;by_cases hw : Region.wanted o (yielded ops a.tmps) = true
      · simp only [hw, if_true] at h ⊢;rcases h with h | ⟨_, h⟩
        · refine ⟨fun _ _ => trivial, ?_⟩;have hs : Oper.semAt (Fence.wide.inRound l).round a.eval o = execOp a.eval o := Oper.semAt_some l _ _ (fun c hc => by have := hn i o ho; simp [notDefer, hc] at this);rw [hs];unfold Oper.wp at h;generalize (execOp a.eval o).run P w = r at h;cases r with
          | ok nx w' =>
            cases nx <;> simp only [Oper.upon, Oper.uponIn] at h ⊢ <;> first
              | exact ih _ _ h
              | exact ⟨fun hh => by simp [Fence.wide, Fence.inRound] at hh, (CallsIn.inRound l (callsIn_wide.2 (h.mono (fun e w'' he => by cases e <;> first | exact ih _ _ he | exact he))))⟩
              | exact ⟨fun hh => by simp [Fence.wide, Fence.inRound] at hh, rowsIn_of l (h.mono (fun v w'' hv => ih _ _ hv))⟩
              | exact h.elim
          | halt x w' => cases x <;> simp only [Oper.upon, Oper.uponIn] at h ⊢ <;> exact h
        · exact absurd h hQ
      · simp only [hw] at h ⊢;exact ⟨fun _ _ => trivial, ih _ _ h⟩
theorem noOut_then {K : Act → World → Prop} {Q : Exit → Act → World → Prop} (h : ¬ LetsOut Q) : ¬ LetsOut (Exit.then K Q) := h
theorem noOut_block {id : Nat} {Q : Exit → Act → World → Prop} (h : ¬ LetsOut Q) : ¬ LetsOut (Exit.inBlock id Q) := h
theorem noOut_round {JN : World → Prop} {JX : Code → World → Prop} : ¬ LetsOut (roundEnd JN JX) := fun ⟨_, _, h⟩ => h
end

section
open Go.RowKit
structure ExtW (w : World) where
  val : World
  ext : Below w.heap.size w val
instance (w : World) : Nonempty (ExtW w) := ⟨⟨w, Below.refl _ _⟩⟩
theorem ExtW.cell {w : World} {p : Addr} {v : Value} (h : w.cell? p = some v) (n : ExtW w) : n.val.cell? p = some v := cell_ext n.ext h
theorem quiet_ext {P : Program} {f : FuncId} {args : Array Value} {w : World} {n : ExtW w} {v : Value}
    (h : Calls P f args n.val fun e w' => e = .returned v ∧ Below n.val.heap.size n.val w') : Calls P f args n.val fun e w'' => e = .returned v ∧ ∃ m : ExtW w, w'' = m.val :=
  h.mono fun _ w' ⟨he, hb⟩ => ⟨he, ⟨w', ext_trans n.ext hb⟩, rfl⟩
theorem quiet_ext_same {P : Program} {f : FuncId} {args : Array Value} {w : World} {n : ExtW w} {v : Value}
    (h : Calls P f args n.val fun e w' => e = .returned v ∧ n.val = w') : Calls P f args n.val fun e w'' => e = .returned v ∧ ∃ m : ExtW w, w'' = m.val :=
  h.mono fun _ _ ⟨he, hb⟩ => ⟨he, n, hb.symm⟩
theorem region_ext {P : Program} {id : Nat} {Q : Exit → Act → World → Prop} {a : Act} {w : World} {ol : List Oper} (hm : P.follows .mixedOrders = true) (hB : Region.lexB .any ol.toArray = true)
    (h : wpQuiet P ol.toArray (fun w' => ∃ n : ExtW w, w' = n.val) (fun a' => ∀ w', (∃ n : ExtW w, w' = n.val) → Q .normal a' w') ol a) : (Code.region id ol.toArray true).wp P Q a w :=
  wp_region_quiet (C := fun w' => ∃ n : ExtW w, w' = n.val) hm hB ⟨⟨_, ext_drewN (Below.refl _ _) 1⟩, rfl⟩ (by simpa using h)
structure ClsW (F : World → Prop) where
  val : World
  prop : F val
theorem cls_mk {F : World → Prop} {w : World} (h : F w) : ∃ n : ClsW F, w = n.val := ⟨⟨w, h⟩, rfl⟩
theorem cls_ne {F : World → Prop} {w : World} (h : F w) : Nonempty (ClsW F) := ⟨⟨w, h⟩⟩
def valOp (o : Oper) : Bool := match o.op with
  | .move _ | .assign _ | .pick .. | .build .. | .load .. | .binOp .. | .unOp .. | .convert .. | .slice .. | .fieldAddr .. | .field .. | .indexAddr .. | .index .. | .lookup .. | .extract .. | .makeInterface .. => true
  | .nilCheck _ => true
  | .call { callee := .builtin .len, .. } | .call { callee := .builtin .cap, .. } | .call { callee := .builtin .max, .. } | .call { callee := .builtin .min, .. } => true
  | _ => false
def IsVal (r : Result Next) : Prop := (∃ v w, r = .ok (.value v) w) ∨ ∃ h w, r = .halt h w
theorem isVal_v {P : Program} (s : Sem Value) (w : World) : IsVal ((do pure (Next.value (← s)) : Sem Next).run P w) := by
  rw [Sem.run_bind]
  cases s.run P w with
  | ok x w' => exact Or.inl ⟨x, w', by simp [Result.andThen]⟩
  | halt h w' => exact Or.inr ⟨h, w', by simp [Result.andThen]⟩
theorem isVal_value {P : Program} (v : Value) (w : World) : IsVal ((pure (Next.value v) : Sem Next).run P w) := Or.inl ⟨v, w, by simp⟩
theorem isVal_bind {α : Type} {P : Program} (s : Sem α) (k : α → Sem Next) (w : World) (hk : ∀ x w, IsVal ((k x).run P w)) : IsVal ((s >>= k).run P w) := by
  rw [Sem.run_bind]
  cases s.run P w with
  | ok x w' => simpa [Result.andThen] using hk x w'
  | halt h w' => exact Or.inr ⟨h, w', by simp [Result.andThen]⟩
theorem isVal_builtin {P : Program} (b : Builtin) (hb : b = .len ∨ b = .cap ∨ b = .max ∨ b = .min) (ts : Array TypeId) (t : TypeId) (cs : Array Bool) (args : Array Value) (w : World) : IsVal ((builtin b ts t cs args).run P w) := by
  rcases hb with rfl | rfl | rfl | rfl <;> exact isVal_v _ _
theorem isVal_call {P : Program} (ρ : Operand → Value) (c : Call) (b : Builtin) (hc : c.callee = .builtin b) (hb : b = .len ∨ b = .cap ∨ b = .max ∨ b = .min) (t : TypeId) (w : World) :
    IsVal ((do let d ← resolve ρ c t; invoke d.target d.args : Sem Next).run P w) := by
  simp only [resolve, hc, Sem.run_bind, Sem.run_pure, Result.andThen]
  exact isVal_builtin b hb _ _ _ _ _
theorem isVal_panic {P : Program} (w : World) : IsVal ((runtimePanic .nilDeref : Sem Next).run P w) := by
  refine Or.inr ?_
  simp [runtimePanic, Sem.run_bind, program, goPanic, Sem.run, Result.andThen]
theorem isVal_op {P : Program} (ρ : Operand → Value) (o : Oper) (h : valOp o = true) (w : World) : IsVal ((execOp ρ o).run P w) := by
  unfold valOp at h
  unfold execOp
  cases ho : o.op with
  | call c =>
    simp only [ho] at h ⊢;obtain ⟨callee, args, ts⟩ := c;cases callee with
    | builtin b => cases b <;> simp at h <;> exact isVal_call ρ _ _ rfl (by simp) _ _
    | value f => simp at h
    | invoke r m => simp at h
  | nilCheck x =>
    simp only
    split
    · exact isVal_panic w
    · exact isVal_panic w
    · exact isVal_panic w
    · split
      · exact isVal_panic w
      · exact isVal_bind _ _ _ (fun p w => isVal_bind _ _ _ (fun y w => by
          split
          · exact isVal_bind _ _ _ (fun _ w => isVal_value _ _)
          · exact isVal_value _ _))
      · exact isVal_value _ _
    · exact isVal_value _ _
  | move x => exact isVal_value _ _
  | assign x => exact isVal_value _ _
  | pick c a b => exact isVal_bind _ _ _ (fun x w => isVal_value _ _)
  | _ => simp only [ho] at h <;> first | exact isVal_v _ _ | (simp at h; done)
def wpMix (P : Program) (l : List Oper) (S : World → Prop) (Q : Exit → Act → World → Prop) : List (Nat × Nat × Option (Nat × Bool)) → Act → World → Prop
  | [], a, w => Q .normal a w
  | (i, n, none) :: rest, a, w => wpQuiet P l.toArray S (fun a' => wpMix P l S Q rest a' w) ((l.drop i).take n) a
  | (i, n, some (e, true)) :: rest, a, w => wpQuiet P l.toArray S (fun a' => wpOp P l.toArray Q e (fun a'' w'' => S w'' ∧ wpMix P l S Q rest a'' w'') a' w) ((l.drop i).take n) a
  | (i, n, some (e, false)) :: rest, a, w => wpQuiet P l.toArray S (fun a' => wpOp P l.toArray Q e (fun a'' w'' => wpMix P l S Q rest a'' w'') a' w) ((l.drop i).take n) a
def waits (l : List Oper) : Nat → Nat → Nat → Bool
  | 0, j, i => match l[j]? with
    | some o => o.after.any fun e => Region.binds .any e && e.on == i
    | none => false
  | n + 1, j, i => waits l 0 j i || (match l[j]? with
    | some o => o.after.any fun e => Region.binds .any e && waits l n e.on i
    | none => false)
def maskOf (acc : List Nat) (o : Oper) : Nat := o.after.toList.foldl (fun m e => if Region.binds .any e then m ||| (1 <<< e.on) ||| acc.getD e.on 0 else m) 0
def masks : List Oper → List Nat → List Nat
  | [], acc => acc
  | o :: l, acc => masks l (acc ++ [maskOf acc o])
def reach (l : List Oper) (j i : Nat) : Bool := ((masks l []).getD j 0).testBit i
def aloneB (l : List Oper) (j : Nat) : Bool := (List.range l.length).all fun i => i == j || waits l 3 j i || waits l 3 i j || reach l j i || reach l i j
theorem maskOf_bit (acc : List Nat) (i : Nat) : ∀ (es : List Edge) (m : Nat), (es.foldl (fun m e => if Region.binds .any e then m ||| (1 <<< e.on) ||| acc.getD e.on 0 else m) m).testBit i = true → m.testBit i = true ∨ ∃ e ∈ es, Region.binds .any e = true ∧ (e.on = i ∨ (acc.getD e.on 0).testBit i = true)
  | [], m, h => Or.inl h
  | e :: es, m, h => by
    rw [List.foldl_cons] at h;rcases maskOf_bit acc i es _ h with h1 | ⟨e', he', hb⟩
    · by_cases hb : Region.binds .any e = true
      · rw [if_pos hb, Nat.testBit_or, Nat.testBit_or, Bool.or_eq_true, Bool.or_eq_true] at h1;rcases h1 with (h1 | h1) | h1
        · exact Or.inl h1
        · refine Or.inr ⟨e, by simp, hb, Or.inl ?_⟩;rw [Nat.one_shiftLeft, Nat.testBit_two_pow] at h1;exact of_decide_eq_true h1
        · exact Or.inr ⟨e, by simp, hb, Or.inr h1⟩
      · rw [if_neg hb] at h1;exact Or.inl h1
    · exact Or.inr ⟨e', by simp [he'], hb⟩
theorem masks_sound (l : List Oper) : ∀ (l2 : List Oper) (acc : List Nat), l.drop acc.length = l2 → (∀ j i, (acc.getD j 0).testBit i = true → ∃ n, waits l n j i = true) → ∀ j i, ((masks l2 acc).getD j 0).testBit i = true → ∃ n, waits l n j i = true
  | [], acc, _, hacc => hacc
  | o :: l2, acc, hd, hacc => by
    have ho : l[acc.length]? = some o := by
      have : (l.drop acc.length)[0]? = some o := by rw [hd]; rfl
      rwa [List.getElem?_drop, Nat.add_zero] at this
    refine masks_sound l l2 (acc ++ [maskOf acc o]) ?_ ?_
    · have : l.drop (acc.length + 1) = l2 := by rw [← List.drop_drop, hd]; rfl
      simpa using this
    · intro j i h;by_cases hj : j < acc.length
      · rw [List.getD_eq_getElem?_getD, List.getElem?_append_left hj, ← List.getD_eq_getElem?_getD] at h;exact hacc j i h
      · by_cases hj2 : j = acc.length
        · subst hj2;rw [List.getD_eq_getElem?_getD, List.getElem?_append_right (Nat.le_refl _), Nat.sub_self] at h;rcases maskOf_bit acc i o.after.toList 0 h with h0 | ⟨e, he, hb, h1⟩
          · simp at h0
          · have he' : e ∈ o.after := by simpa using he
            rcases h1 with rfl | h1
            · refine ⟨0, ?_⟩;unfold waits;rw [ho];exact Array.any_eq_true'.2 ⟨e, he', by simp [hb]⟩
            · obtain ⟨n, hn⟩ := hacc _ _ h1;refine ⟨n + 1, ?_⟩;rw [waits, ho, Bool.or_eq_true];exact Or.inr (Array.any_eq_true'.2 ⟨e, he', by simp [hb, hn]⟩)
        · rw [List.getD_eq_getElem?_getD, List.getElem?_eq_none (by simp; omega)] at h;simp at h
theorem reach_sound {l : List Oper} {j i : Nat} (h : reach l j i = true) : ∃ n, waits l n j i = true :=
  masks_sound l l [] rfl (fun j i h => by simp at h) j i h
def Closed (l : List Oper) (listed : Array Bool) : Prop := ∀ (j : Nat) (o : Oper), l.toArray[j]? = some o → listed.getD j false = true → ∀ e ∈ o.after, Region.binds .any e = true → listed.getD e.on false = true
def okReads (l : List Oper) : Nat → Nat → Array Bool → Option (Array Bool)
  | 0, _, listed => some listed
  | n + 1, i, listed =>
    if (Region.ready .any l.toArray listed).contains i && Region.free .any l.toArray listed i && ((l[i]?).map valOp).getD false then okReads l n (i + 1) (listed.setIfInBounds i true) else none
def okMix (l : List Oper) : List (Nat × Nat × Option (Nat × Bool)) → Array Bool → Bool
  | [], listed => (Region.ready .any l.toArray listed).isEmpty
  | (i, n, e) :: rest, listed =>
    match okReads l n i listed with
    | none => false
    | some listed' =>
      match e with
      | none => okMix l rest listed'
      | some (k, true) => Region.ready .any l.toArray listed' == [k] && okMix l rest (listed'.setIfInBounds k true)
      | some (k, false) => Region.ready .any l.toArray listed' == [k] && okMix l rest (listed'.setIfInBounds k true) && aloneB l k && rest.isEmpty
section
variable {P : Program} {l : List Oper} {S : World → Prop} {Q : Exit → Act → World → Prop}
theorem waits_listed {listed : Array Bool} (hc : Closed l listed) : ∀ (n j i : Nat), listed.getD j false = true → waits l n j i = true → listed.getD i false = true := by
  intro n
  induction n with
  | zero =>
    intro j i hj h;unfold waits at h
    split at h
    · rename_i o ho
      obtain ⟨e, he, hb⟩ := Array.any_eq_true'.1 h;simp only [Bool.and_eq_true, beq_iff_eq] at hb;exact hb.2 ▸ hc j o (by simpa using ho) hj e he hb.1
    · cases h
  | succ n ih =>
    intro j i hj h;have h0 : ∀ (h : waits l 0 j i = true), listed.getD i false = true := fun h => by
      unfold waits at h
      split at h
      · rename_i o ho
        obtain ⟨e, he, hb⟩ := Array.any_eq_true'.1 h;simp only [Bool.and_eq_true, beq_iff_eq] at hb;exact hb.2 ▸ hc j o (by simpa using ho) hj e he hb.1
      · cases h
    rw [waits, Bool.or_eq_true] at h;rcases h with h | h
    · exact h0 h
    · split at h
      · rename_i o ho
        obtain ⟨e, he, hb⟩ := Array.any_eq_true'.1 h;simp only [Bool.and_eq_true] at hb;exact ih _ _ (hc j o (by simpa using ho) hj e he hb.1) hb.2
      · cases h
theorem waits_ready {listed : Array Bool} (hc : Closed l listed) {n j i : Nat} (hj : j ∈ Region.ready .any l.toArray listed) (h : waits l n j i = true) : listed.getD i false = true := by
  obtain ⟨_, o, ho, hall⟩ := mem_ready.1 hj
  have ho' : l[j]? = some o := by simpa using ho
  have h0 : ∀ (h : waits l 0 j i = true), listed.getD i false = true := fun h => by
    unfold waits at h;rw [ho'] at h;obtain ⟨e, he, hb⟩ := Array.any_eq_true'.1 h;simp only [Bool.and_eq_true, beq_iff_eq] at hb;exact hb.2 ▸ hall e he hb.1
  cases n with
  | zero => exact h0 h
  | succ n =>
    rw [waits, Bool.or_eq_true] at h;rcases h with h | h
    · exact h0 h
    · rw [ho'] at h;obtain ⟨e, he, hb⟩ := Array.any_eq_true'.1 h;simp only [Bool.and_eq_true] at hb;exact waits_listed hc n _ _ (hall e he hb.1) hb.2
theorem Closed.set {listed : Array Bool} (hc : Closed l listed) {i : Nat} (hi : i ∈ Region.ready .any l.toArray listed) : Closed l (listed.setIfInBounds i true) := by
  intro j o ho hl e he hb
  obtain ⟨_, oi, hoi, hall⟩ := mem_ready.1 hi
  by_cases hij : i = j
  · subst hij;rw [ho] at hoi; cases hoi;exact getD_set_true (hall e he hb)
  · rw [getD_set_ne false hij] at hl;exact getD_set_true (hc j o ho hl e he hb)
theorem closed_none (n : Nat) : Closed l (Array.replicate n false) := by
  intro j o _ hl
  rcases Nat.lt_or_ge j n with h | h
  · simp [h] at hl
  · simp [h] at hl
theorem not_both {i j : Nat} {listed : Array Bool} (hc : Closed l listed) (n : Nat) (hi : i ∈ Region.ready .any l.toArray listed) (hj : j ∈ Region.ready .any l.toArray listed) : waits l n j i = false := by
  cases h : waits l n j i with
  | false => rfl
  | true =>
    have h1 := waits_ready hc hj h;have h0 := (mem_ready.1 hi).1;rcases Nat.lt_or_ge i listed.size with h' | h'
    · simp [h'] at h0 h1; rw [h0] at h1; cases h1
    · simp [Array.getElem?_eq_none h'] at h1
theorem not_reach {i j : Nat} {listed : Array Bool} (hc : Closed l listed) (hi : i ∈ Region.ready .any l.toArray listed) (hj : j ∈ Region.ready .any l.toArray listed) : reach l j i = false := by
  cases h : reach l j i with
  | false => rfl
  | true =>
    obtain ⟨n, hn⟩ := reach_sound h;rw [not_both hc n hi hj] at hn;cases hn
theorem not_alone {i j : Nat} {listed : Array Bool} (hc : Closed l listed) (hi : i ∈ Region.ready .any l.toArray listed) (hj : j ∈ Region.ready .any l.toArray listed) (hne : i ≠ j) : aloneB l j = false := by
  cases h : aloneB l j with
  | false => rfl
  | true =>
    unfold aloneB at h;rw [List.all_eq_true] at h;have hlt : i < l.length := by
      obtain ⟨_, o, ho, _⟩ := mem_ready.1 hi;have := (Array.getElem?_eq_some_iff.1 ho).1;simpa using this
    have := h i (List.mem_range.2 hlt);simp only [Bool.or_eq_true, beq_iff_eq, not_both hc 3 hi hj, not_both hc 3 hj hi, not_reach hc hi hj, not_reach hc hj hi, hne] at this;simp at this
def wpAnyZ (P : Program) (l : List Oper) (Q : Exit → Act → World → Prop) (S : World → Prop) : Nat → Array Bool → Act → World → Prop
  | 0, listed, a, w => Region.ready .any l.toArray listed = [] ∧ Q .normal a w
  | fuel + 1, listed, a, w =>
    (Region.ready .any l.toArray listed = [] → Q .normal a w) ∧
    ∀ i ∈ Region.ready .any l.toArray listed, wpOp P l.toArray Q i (fun a' w' => (aloneB l i = true ∨ S w') ∧ wpAnyZ P l Q S fuel (listed.setIfInBounds i true) a' w') a w
theorem wpAny_of_Z : ∀ (fuel : Nat) (listed : Array Bool) (a : Act) (w : World), wpAnyZ P l Q S fuel listed a w → wpAny P .any l.toArray Q fuel listed a w
  | 0, _, _, _, h => h
  | fuel + 1, _, _, _, h => ⟨h.1, fun i hi => wpOp_mono (fun a' w' h' => wpAny_of_Z fuel _ a' w' h'.2) (h.2 i hi)⟩
theorem wpAnyZ_first {i : Nat} {oi : Oper} {v : Value} (hi : l.toArray[i]? = some oi) (hs : Region.noSelect l.toArray = true) (hQ : ∀ c a w, ¬ Q (.panic c) a w) :
    ∀ (fuel : Nat) (listed : Array Bool) (a : Act) (w : World), Closed l listed → Region.free .any l.toArray listed i = true → i ∈ Region.ready .any l.toArray listed → YieldsIf P l.toArray S oi v a → S w →
      wpAnyZ P l Q S fuel (listed.setIfInBounds i true) (a.put oi.dst v) w → wpAnyZ P l Q S (fuel + 1) listed a w := by
  have hsel := Region.noSelect_spec hs
  have key : ∀ (fuel : Nat) (listed : Array Bool) (a : Act) (w : World), Closed l listed →
      (∀ j oj, l.toArray[j]? = some oj → j ≠ i → listed.getD j true = false → (∀ e ∈ oj.after, Region.binds .any e = true → e.on ≠ i) → oi.apart l.toArray oj = true) →
      i ∈ Region.ready .any l.toArray listed → YieldsIf P l.toArray S oi v a → S w →
      wpAnyZ P l Q S fuel (listed.setIfInBounds i true) (a.put oi.dst v) w → wpAnyZ P l Q S (fuel + 1) listed a w := by
    intro fuel
    induction fuel with
    | zero =>
      intro listed a w _ _ hr hy hS H;refine ⟨fun h => absurd (h ▸ hr) (by simp), fun j hj => ?_⟩;by_cases hji : j = i
      · subst hji; exact hy.wpOp hi hS ⟨Or.inr hS, H⟩
      · exact absurd (H.1 ▸ ready_mono hj hji) (by simp)
    | succ fuel ih =>
      intro listed a w hcl hfree hr hy hS H;refine ⟨fun h => absurd (h ▸ hr) (by simp), fun j hj => ?_⟩;by_cases hji : j = i
      · subst hji; exact hy.wpOp hi hS ⟨Or.inr hS, H⟩
      · have hal := not_alone hcl hr hj (Ne.symm hji);have hnw := not_both hcl 0 hr hj;have h1 := H.2 j (ready_mono hj hji);obtain ⟨hjun, oj, hoj, _⟩ := mem_ready.1 hj;have hnot : ∀ e ∈ oj.after, Region.binds .any e = true → e.on ≠ i := fun e he hb heq => by
          have : waits l 0 j i = true := by
            unfold waits;have hoj' : l[j]? = some oj := by simpa using hoj
            rw [hoj'];exact Array.any_eq_true'.2 ⟨e, he, by simp [hb, heq]⟩
          rw [hnw] at this; cases this
        have h2 := wpOp_putIf hoj (hfree j oj hoj hji hjun hnot) (fun cs b => hsel i oi cs b hi) (fun cs b => hsel j oj cs b hoj) (fun c a w hp => absurd hp (hQ _ _ _)) hy h1;refine wpOp_mono (fun a' w' h3 => ?_) h2;have hS' : S w' := h3.2.1.resolve_left (by rw [hal]; simp);refine ⟨Or.inr hS', ih (listed.setIfInBounds j true) a' w' (hcl.set hj) (fun k ok hk hki hun hno => ?_) (ready_mono hr (Ne.symm hji)) h3.1 hS' ?_⟩
        · refine hfree k ok hk hki ?_ hno;by_cases hjk : j = k
          · subst hjk; exact hjun
          · rw [getD_set_ne true hjk] at hun; exact hun
        · rw [Array.setIfInBounds_comm _ _ hji];exact h3.2.2
  intro fuel listed a w hcl hf
  exact key fuel listed a w hcl (Region.free_spec hi hf)
theorem yieldsIf_of_quiet {o : Oper} {a : Act} {K : Act → Prop} (hv : valOp o = true) (hw : Region.wanted o (yielded l.toArray a.tmps) = true) (h : o.quiet P a S K) :
    ∃ v, YieldsIf P l.toArray S o v a ∧ K (a.put o.dst v) := by
  obtain ⟨v, h1, h2⟩ := h
  refine ⟨v, Or.inl ⟨hw, fun w hs => ?_⟩, h2⟩
  have := h1 w hs
  unfold Oper.quietAt at this
  rcases isVal_op (P := P) a.eval o hv w with ⟨x, w', e⟩ | ⟨x, w', e⟩
  · rw [e] at this ⊢;obtain ⟨rfl, rfl⟩ := this;rfl
  · rw [e] at this;exact this.elim
theorem reads_first (hs : Region.noSelect l.toArray = true) (hQ : ∀ c a w, ¬ Q (.panic c) a w) (fuel : Nat) (w : World) (hS : S w) (K : Act → Prop) :
    ∀ (n i : Nat) (listed listed' : Array Bool) (a : Act), Closed l listed → okReads l n i listed = some listed' → (Closed l listed' → ∀ a', K a' → wpAnyZ P l Q S fuel listed' a' w) →
      wpQuiet P l.toArray S K ((l.drop i).take n) a → wpAnyZ P l Q S (fuel + n) listed a w := by
  intro n
  induction n with
  | zero =>
    intro i listed listed' a hcl hok hK h;simp only [okReads, Option.some.injEq] at hok;subst hok;simp only [List.take_zero] at h;exact hK hcl a h
  | succ n ih =>
    intro i listed listed' a hcl hok hK h;simp only [okReads] at hok
    split at hok
    · rename_i hc
      simp only [Bool.and_eq_true] at hc;obtain ⟨⟨hr, hf⟩, hv⟩ := hc;cases ho : l[i]? with
      | none => simp [ho] at hv
      | some o =>
        simp only [ho, Option.map_some, Option.getD_some] at hv;have hlt : i < l.length := (List.getElem?_eq_some_iff.1 ho).1;have hd : (l.drop i).take (n + 1) = o :: (l.drop (i + 1)).take n := by
          rw [List.drop_eq_getElem_cons hlt, List.take_succ_cons]
          congr 1
          exact (List.getElem?_eq_some_iff.1 ho).2
        rw [hd] at h;simp only [wpQuiet] at h;have hoA : l.toArray[i]? = some o := by simpa using ho
        have hr' : i ∈ Region.ready .any l.toArray listed := by simpa using hr
        have e1 : fuel + (n + 1) = (fuel + n) + 1 := by omega
        rw [e1];by_cases hw : Region.wanted o (yielded l.toArray a.tmps) = true
        · rw [if_pos hw] at h;obtain ⟨v, hy, hk⟩ := yieldsIf_of_quiet hv hw h;exact wpAnyZ_first hoA hs hQ _ _ _ _ hcl hf hr' hy hS (ih (i + 1) _ _ _ (hcl.set hr') hok hK hk)
        · rw [if_neg hw] at h;exact wpAnyZ_first hoA hs hQ _ _ _ _ hcl hf hr' (Or.inr ⟨by simpa using hw, rfl⟩) hS (ih (i + 1) _ _ _ (hcl.set hr') hok hK h)
    · cases hok
def segFuel : List (Nat × Nat × Option (Nat × Bool)) → Nat
  | [] => 0
  | (_, n, none) :: rest => segFuel rest + n
  | (_, n, some _) :: rest => segFuel rest + 1 + n
theorem mix_sound (hs : Region.noSelect l.toArray = true) (hQ : ∀ c a w, ¬ Q (.panic c) a w) :
    ∀ (segs : List (Nat × Nat × Option (Nat × Bool))) (listed : Array Bool) (a : Act) (w : World), Closed l listed → okMix l segs listed = true → (S w ∨ segs = []) → wpMix P l S Q segs a w → wpAnyZ P l Q S (segFuel segs) listed a w := by
  intro segs
  induction segs with
  | nil =>
    intro listed a w _ hok _ h;simp only [okMix, List.isEmpty_iff] at hok;exact ⟨hok, h⟩
  | cons seg rest ih =>
    intro listed a w hcl hok hS0 h;have hS : S w := hS0.resolve_right (by simp);clear hS0;obtain ⟨i, n, e⟩ := seg;simp only [okMix] at hok
    split at hok
    · cases hok
    · rename_i listed' hr
      rcases e with _ | ⟨k, fl⟩
      · simp only [wpMix] at h;exact reads_first hs hQ _ w hS _ n i listed listed' a hcl hr (fun hcl' a' ha' => ih listed' a' w hcl' hok (Or.inl hS) ha') h
      · cases fl with
        | true =>
          simp only [Bool.and_eq_true, beq_iff_eq] at hok;simp only [wpMix] at h;refine reads_first hs hQ _ w hS _ n i listed listed' a hcl hr (fun hcl' a' ha' => ⟨fun h0 => ?_, fun j hj => ?_⟩) h
          · rw [hok.1] at h0; cases h0
          · have hcl2 := hcl'.set hj;rw [hok.1, List.mem_singleton] at hj;subst hj;exact wpOp_mono (fun a'' w'' hh => ⟨Or.inr hh.1, ih _ a'' w'' hcl2 hok.2 (Or.inl hh.1) hh.2⟩) ha'
        | false =>
          simp only [Bool.and_eq_true, beq_iff_eq, List.isEmpty_iff] at hok;simp only [wpMix] at h;refine reads_first hs hQ _ w hS _ n i listed listed' a hcl hr (fun hcl' a' ha' => ⟨fun h0 => ?_, fun j hj => ?_⟩) h
          · rw [hok.1.1.1] at h0; cases h0
          · have hcl2 := hcl'.set hj;rw [hok.1.1.1, List.mem_singleton] at hj;subst hj;exact wpOp_mono (fun a'' w'' hh => ⟨Or.inl hok.1.2, ih _ a'' w'' hcl2 hok.1.1.2 (Or.inr hok.2) hh⟩) ha'
def okRegion (l : List Oper) (segs : List (Nat × Nat × Option (Nat × Bool))) : Bool :=
  okMix l segs (Array.replicate l.length false) && (segFuel segs == l.length) && Region.noSelect l.toArray
theorem mix_any (segs : List (Nat × Nat × Option (Nat × Bool))) (hok : okRegion l segs = true) (hQ : ∀ c a w, ¬ Q (.panic c) a w) {a : Act} {w : World} (hS : S w) (h : wpMix P l S Q segs a w) :
    wpAny P .any l.toArray Q l.toArray.size (Array.replicate l.toArray.size false) a w := by
  simp only [okRegion, Bool.and_eq_true, beq_iff_eq] at hok
  have := wpAny_of_Z _ _ _ _ (mix_sound hok.2 hQ segs _ a w (closed_none _) hok.1.1 (Or.inl hS) h)
  rw [hok.1.2] at this
  simpa using this
theorem region_mix {id : Nat} {a : Act} {w : World} (S : World → Prop) (segs : List (Nat × Nat × Option (Nat × Bool))) (hm : P.follows .mixedOrders = true) (hok : okRegion l segs = true) (hS : S w.drew)
    (h : wpMix P l S (NoPanic Q) segs a w.drew) : (Code.region id l.toArray true).wp P Q a w :=
  wp_region_noPanic (wp_region_any hm (mix_any segs hok (fun _ _ _ hp => hp) hS h))
theorem round_mix {id : Nat} {a : Act} {w : World} {r : Nat} (S : World → Prop) (segs : List (Nat × Nat × Option (Nat × Bool))) (hm : P.follows .mixedOrders = true) (hok : okRegion l segs = true) (hn : l.all notDefer = true) (hQ : ¬ LetsOut Q) (hS : S w.drew)
    (h : wpMix P l S (NoPanic Q) segs a w.drew) : (Code.region id l.toArray true).wpIn (Fence.wide.inRound r) 0 P Q a w := by
  refine wpIn_mono (Q := NoPanic Q) ?_ NoPanic.imp
  refine wpIn_region_draw fun t => ?_
  refine wpOpsIn_of (Q := NoPanic Q) r (fun i o ho => ?_) hQ _ _ _ ?_
  · rw [List.all_eq_true] at hn;exact hn o (by
      have : l[i]? = some o := by simpa using ho
      exact List.mem_of_getElem? this)
  · simp only [Region.schedule, hm, Bool.true_or, if_true];exact wpAny_sound _ t _ a _ (mix_any segs hok (fun _ _ _ hp => hp) hS h)
theorem wpOp_at {e : Nat} {o : Oper} {K : Act → World → Prop} {a : Act} {w : World} (ho : l[e]? = some o) (hg : o.guard = none) (h : o.wp P a w K Q) : wpOp P l.toArray Q e K a w := by
  unfold wpOp
  have : l.toArray[e]? = some o := by simpa using ho
  simp only [this]
  rw [if_pos (by simp [Region.wanted, hg])]
  exact Or.inl h
theorem op_append1 {o : Oper} {K : Act → World → Prop} {a : Act} (w0 : World) (s x : Operand) (t e : TypeId) (ho : o.op = .call { callee := .builtin .append, args := #[s, x], argTypes := #[t, t] })
    (base : Nat) (z : Value) (size bytes : Nat) (ht : P.underlying t = some (.slice e)) (hinfo : (P.info? e).map (fun i => (i.zero, i.size, i.bytes)) = some (some z, size, bytes)) (hzs : z.cells.size = size) (hsz : 0 < size)
    (v : Value) (n : Nat) (xs news : List Value) (hs : a.eval s = v) (hown : w0.ownsRow base e size v n xs) (H : Nat) (hH : w0.heap.size = H) (hx : a.eval x = .slice (some ⟨H, 0, none⟩) 1 1) (hl : news.length = size) (h1 : ∀ u ∈ news, u.oneCell' = true)
    (h63 : n + 1 ≤ maxLen) (hbytes : (n + 1) * bytes ≤ 140737488355328) (hbase : base ≤ w0.heap.size)
    (h : ∀ g cap w', w'.ownsRow base e size (.slice (some ⟨g, 0, none⟩) (n + 1) cap) (n + 1) (xs ++ news) → w0.grownBy w' v.ownBlock → (some g = v.ownBlock ∨ g = H + 1) → K (a.put o.dst (.slice (some ⟨g, 0, none⟩) (n + 1) cap)) w') :
    o.wp P a (w0.alloc (.cells news.toArray e)) K Q := by
  subst hH
  obtain ⟨i, hi, hz, hsize, hby⟩ := info_parts hinfo
  have hnews : ∀ j u, news[j]? = some u → (w0.alloc (.cells news.toArray e)).cell? ((⟨w0.heap.size, 0, none⟩ : Addr).add j) = some u := by
    intro j u hu;have hadd : (⟨w0.heap.size, 0, none⟩ : Addr).add j = ⟨w0.heap.size, j, none⟩ := by unfold Addr.add; split <;> simp_all
    rw [hadd, cell_of_row _ _ _ _ _ _ (World.alloc_heap_new w0 _)];simpa using hu
  obtain ⟨v', w', hrun, h2, h3, h4, h5⟩ := run_append_own_at (P := P) (w0.alloc (.cells news.toArray e)) base t o.type e i z size bytes ht hi hz hsize hby hzs hsz v n xs (hown.alloc _) ⟨w0.heap.size, 0, none⟩ 1 1 news (by omega) hnews h1 h63 hbytes (by simp; omega)
  obtain ⟨g, cap, rfl⟩ : ∃ g cap, v' = .slice (some ⟨g, 0, none⟩) (n + 1) cap := by
    rcases h2.2 with ⟨_, h0⟩ | ⟨g, cap, cur, hv, _⟩
    · omega
    · exact ⟨g, cap, hv⟩
  have hg : w0.grownBy w' v.ownBlock := by
    refine ⟨h3.os, h3.tape, h3.output, Nat.le_trans (by simp) h3.size, fun k hk hne => ?_⟩;rw [h3.block k (by simp; omega) hne];exact Below.heap_alloc _ _ _ hk
  unfold Oper.wp execOp
  simp only [ho, resolve, invoke, builtin, Sem.run_bind, Sem.run_pure, Result.andThen_ok, List.map_toArray, List.map_cons, List.map_nil, hs, hx, hrun]
  refine h g cap w' h2 hg ?_
  rcases h5 with h5 | h5
  · exact Or.inl (by simpa [Value.ownBlock] using h5)
  · exact Or.inr (by simpa [Value.ownBlock] using h5)
theorem wpList_append1 {ops : Array Oper} {rest : List Oper} {o : Oper} {a : Act} (hgd : o.guard = none) (w0 : World) (s x : Operand) (t e : TypeId) (ho : o.op = .call { callee := .builtin .append, args := #[s, x], argTypes := #[t, t] })
    (base : Nat) (z : Value) (size bytes : Nat) (ht : P.underlying t = some (.slice e)) (hinfo : (P.info? e).map (fun i => (i.zero, i.size, i.bytes)) = some (some z, size, bytes)) (hzs : z.cells.size = size) (hsz : 0 < size)
    (v : Value) (n : Nat) (xs news : List Value) (hs : a.eval s = v) (hown : w0.ownsRow base e size v n xs) (H : Nat) (hH : w0.heap.size = H) (hx : a.eval x = .slice (some ⟨H, 0, none⟩) 1 1) (hl : news.length = size) (h1 : ∀ u ∈ news, u.oneCell' = true)
    (h63 : n + 1 ≤ maxLen) (hbytes : (n + 1) * bytes ≤ 140737488355328) (hbase : base ≤ w0.heap.size)
    (h : ∀ g cap w', w'.ownsRow base e size (.slice (some ⟨g, 0, none⟩) (n + 1) cap) (n + 1) (xs ++ news) → w0.grownBy w' v.ownBlock → (some g = v.ownBlock ∨ g = H + 1) → wpList P ops Q rest (a.put o.dst (.slice (some ⟨g, 0, none⟩) (n + 1) cap)) w') :
    wpList P ops Q (o :: rest) a (w0.alloc (.cells news.toArray e)) :=
  wpList_plain hgd fun _ hK => op_append1 w0 s x t e ho base z size bytes ht hinfo hzs hsz v n xs news hs hown H hH hx hl h1 h63 hbytes hbase fun g cap w' h2 h3 h4 => hK _ _ (h g cap w' h2 h3 h4)
theorem run_append_all (w : World) (base : Nat) (t ty e : TypeId) (z : Value) (bytes : Nat) (ht : P.underlying t = some (.slice e)) (hinfo : (P.info? e).map (fun i => (i.zero, i.size, i.bytes)) = some (some z, 1, bytes)) (hzs : z.cells.size = 1)
    (v : Value) (n : Nat) (xs : List Value) (hown : w.ownsRow base e 1 v n xs) (A : Option Addr) (m c : Nat) (news : List Value) (hl : news.length = m)
    (hr : ∀ j u, news[j]? = some u → ∃ ad, A = some ad ∧ w.cell? (ad.add j) = some u) (h1 : ∀ u ∈ news, u.oneCell' = true)
    (h63 : n + m ≤ maxLen) (hbytes : (n + m) * bytes ≤ 140737488355328) (hbase : base ≤ w.heap.size) :
    ∃ v' w', (Builtin.append_ #[t, t] ty #[v, .slice A m c]).run P w = .ok v' w' ∧ w'.ownsRow base e 1 v' (n + m) (xs ++ news) ∧ w.grownBy w' v.ownBlock ∧ (v'.ownBlock = v.ownBlock ∨ v'.ownBlock = some w.heap.size) := by
  obtain ⟨i, hi, hz, hsize, hby⟩ := info_parts hinfo
  rcases A with _ | ad
  · have hm : news = [] := by
      cases news with
      | nil => rfl
      | cons u l => obtain ⟨ad, h, _⟩ := hr 0 u rfl; cases h
    subst hm;simp only [List.length_nil] at hl;subst hl;refine ⟨v, w, ?_, by simpa using hown, ⟨rfl, rfl, rfl, Nat.le_refl _, fun _ _ _ => rfl⟩, Or.inl rfl⟩;rcases hown.2 with ⟨rfl, rfl⟩ | ⟨g, cap, cur, rfl, _, _, hnc, _⟩
    · simp [Builtin.append_, run_underlying ht, sizeOf, typeInfo, hi, Builtin.lenOf, Builtin.firstCells]
    · simp [Builtin.append_, run_underlying ht, sizeOf, typeInfo, hi, Builtin.lenOf, Builtin.firstCells, hnc, storeCells]
  · obtain ⟨v', w', hrun, h2, h3, _, h5⟩ := run_append_own_at (P := P) w base t ty e i z 1 bytes ht hi hz hsize hby hzs (by omega) v n xs hown ad m c news (by omega)
      (fun j u hu => by obtain ⟨ad', h, hc⟩ := hr j u hu; cases h; exact hc) h1 h63 hbytes hbase
    exact ⟨v', w', hrun, h2, h3, h5⟩
theorem wpList_appendS {ops : Array Oper} {rest : List Oper} {o : Oper} {a : Act} (w : World) (hgd : o.guard = none) (s x : Operand) (t e : TypeId) (ho : o.op = .call { callee := .builtin .append, args := #[s, x], argTypes := #[t, t] })
    (base : Nat) (z : Value) (bytes : Nat) (ht : P.underlying t = some (.slice e)) (hinfo : (P.info? e).map (fun i => (i.zero, i.size, i.bytes)) = some (some z, 1, bytes)) (hzs : z.cells.size = 1)
    (v : Value) (n : Nat) (xs : List Value) (hs : a.eval s = v) (hown : w.ownsRow base e 1 v n xs) (A : Option Addr) (m c : Nat) (hx : a.eval x = .slice A m c) (news : List Value) (hl : news.length = m)
    (hr : ∀ j u, news[j]? = some u → ∃ ad, A = some ad ∧ w.cell? (ad.add j) = some u) (h1 : ∀ u ∈ news, u.oneCell' = true)
    (h63 : n + m ≤ maxLen) (hbytes : (n + m) * bytes ≤ 140737488355328) (hbase : base ≤ w.heap.size)
    (h : ∀ v' w', w'.ownsRow base e 1 v' (n + m) (xs ++ news) → w.grownBy w' v.ownBlock → (v'.ownBlock = v.ownBlock ∨ v'.ownBlock = some w.heap.size) → wpList P ops Q rest (a.put o.dst v') w') :
    wpList P ops Q (o :: rest) a w := by
  refine wpList_plain hgd fun K hK => ?_
  obtain ⟨v', w', hrun, h2, h3, h4⟩ := run_append_all (P := P) w base t o.type e z bytes ht hinfo hzs v n xs hown A m c news hl hr h1 h63 hbytes hbase
  unfold Oper.wp execOp
  simp only [ho, resolve, invoke, builtin, Sem.run_bind, Sem.run_pure, Result.andThen_ok, List.map_toArray, List.map_cons, List.map_nil, hs, hx, hrun]
  exact hK _ _ (h v' w' h2 h3 h4)
end
end

section
open Go.RowKit
structure Chg (S : Nat → Prop) (w w' : World) : Prop where
  os : w'.os = w.os
  tape : w'.tape = w.tape
  output : w'.output = w.output
  size : w.heap.size ≤ w'.heap.size
  block : ∀ k, k < w.heap.size → ¬ S k → w'.heap[k]? = w.heap[k]?
theorem Chg.refl (S : Nat → Prop) (w : World) : Chg S w w := ⟨rfl, rfl, rfl, Nat.le_refl _, fun _ _ _ => rfl⟩
theorem Chg.trans {S : Nat → Prop} {a b c : World} (h : Chg S a b) (k : Chg S b c) : Chg S a c :=
  ⟨k.os.trans h.os, k.tape.trans h.tape, k.output.trans h.output, Nat.le_trans h.size k.size, fun i hi hn => (k.block i (Nat.lt_of_lt_of_le hi h.size) hn).trans (h.block i hi hn)⟩
theorem Chg.drewN {S : Nat → Prop} {a w : World} (h : Chg S a w) (n : Nat) : Chg S a (w.drewN n) := ⟨h.os, h.tape, h.output, h.size, h.block⟩
theorem Chg.grown {S : Nat → Prop} {a w w' : World} {row : Option Nat} (h : Chg S a w) (hg : w.grownBy w' row) (hr : ∀ k, row = some k → S k ∨ a.heap.size ≤ k) : Chg S a w' :=
  ⟨hg.os.trans h.os, hg.tape.trans h.tape, hg.output.trans h.output, Nat.le_trans h.size hg.size, fun k hk hn => (hg.block k (Nat.lt_of_lt_of_le hk h.size) (fun e => by
    rcases hr k e.symm with h1 | h1
    · exact hn h1
    · omega)).trans (h.block k hk hn)⟩
theorem Chg.setCell {S : Nat → Prop} {a w : World} (h : Chg S a w) {p : Addr} (hp : S p.block ∨ a.heap.size ≤ p.block) (u : Value) : Chg S a (w.setCell p u) :=
  ⟨h.os, h.tape, h.output, Nat.le_trans h.size (by simp [World.setCell]), fun k hk hn => (Below.heap_setCell w p u k (fun e => by
    subst e;rcases hp with h1 | h1
    · exact hn h1
    · omega)).trans (h.block k hk hn)⟩
theorem Chg.mono {S T : Nat → Prop} {a w : World} (h : Chg S a w) (hs : ∀ k, S k → T k) : Chg T a w := ⟨h.os, h.tape, h.output, h.size, fun k hk hn => h.block k hk (fun hk' => hn (hs k hk'))⟩
theorem Chg.below {S : Nat → Prop} {a w : World} {B : Nat} (h : Chg S a w) (hB : B ≤ a.heap.size) (hs : ∀ k, S k → B ≤ k) : Below B a w :=
  ⟨h.os, h.tape, h.output, h.size, fun k hk => h.block k (by omega) (fun hk' => by have := hs k hk'; omega)⟩
theorem Chg.of_ext {S : Nat → Prop} {a b c : World} (h : Chg S a b) (hb : Below b.heap.size b c) : Chg S a c := h.trans ⟨hb.os, hb.tape, hb.output, hb.size, fun k hk _ => hb.block k hk⟩
theorem ownsRow_chg {S : Nat → Prop} {w w' : World} {base : Nat} {e : TypeId} {size : Nat} {v : Value} {n : Nat} {xs : List Value} (h : w.ownsRow base e size v n xs) (hc : Chg S w w') (hn : ∀ g, v.ownBlock = some g → ¬ S g) : w'.ownsRow base e size v n xs := by
  refine ⟨h.1, ?_⟩
  rcases h.2 with h2 | ⟨g, cap, cur, rfl, hb, hh, r⟩
  · exact .inl h2
  · exact .inr ⟨g, cap, cur, rfl, hb, (hc.block g (Array.getElem?_eq_some_iff.1 hh).1 (hn g rfl)).trans hh, r⟩
theorem rows_ne {w : World} {base base' : Nat} {e e' : TypeId} {size size' : Nat} {v v' : Value} {n n' : Nat} {xs xs' : List Value} (h : w.ownsRow base e size v n xs) (h' : w.ownsRow base' e' size' v' n' xs') (hne : e ≠ e') :
    ∀ g, v.ownBlock = some g → v'.ownBlock ≠ some g := by
  intro g hg hg'
  rcases h.2 with ⟨rfl, _⟩ | ⟨b, cap, cur, rfl, _, hh, _⟩
  · simp [Value.ownBlock] at hg
  · rcases h'.2 with ⟨rfl, _⟩ | ⟨b', cap', cur', rfl, _, hh', _⟩
    · simp [Value.ownBlock] at hg'
    · simp only [Value.ownBlock, Option.some.injEq] at hg hg';subst hg;subst hg';rw [hh] at hh';injection hh' with hh';injection hh' with _ ht;exact hne ht
theorem row_lt {w : World} {base : Nat} {e : TypeId} {size : Nat} {v : Value} {n : Nat} {xs : List Value} (h : w.ownsRow base e size v n xs) : ∀ g, v.ownBlock = some g → base ≤ g ∧ g < w.heap.size := h.lt
def KeepR (e : TypeId) (size : Nat) (v : Value) (n : Nat) (w w' : World) : Prop :=
  ∀ (base0 : Nat) (v0 : Value) (n0 : Nat) (xs0 : List Value), w.ownsRow base0 e size v0 n0 xs0 → (∀ g, v0.ownBlock = some g → v.ownBlock = some g → n0 ≤ n) → w'.ownsRow base0 e size v0 n0 xs0
section
variable {P : Program} {Q : Exit → Act → World → Prop}
theorem append_keep (w : World) (base : Nat) (t ty e : TypeId) (i : TypeInfo) (z : Value) (size bytes : Nat) (ht : P.underlying t = some (.slice e)) (hi : P.info? e = some i) (hz : i.zero = some z)
    (hsize : i.size = size) (hby : i.bytes = bytes) (hzs : z.cells.size = size) (hsz : 0 < size)
    (v : Value) (n : Nat) (xs : List Value) (hown : w.ownsRow base e size v n xs)
    (a : Addr) (m c : Nat) (news : List Value) (hl : news.length = m * size) (hnews : ∀ j u, news[j]? = some u → w.cell? (a.add j) = some u) (h1 : ∀ u ∈ news, u.oneCell' = true)
    (h63 : n + m ≤ maxLen) (hbytes : (n + m) * bytes ≤ 140737488355328) (hbase : base ≤ w.heap.size) :
    ∃ v' w', (Builtin.append_ #[t, t] ty #[v, .slice (some a) m c]).run P w = .ok v' w' ∧ w'.ownsRow base e size v' (n + m) (xs ++ news) ∧ w.grownBy w' v.ownBlock ∧
      (v'.ownBlock = v.ownBlock ∨ v'.ownBlock = some w.heap.size) ∧ KeepR e size v n w w' := by
  obtain ⟨v', w', hrun, h2, h3, h4, h5⟩ := run_append_own_at (P := P) w base t ty e i z size bytes ht hi hz hsize hby hzs hsz v n xs hown a m c news hl hnews h1 h63 hbytes hbase
  refine ⟨v', w', hrun, h2, h3, h5, ?_⟩
  intro base0 v0 n0 xs0 h0 hle
  rcases h0.2 with ⟨hv0, hn0⟩ | ⟨g0, cap0, cur0, hv0, hb0, hh0, hnc0, hcm0, hcs0, htake0⟩
  · exact ⟨h0.1, .inl ⟨hv0, hn0⟩⟩
  · subst hv0;by_cases hblk : v.ownBlock = some g0
    · have hn0 := hle g0 rfl hblk;rcases hown.2 with ⟨rfl, _⟩ | ⟨g, cap, cur, rfl, hbg, hg, hnc, hcm, hcs, htake⟩
      · simp [Value.ownBlock] at hblk
      · simp only [Value.ownBlock, Option.some.injEq] at hblk;subst hblk;rw [hg] at hh0;injection hh0 with hh0;injection hh0 with hcc _;subst hcc;have hcap : cap = cap0 := Nat.eq_of_mul_eq_mul_right hsz (hcs.symm.trans hcs0);subst hcap;have hle2 : n0 * size ≤ n * size := Nat.mul_le_mul_right _ hn0;have hxs0 : xs0 = xs.take (n0 * size) := by
          rw [← htake0, ← htake, List.take_take, Nat.min_eq_left hle2]
        by_cases hroom : n + m ≤ cap
        · obtain ⟨w'', hr, h6, h7⟩ := run_append_own_spare (P := P) w base t ty e i size ht hi hsize g n cap xs hown a m c news hl hnews h1 hroom;rw [hrun] at hr;injection hr with e1 e2;subst e1;subst e2;rcases h6.2 with ⟨hbad, _⟩ | ⟨g', cap', cur', hv', hb', hh', hnc', hcm', hcs', htake'⟩
          · cases hbad
          · injection hv' with e1 e2 e3;injection e1 with e1;injection e1 with e1 _ _;subst e1;subst e3;refine ⟨h0.1, .inr ⟨g, cap, cur', rfl, hb0, hh', hnc0, hcm0, hcs', ?_⟩⟩;have : cur'.toList.take (n0 * size) = (cur'.toList.take ((n + m) * size)).take (n0 * size) := by
              rw [List.take_take, Nat.min_eq_left (Nat.mul_le_mul_right _ (by omega))]
            rw [this, htake', hxs0, List.take_append_of_le_length (by rw [hown.1]; exact hle2)]
        · have holds : ∀ j u, xs[j]? = some u → w.cell? ((⟨g, 0, none⟩ : Addr).add j) = some u := hown.cells (g := g) rfl;subst hsize;have hr := run_append_grow (P := P) w t ty e i z ht hi hz ⟨g, 0, none⟩ n cap xs hown.1 holds a m c news hl hnews (by omega) (by simp only [maxLen] at h63; omega) (growslice_fits (by omega) (by rw [hby]; exact hbytes));rw [hrun] at hr;injection hr with e1 e2;subst e2;refine ⟨h0.1, .inr ⟨g, cap, cur, rfl, hb0, ?_, hnc0, hcm0, hcs, htake0⟩⟩;exact (Below.heap_alloc _ _ _ (by simpa using (Array.getElem?_eq_some_iff.1 hg).1)).trans hg
    · exact h0.kept h3 (.inr (fun e => hblk e.symm))
theorem wpList_append1K {ops : Array Oper} {rest : List Oper} {o : Oper} {a : Act} (hgd : o.guard = none) (w0 : World) (s x : Operand) (t e : TypeId) (ho : o.op = .call { callee := .builtin .append, args := #[s, x], argTypes := #[t, t] })
    (base : Nat) (z : Value) (size bytes : Nat) (ht : P.underlying t = some (.slice e)) (hinfo : (P.info? e).map (fun i => (i.zero, i.size, i.bytes)) = some (some z, size, bytes)) (hzs : z.cells.size = size) (hsz : 0 < size)
    (v : Value) (n : Nat) (xs news : List Value) (hs : a.eval s = v) (hown : w0.ownsRow base e size v n xs) (H : Nat) (hH : w0.heap.size = H) (hx : a.eval x = .slice (some ⟨H, 0, none⟩) 1 1) (hl : news.length = size) (h1 : ∀ u ∈ news, u.oneCell' = true)
    (h63 : n + 1 ≤ maxLen) (hbytes : (n + 1) * bytes ≤ 140737488355328) (hbase : base ≤ w0.heap.size)
    (h : ∀ g cap w', w'.ownsRow base e size (.slice (some ⟨g, 0, none⟩) (n + 1) cap) (n + 1) (xs ++ news) → w0.grownBy w' v.ownBlock → (some g = v.ownBlock ∨ g = H + 1) → KeepR e size v n w0 w' → wpList P ops Q rest (a.put o.dst (.slice (some ⟨g, 0, none⟩) (n + 1) cap)) w') :
    wpList P ops Q (o :: rest) a (w0.alloc (.cells news.toArray e)) := by
  refine wpList_plain hgd fun K hK => ?_
  subst hH
  obtain ⟨i, hi, hz, hsize, hby⟩ := info_parts hinfo
  have hnews : ∀ j u, news[j]? = some u → (w0.alloc (.cells news.toArray e)).cell? ((⟨w0.heap.size, 0, none⟩ : Addr).add j) = some u := by
    intro j u hu;have hadd : (⟨w0.heap.size, 0, none⟩ : Addr).add j = ⟨w0.heap.size, j, none⟩ := by unfold Addr.add; split <;> simp_all
    rw [hadd, cell_of_row _ _ _ _ _ _ (World.alloc_heap_new w0 _)];simpa using hu
  obtain ⟨v', w', hrun, h2, h3, h5, h6⟩ := append_keep (P := P) (w0.alloc (.cells news.toArray e)) base t o.type e i z size bytes ht hi hz hsize hby hzs hsz v n xs (hown.alloc _) ⟨w0.heap.size, 0, none⟩ 1 1 news (by omega) hnews h1 h63 hbytes (by simp; omega)
  obtain ⟨g, cap, rfl⟩ : ∃ g cap, v' = .slice (some ⟨g, 0, none⟩) (n + 1) cap := by
    rcases h2.2 with ⟨_, h0⟩ | ⟨g, cap, cur, hv, _⟩
    · omega
    · exact ⟨g, cap, hv⟩
  have hg : w0.grownBy w' v.ownBlock := by
    refine ⟨h3.os, h3.tape, h3.output, Nat.le_trans (by simp) h3.size, fun k hk hne => ?_⟩;rw [h3.block k (by simp; omega) hne];exact Below.heap_alloc _ _ _ hk
  unfold Oper.wp execOp
  simp only [ho, resolve, invoke, builtin, Sem.run_bind, Sem.run_pure, Result.andThen_ok, List.map_toArray, List.map_cons, List.map_nil, hs, hx, hrun]
  refine hK _ _ (h g cap w' h2 hg ?_ (fun b0 v0 n0 xs0 h0 hle => h6 b0 v0 n0 xs0 (h0.alloc _) hle))
  rcases h5 with h5 | h5
  · exact Or.inl (by simpa [Value.ownBlock] using h5)
  · exact Or.inr (by simpa [Value.ownBlock] using h5)
theorem wpList_appendK {ops : Array Oper} {rest : List Oper} {o : Oper} {a : Act} (hgd : o.guard = none) (w : World) (s x : Operand) (t e : TypeId) (ho : o.op = .call { callee := .builtin .append, args := #[s, x], argTypes := #[t, t] })
    (base : Nat) (z : Value) (size bytes : Nat) (ht : P.underlying t = some (.slice e)) (hinfo : (P.info? e).map (fun i => (i.zero, i.size, i.bytes)) = some (some z, size, bytes)) (hzs : z.cells.size = size) (hsz : 0 < size)
    (v : Value) (n : Nat) (xs : List Value) (hs : a.eval s = v) (hown : w.ownsRow base e size v n xs) (M m c : Nat) (news : List Value) (hx : a.eval x = .slice (some ⟨M, 0, none⟩) m c) (hm : w.ownsRow base e size (.slice (some ⟨M, 0, none⟩) m c) m news) (h1 : ∀ u ∈ news, u.oneCell' = true)
    (h63 : n + m ≤ maxLen) (hbytes : (n + m) * bytes ≤ 140737488355328) (hbase : base ≤ w.heap.size)
    (h : ∀ v' w', w'.ownsRow base e size v' (n + m) (xs ++ news) → w.grownBy w' v.ownBlock → (v'.ownBlock = v.ownBlock ∨ v'.ownBlock = some w.heap.size) → KeepR e size v n w w' → wpList P ops Q rest (a.put o.dst v') w') :
    wpList P ops Q (o :: rest) a w := by
  refine wpList_plain hgd fun K hK => ?_
  obtain ⟨i, hi, hz, hsize, hby⟩ := info_parts hinfo
  obtain ⟨v', w', hrun, h2, h3, h5, h6⟩ := append_keep (P := P) w base t o.type e i z size bytes ht hi hz hsize hby hzs hsz v n xs hown ⟨M, 0, none⟩ m c news hm.1 (hm.cells (g := M) rfl) h1 h63 hbytes hbase
  unfold Oper.wp execOp
  simp only [ho, resolve, invoke, builtin, Sem.run_bind, Sem.run_pure, Result.andThen_ok, List.map_toArray, List.map_cons, List.map_nil, hs, hx, hrun]
  exact hK _ _ (h v' w' h2 h3 h5 h6)
end
def SepF (v v' : Value) : Prop := ∀ g, v.ownBlock = some g → v'.ownBlock ≠ some g
theorem SepF.symm {v v' : Value} (h : SepF v v') : SepF v' v := fun g h1 h2 => h g h2 h1
def mrow (mk : Nat → Nat → List Value) (k n : Nat) : List Value := (List.range n).flatMap (mk k)
theorem mrow_snoc (mk : Nat → Nat → List Value) (k n : Nat) : mrow mk k (n + 1) = mrow mk k n ++ mk k n := by simp [mrow, List.range_succ]
theorem mrow_len (mk : Nat → Nat → List Value) (size : Nat) (hs : ∀ k i, (mk k i).length = size) (k n : Nat) : (mrow mk k n).length = n * size := by
  induction n with
  | zero => simp [mrow]
  | succ n ih => rw [mrow_snoc, List.length_append, ih, hs, Nat.add_mul, Nat.one_mul]
theorem mrow_at (mk : Nat → Nat → List Value) (hs : ∀ k i, (mk k i).length = 1) (k n i : Nat) (hi : i < n) : (mrow mk k n)[i]? = (mk k i)[0]? := by
  induction n with
  | zero => omega
  | succ n ih =>
    have hl := mrow_len mk 1 hs k n;rw [mrow_snoc];by_cases h : i < n
    · rw [List.getElem?_append_left (by omega), ih h]
    · have : i = n := by omega
      subst this;rw [List.getElem?_append_right (by omega)]
      congr 1
      omega
theorem range_map_set {α : Type} (K : Nat) (f : Nat → α) (k : Nat) (x : α) : ((List.range K).map f).set k x = (List.range K).map (fun j => if j = k then x else f j) := by
  refine List.ext_getElem (by simp) fun i h1 h2 => ?_
  simp only [List.getElem_set, List.getElem_map, List.getElem_range]
  by_cases e : k = i
  · subst e; simp
  · rw [if_neg e, if_neg (fun h => e h.symm)]
end

section
open Go.RowKit
structure FIn (e eo : TypeId) (size base K : Nat) (vo : Value) (rv : Nat → Value) (L : Nat → Nat) (w : World) : Prop where
  outer : w.ownsRow base eo 1 vo K ((List.range K).map rv)
  rows : ∀ j, j < K → ∃ X, w.ownsRow base e size (rv j) (L j) X
  sep : ∀ i j, i < K → j < K → i ≠ j → SepF (rv i) (rv j)
def SB (K : Nat) (rv : Nat → Value) : Nat → Prop := fun g => ∃ j, j < K ∧ (rv j).ownBlock = some g
structure FA (e eo : TypeId) (size : Nat) (mk : Nat → Nat → List Value) (base K : Nat) (vo : Value) (rv : Nat → Value) (L : Nat → Nat) (w0 : World) (k i : Nat) (w : World) : Prop where
  outer : w.ownsRow base eo 1 vo K ((List.range K).map rv)
  rows : ∀ j, j < K → ∃ X, w.ownsRow base e size (rv j) (L j) X ∧ (j < k → X = mrow mk j (L j)) ∧ (j = k → X.take (i * size) = mrow mk k i)
  chg : Chg (SB K rv) w0 w
structure FB (e eo : TypeId) (size : Nat) (mk : Nat → Nat → List Value) (base K : Nat) (vo : Value) (rv : Nat → Value) (L : Nat → Nat) (w0 : World) (G k : Nat) (gv : Nat → Value) (w : World) : Prop where
  outer : w.ownsRow base eo 1 vo K ((List.range K).map rv)
  rows : ∀ j, j < K → w.ownsRow base e size (rv j) (L j) (mrow mk j (L j))
  gs : w.ownsRow base eo 1 (.slice (some ⟨G, 0, none⟩) K K) K ((List.range K).map fun j => if j < k then gv j else .slice none 0 0)
  gne : vo.ownBlock ≠ some G
  gnew : w0.heap.size ≤ G
  grow : ∀ j, j < k → w.ownsRow base e size (gv j) (L j + 64) (mrow mk j (L j + 64))
  sep1 : ∀ i j, i < K → j < k → i ≠ j → SepF (rv i) (gv j)
  chg : Chg (SB K rv) w0 w
structure FBi (e eo : TypeId) (size : Nat) (mk : Nat → Nat → List Value) (base K : Nat) (vo : Value) (rv : Nat → Value) (L : Nat → Nat) (w0 : World) (G k i : Nat) (gv : Nat → Value) (g : Value) (w : World) : Prop where
  fb : FB e eo size mk base K vo rv L w0 G k gv w
  row : w.ownsRow base e size g (L k + i) (mrow mk k (L k + i))
  s1 : ∀ j, j < K → j ≠ k → SepF (rv j) g
  s2 : ∀ j, j < k → SepF (gv j) g
  blk : ∀ b, g.ownBlock = some b → SB K rv b ∨ w0.heap.size ≤ b
structure FD (e eo : TypeId) (size : Nat) (mk : Nat → Nat → List Value) (base K : Nat) (vo : Value) (rv : Nat → Value) (L : Nat → Nat) (w0 : World) (G k : Nat) (gl : Nat → Value) (w : World) : Prop where
  outer : w.ownsRow base eo 1 vo K ((List.range K).map rv)
  rows : ∀ j, j < K → w.ownsRow base e size (rv j) (L j) (mrow mk j (L j))
  gs : w.ownsRow base eo 1 (.slice (some ⟨G, 0, none⟩) K K) K ((List.range K).map gl)
  gne : vo.ownBlock ≠ some G
  gnew : w0.heap.size ≤ G
  grow : ∀ j, j < k → ∃ Z, w.ownsRow base e size (gl j) (L j + 64) (mrow mk j (L j) ++ Z)
  sep1 : ∀ i j, i < K → j < k → i ≠ j → SepF (rv i) (gl j)
  chg : Chg (SB K rv) w0 w
structure FDi (e eo : TypeId) (size : Nat) (mk : Nat → Nat → List Value) (base K : Nat) (vo : Value) (rv : Nat → Value) (L : Nat → Nat) (w0 : World) (G k : Nat) (gl : Nat → Value) (M : Nat) (w : World) : Prop where
  fd : FD e eo size mk base K vo rv L w0 G k gl w
  many : ∃ Y, w.ownsRow base e size (.slice (some ⟨M, 0, none⟩) 64 64) 64 Y ∧ ∀ u ∈ Y, u.oneCell' = true
  m1 : ∀ j, j < K → (rv j).ownBlock ≠ some M
  m2 : ∀ j, j < k → (gl j).ownBlock ≠ some M
  mnew : w0.heap.size ≤ M
section
variable {e eo : TypeId} {size : Nat} {mk : Nat → Nat → List Value} {base K : Nat} {vo : Value} {rv : Nat → Value} {L : Nat → Nat} {w0 w : World} {G k i : Nat} {gv gl : Nat → Value} {g : Value}
theorem FIn.start (h : FIn e eo size base K vo rv L w0) : FA e eo size mk base K vo rv L w0 0 0 w0 :=
  ⟨h.outer, fun j hj => by
    obtain ⟨X, hX⟩ := h.rows j hj;exact ⟨X, hX, fun h => absurd h (by omega), fun _ => by simp [mrow]⟩, Chg.refl _ _⟩
theorem FA.drewN (h : FA e eo size mk base K vo rv L w0 k i w) (q : Nat) : FA e eo size mk base K vo rv L w0 k i (w.drewN q) := ⟨h.outer, h.rows, h.chg.drewN q⟩
theorem FA.next (h : FA e eo size mk base K vo rv L w0 k (L k) w) : FA e eo size mk base K vo rv L w0 (k + 1) 0 w :=
  ⟨h.outer, fun j hj => by
    obtain ⟨X, hX, h1, h2⟩ := h.rows j hj;refine ⟨X, hX, fun hlt => ?_, fun _ => by simp [mrow]⟩;by_cases hjk : j = k
    · have := h2 hjk;subst hjk
      rwa [List.take_of_length_le (by rw [hX.1]; exact Nat.le_refl _)] at this
    · exact h1 (by omega), h.chg⟩
theorem FA.row (h : FA e eo size mk base K vo rv L w0 k i w) (hk : k < K) : ∃ a c, rv k = .slice a (L k) c ∧ L k ≤ c ∧ c ≤ maxLen := by
  obtain ⟨X, hX, _⟩ := h.rows k hk
  rcases hX.2 with ⟨e1, e2⟩ | ⟨g, cap, cur, e1, _, _, h1, h2, _⟩
  · exact ⟨none, 0, by rw [e1, e2], by omega, by omega⟩
  · exact ⟨_, cap, e1, h1, h2⟩
theorem FA.cell (h : FA e eo 1 mk base K vo rv L w0 k i w) (hk : k < K) (hi : i < L k) :
    ∃ b cap, rv k = .slice (some ⟨b, 0, none⟩) (L k) cap ∧ cap ≤ maxLen ∧ L k ≤ cap ∧ (∃ u, w.cell? ⟨b, i, none⟩ = some u) ∧ w.frozen? ⟨b, i, none⟩ = false ∧ b < w.heap.size := by
  obtain ⟨X, hX, _⟩ := h.rows k hk
  rcases hX.2 with ⟨e1, e2⟩ | ⟨b, cap, cur, e1, _, hh, h1, h2, h3, h4⟩
  · omega
  · rw [e1] at hX;refine ⟨b, cap, e1, h2, h1, ?_, World.ownsRow.frozenAt hX i, (Array.getElem?_eq_some_iff.1 hh).1⟩;rw [World.ownsRow.cellAt hX i (by omega)];exact ⟨X[i]'(by rw [hX.1]; omega), List.getElem?_eq_getElem _⟩
theorem FA.store (h : FA e eo 1 mk base K vo rv L w0 k i w) (hne : e ≠ eo) (hsep : ∀ i j, i < K → j < K → i ≠ j → SepF (rv i) (rv j)) (hk : k < K) (hi : i < L k) {b cap : Nat} (hb : rv k = .slice (some ⟨b, 0, none⟩) (L k) cap) (u : Value) (hu : mk k i = [u]) :
    FA e eo 1 mk base K vo rv L w0 k (i + 1) (w.setCell ⟨b, i, none⟩ u) := by
  obtain ⟨X, hX, hX1, hX2⟩ := h.rows k hk
  rw [hb] at hX
  obtain ⟨hs, hg⟩ := World.ownsRow.stored hX i u
  have hkb : (rv k).ownBlock = some b := by rw [hb]; rfl
  refine ⟨h.outer.kept hg (.inr (fun e => ?_)), fun j hj => ?_, h.chg.setCell (.inl ⟨k, hk, hkb⟩) u⟩
  · exact rows_ne hX h.outer hne b rfl e
  · by_cases hjk : j = k
    · subst hjk;refine ⟨X.set i u, by rw [hb]; exact hs, fun hlt => absurd hlt (by omega), fun _ => ?_⟩;have hlen : i < X.length := by rw [hX.1]; omega
      have := hX2 rfl;rw [Nat.mul_one] at this ⊢;rw [mrow_snoc, hu, ← this, List.take_set, List.take_add_one, List.set_append, if_neg (by simp; omega), List.getElem?_eq_getElem hlen];simp [Nat.min_eq_left (Nat.le_of_lt hlen)]
    · obtain ⟨Y, hY, hY1, hY2⟩ := h.rows j hj;refine ⟨Y, hY.kept hg (.inr (fun e => hsep k j hk hj (fun h => hjk h.symm) b hkb e)), hY1, fun e => absurd e hjk⟩
theorem FA.made (h : FA e eo size mk base K vo rv L w0 K 0 w) {w' : World} (hg : w.grownBy w' none) (hm : w'.ownsRow base eo 1 (.slice (some ⟨w.heap.size, 0, none⟩) K K) K (List.replicate K (.slice none 0 0))) :
    FB e eo size mk base K vo rv L w0 w.heap.size 0 (fun _ => .slice none 0 0) w' := by
  have kp : ∀ {base : Nat} {e : TypeId} {size : Nat} {v : Value} {n : Nat} {xs : List Value}, w.ownsRow base e size v n xs → w'.ownsRow base e size v n xs := fun {_ _ _ v _ _} h => h.kept hg (by
    cases hv : v.ownBlock with
    | none => exact .inl rfl
    | some b => exact .inr (fun e => by cases e))
  refine ⟨kp h.outer, fun j hj => ?_, ?_, ?_, h.chg.size, fun j hj => absurd hj (by omega), fun i j _ hj => absurd hj (by omega), h.chg.grown hg (fun k e => by cases e)⟩
  · obtain ⟨X, hX, h1, _⟩ := h.rows j hj;rw [← h1 hj];exact kp hX
  · have : ((List.range K).map fun j => if j < 0 then (Value.slice none 0 0) else .slice none 0 0) = List.replicate K (.slice none 0 0) := by
      refine List.ext_getElem (by simp) fun i h1 h2 => by simp
    rw [this];exact hm
  · intro e;have := (row_lt h.outer _ e).2;omega
theorem FB.start (h : FB e eo size mk base K vo rv L w0 G k gv w) (hsep : ∀ i j, i < K → j < K → i ≠ j → SepF (rv i) (rv j)) (hk : k < K) : FBi e eo size mk base K vo rv L w0 G k 0 gv (rv k) w :=
  ⟨h, h.rows k hk, fun j hj hne => hsep j k hj hk hne, fun j hj => (h.sep1 k j hk hj (by omega)).symm, fun b hb => .inl ⟨k, hk, hb⟩⟩
theorem FB.row (h : FB e eo size mk base K vo rv L w0 G k gv w) {j : Nat} (hj : j < K) : ∃ a c, rv j = .slice a (L j) c ∧ L j ≤ c ∧ c ≤ maxLen := by
  rcases (h.rows j hj).2 with ⟨e1, e2⟩ | ⟨g, cap, cur, e1, _, _, h1, h2, _⟩
  · exact ⟨none, 0, by rw [e1, e2], by omega, by omega⟩
  · exact ⟨_, cap, e1, h1, h2⟩
theorem FBi.step (h : FBi e eo size mk base K vo rv L w0 G k i gv g w) (hne : e ≠ eo) (hk : k < K) {g' : Value} {w' : World} {b' H : Nat} (hrow : w'.ownsRow base e size g' (L k + i + 1) (mrow mk k (L k + i) ++ mk k (L k + i)))
    (hg : w.grownBy w' g.ownBlock) (hb' : g'.ownBlock = some b') (hat : some b' = g.ownBlock ∨ b' = H) (hH : w.heap.size ≤ H) (hkeep : KeepR e size g (L k + i) w w') : FBi e eo size mk base K vo rv L w0 G k (i + 1) gv g' w' := by
  have oth : ∀ {v : Value} {xs : List Value}, w.ownsRow base eo 1 v K xs → w'.ownsRow base eo 1 v K xs := fun {v xs} ho => ho.kept hg (by
    cases hv : v.ownBlock with
    | none => exact .inl rfl
    | some b => exact .inr (fun e => rows_ne ho h.row (fun h => hne h.symm) b hv e.symm))
  have hrw : ∀ j, j < K → w'.ownsRow base e size (rv j) (L j) (mrow mk j (L j)) := fun j hj => hkeep _ _ _ _ (h.fb.rows j hj) (fun b h1 h2 => by
    by_cases hjk : j = k
    · subst hjk; omega
    · exact absurd h2 (h.s1 j hj hjk b h1))
  have hgr : ∀ j, j < k → w'.ownsRow base e size (gv j) (L j + 64) (mrow mk j (L j + 64)) := fun j hj => hkeep _ _ _ _ (h.fb.grow j hj) (fun b h1 h2 => absurd h2 (h.s2 j hj b h1))
  have sp : ∀ {v : Value}, SepF v g → (∀ b, v.ownBlock = some b → b < w.heap.size) → SepF v g' := fun {v} hs hlt b h1 h2 => by
    rw [hb'] at h2;injection h2 with h2;subst h2;rcases hat with hat | hat
    · exact hs _ h1 hat.symm
    · have := hlt _ h1;omega
  refine ⟨⟨oth h.fb.outer, hrw, oth h.fb.gs, h.fb.gne, h.fb.gnew, hgr, h.fb.sep1, h.fb.chg.grown hg h.blk⟩, ?_, ?_, ?_, ?_⟩
  · have := mrow_snoc mk k (L k + i);rw [← this] at hrow;exact hrow
  · intro j hj hjk;exact sp (h.s1 j hj hjk) (fun b hb => (row_lt (h.fb.rows j hj) b hb).2)
  · intro j hj;exact sp (h.s2 j hj) (fun b hb => (row_lt (h.fb.grow j hj) b hb).2)
  · intro b hb;rw [hb'] at hb;injection hb with hb;subst hb;rcases hat with hat | hat
    · exact h.blk _ hat.symm
    · have := h.fb.chg.size;exact .inr (by omega)
theorem FBi.fin (h : FBi e eo size mk base K vo rv L w0 G k 64 gv g w) (hne : e ≠ eo) (hk : k < K) : FB e eo size mk base K vo rv L w0 G (k + 1) (fun j => if j = k then g else gv j) (w.setCell ⟨G, k, none⟩ g) := by
  obtain ⟨hs, hg⟩ := World.ownsRow.stored h.fb.gs k g
  have oth : ∀ {v : Value} {n : Nat} {xs : List Value}, w.ownsRow base e size v n xs → (w.setCell ⟨G, k, none⟩ g).ownsRow base e size v n xs := fun {v n xs} ho => ho.kept hg (by
    cases hv : v.ownBlock with
    | none => exact .inl rfl
    | some b => exact .inr (fun e => rows_ne ho h.fb.gs hne b hv (by rw [e]; rfl)))
  refine ⟨h.fb.outer.kept hg (.inr h.fb.gne), fun j hj => oth (h.fb.rows j hj), ?_, h.fb.gne, h.fb.gnew, fun j hj => ?_, fun i j hi hj hij => ?_, h.fb.chg.setCell (.inr h.fb.gnew) g⟩
  · rw [range_map_set] at hs;have : (fun j => if j = k then g else if j < k then gv j else (Value.slice none 0 0)) = (fun j => if j < k + 1 then (if j = k then g else gv j) else .slice none 0 0) := by
      funext j
      by_cases h1 : j = k
      · subst h1; simp
      · by_cases h2 : j < k
        · simp [h1, h2, show j < k + 1 by omega]
        · simp [h1, h2, show ¬ j < k + 1 by omega]
    rw [this] at hs;exact hs
  · by_cases hjk : j = k
    · subst hjk;simp only [if_true];exact oth h.row
    · simp only [hjk, if_false];exact oth (h.fb.grow j (by omega))
  · by_cases hjk : j = k
    · subst hjk;simp only [if_true];exact h.s1 i hi hij
    · simp only [hjk, if_false];exact h.fb.sep1 i j hi (by omega) hij
theorem FB.outs (h : FB e eo size mk base K vo rv L w0 G k gv w) {j : Nat} (hj : j < K) : ∃ O c, vo = .slice (some ⟨O, 0, none⟩) K c ∧ w.cell? ⟨O, j, none⟩ = some (rv j) ∧ w.cell? ⟨G, j, none⟩ = some (if j < k then gv j else .slice none 0 0) ∧ w.frozen? ⟨G, j, none⟩ = false := by
  rcases h.outer.2 with ⟨_, e2⟩ | ⟨O, c, cur, e1, _⟩
  · omega
  · have ho := h.outer;rw [e1] at ho;refine ⟨O, c, e1, ?_, ?_, World.ownsRow.frozenAt h.gs j⟩
    · rw [World.ownsRow.cellAt ho j (by omega)];simp [hj]
    · rw [World.ownsRow.cellAt h.gs j (by omega)];simp [hj]
theorem FA.outs (h : FA e eo size mk base K vo rv L w0 k i w) {j : Nat} (hj : j < K) : ∃ O c, vo = .slice (some ⟨O, 0, none⟩) K c ∧ w.cell? ⟨O, j, none⟩ = some (rv j) := by
  rcases h.outer.2 with ⟨_, e2⟩ | ⟨O, c, cur, e1, _⟩
  · omega
  · have ho := h.outer;rw [e1] at ho;refine ⟨O, c, e1, ?_⟩;rw [World.ownsRow.cellAt ho j (by omega)];simp [hj]
theorem row_cell {w : World} {base : Nat} {e : TypeId} {v : Value} {n : Nat} {xs : List Value} (h : w.ownsRow base e 1 v n xs) {i : Nat} (hi : i < n) {u : Value} (hu : xs[i]? = some u) :
    ∃ b c, v = .slice (some ⟨b, 0, none⟩) n c ∧ w.cell? ⟨b, i, none⟩ = some u := by
  rcases h.2 with ⟨_, e2⟩ | ⟨b, c, cur, rfl, _⟩
  · omega
  · exact ⟨b, c, rfl, by rw [World.ownsRow.cellAt h i (by omega)]; exact hu⟩
theorem FB.toD (h : FB e eo size mk base K vo rv L w0 G K gv w) : FD e eo size mk base K vo rv L w0 G 0 (fun j => if j < K then gv j else .slice none 0 0) w :=
  ⟨h.outer, h.rows, h.gs, h.gne, h.gnew, fun j hj => absurd hj (by omega), fun i j _ hj => absurd hj (by omega), h.chg⟩
theorem FD.drewN (h : FD e eo size mk base K vo rv L w0 G k gl w) (q : Nat) : FD e eo size mk base K vo rv L w0 G k gl (w.drewN q) := ⟨h.outer, h.rows, h.gs, h.gne, h.gnew, h.grow, h.sep1, h.chg.drewN q⟩
theorem FD.made (h : FD e eo size mk base K vo rv L w0 G k gl w) {w' : World} (hg : w.grownBy w' none) {Y : List Value} (hm : w'.ownsRow base e size (.slice (some ⟨w.heap.size, 0, none⟩) 64 64) 64 Y) (hY : ∀ u ∈ Y, u.oneCell' = true) (hk : k ≤ K) :
    FDi e eo size mk base K vo rv L w0 G k gl w.heap.size w' := by
  have kp : ∀ {base : Nat} {e : TypeId} {size : Nat} {v : Value} {n : Nat} {xs : List Value}, w.ownsRow base e size v n xs → w'.ownsRow base e size v n xs := fun {_ _ _ v _ _} h => h.kept hg (by
    cases hv : v.ownBlock with
    | none => exact .inl rfl
    | some b => exact .inr (fun e => by cases e))
  refine ⟨⟨kp h.outer, fun j hj => kp (h.rows j hj), kp h.gs, h.gne, h.gnew, fun j hj => ?_, h.sep1, h.chg.grown hg (fun k e => by cases e)⟩, ⟨Y, hm, hY⟩, fun j hj e => ?_, fun j hj e => ?_, h.chg.size⟩
  · obtain ⟨Z, hZ⟩ := h.grow j hj;exact ⟨Z, kp hZ⟩
  · have := (row_lt (h.rows j hj) _ e).2;omega
  · obtain ⟨Z, hZ⟩ := h.grow j hj;have := (row_lt hZ _ e).2;omega
theorem FDi.set_ {M : Nat} (h : FDi e eo size mk base K vo rv L w0 G k gl M w) (hne : e ≠ eo) (i : Nat) (u : Value) (hu : u.oneCell' = true) : FDi e eo size mk base K vo rv L w0 G k gl M (w.setCell ⟨M, i, none⟩ u) := by
  obtain ⟨Y, hY, hY1⟩ := h.many
  obtain ⟨hs, hg⟩ := World.ownsRow.stored hY i u
  refine ⟨⟨h.fd.outer.kept hg (.inr (fun e => rows_ne hY h.fd.outer hne M rfl e)), fun j hj => (h.fd.rows j hj).kept hg (.inr (h.m1 j hj)), h.fd.gs.kept hg (.inr (fun e => rows_ne hY h.fd.gs hne M rfl e)), h.fd.gne, h.fd.gnew, fun j hj => ?_, h.fd.sep1, h.fd.chg.setCell (.inr h.mnew) u⟩, ⟨_, hs, fun v hv => ?_⟩, h.m1, h.m2, h.mnew⟩
  · obtain ⟨Z, hZ⟩ := h.fd.grow j hj;exact ⟨Z, hZ.kept hg (.inr (h.m2 j hj))⟩
  · rcases List.mem_or_eq_of_mem_set hv with hv | hv
    · exact hY1 v hv
    · rw [hv]; exact hu
theorem FDi.fin {M : Nat} (h : FDi e eo size mk base K vo rv L w0 G k gl M w) (hne : e ≠ eo) (hsep : ∀ i j, i < K → j < K → i ≠ j → SepF (rv i) (rv j)) (hk : k < K) {v' : Value} {w' : World} {Y : List Value} (hrow : w'.ownsRow base e size v' (L k + 64) (mrow mk k (L k) ++ Y))
    (hg : w.grownBy w' (rv k).ownBlock) (hat : v'.ownBlock = (rv k).ownBlock ∨ v'.ownBlock = some w.heap.size) (hkeep : KeepR e size (rv k) (L k) w w') : FD e eo size mk base K vo rv L w0 G (k + 1) (fun j => if j = k then v' else gl j) (w'.setCell ⟨G, k, none⟩ v') := by
  have oth : ∀ {v : Value} {xs : List Value}, w.ownsRow base eo 1 v K xs → w'.ownsRow base eo 1 v K xs := fun {v xs} ho => ho.kept hg (by
    cases hv : v.ownBlock with
    | none => exact .inl rfl
    | some b => exact .inr (fun e => rows_ne ho (h.fd.rows k hk) (fun h => hne h.symm) b hv e.symm))
  obtain ⟨hs, hg2⟩ := World.ownsRow.stored (oth h.fd.gs) k v'
  have oth2 : ∀ {v : Value} {n : Nat} {xs : List Value}, w'.ownsRow base e size v n xs → (w'.setCell ⟨G, k, none⟩ v').ownsRow base e size v n xs := fun {v n xs} ho => ho.kept hg2 (by
    cases hv : v.ownBlock with
    | none => exact .inl rfl
    | some b => exact .inr (fun e => rows_ne ho (oth h.fd.gs) hne b hv (by rw [e]; rfl)))
  refine ⟨(oth h.fd.outer).kept hg2 (.inr h.fd.gne), fun j hj => oth2 (hkeep _ _ _ _ (h.fd.rows j hj) (fun b h1 h2 => ?_)), ?_, h.fd.gne, h.fd.gnew, fun j hj => ?_, fun i j hi hj hij => ?_, (h.fd.chg.grown hg (fun b hb => .inl ⟨k, hk, hb⟩)).setCell (.inr h.fd.gnew) v'⟩
  · by_cases hjk : j = k
    · subst hjk; exact Nat.le_refl _
    · exact absurd h2 (hsep j k hj hk hjk b h1)
  · rw [range_map_set] at hs;exact hs
  · by_cases hjk : j = k
    · subst hjk;simp only [if_true];exact ⟨Y, oth2 hrow⟩
    · simp only [hjk, if_false];obtain ⟨Z, hZ⟩ := h.fd.grow j (by omega);exact ⟨Z, oth2 (hkeep _ _ _ _ hZ (fun b h1 h2 => absurd h1 (h.fd.sep1 k j hk (by omega) (fun h => hjk h.symm) b h2)))⟩
  · by_cases hjk : j = k
    · subst hjk;simp only [if_true];intro b h1 h2;rcases hat with hat | hat
      · exact hsep i j hi hk hij b h1 (by rw [← hat]; exact h2)
      · rw [hat] at h2;injection h2 with h2;have := (row_lt (h.fd.rows i hi) b h1).2;omega
    · simp only [hjk, if_false];exact h.fd.sep1 i j hi (by omega) hij
theorem FD.outs (h : FD e eo size mk base K vo rv L w0 G k gl w) {j : Nat} (hj : j < K) : ∃ O c, vo = .slice (some ⟨O, 0, none⟩) K c ∧ w.cell? ⟨O, j, none⟩ = some (rv j) ∧ w.cell? ⟨G, j, none⟩ = some (gl j) ∧ w.frozen? ⟨G, j, none⟩ = false ∧ O < w.heap.size ∧ G < w.heap.size := by
  rcases h.outer.2 with ⟨_, e2⟩ | ⟨O, c, cur, e1, _, hh, _⟩
  · omega
  · have ho := h.outer;rw [e1] at ho;refine ⟨O, c, e1, ?_, ?_, World.ownsRow.frozenAt h.gs j, (Array.getElem?_eq_some_iff.1 hh).1, (row_lt h.gs G rfl).2⟩
    · rw [World.ownsRow.cellAt ho j (by omega)];simp [hj]
    · rw [World.ownsRow.cellAt h.gs j (by omega)];simp [hj]
theorem FD.row (h : FD e eo size mk base K vo rv L w0 G k gl w) {j : Nat} (hj : j < K) : ∃ a c, rv j = .slice a (L j) c ∧ L j ≤ c ∧ c ≤ maxLen := by
  rcases (h.rows j hj).2 with ⟨e1, e2⟩ | ⟨g, cap, cur, e1, _, _, h1, h2, _⟩
  · exact ⟨none, 0, by rw [e1, e2], by omega, by omega⟩
  · exact ⟨_, cap, e1, h1, h2⟩
end
end

section
open Go.RowKit
section
variable {P : Program} {Q : Exit → Act → World → Prop}
theorem wpList_store_rowB {ops : Array Oper} {rest : List Oper} {o : Oper} {a : Act} {w : World} (hgd : o.guard = none) (ty : TypeId) (x y : Operand) (ho : o.op = .store ty x y)
    (g : Nat) (cells : Array Value) (hx : a.eval x = .pointer (some ⟨g, 0, none⟩)) (hy : a.eval y = .agg cells)
    (t : TypeId) (old : Array Value) (hg : w.heap[g]? = some (.cells old t (0, 0))) (hi : (P.info? ty).map (·.size) = some cells.size)
    (hold : old.size = cells.size) (h1 : cells.all (·.oneCell') = true) (B : Nat) (w0 : World) (hb : Below B w0 w) (hB : B ≤ g)
    (h : ∀ W', Below B w0 W' → W'.heap[g]? = some (.cells cells t (0, 0)) → wpList P ops Q rest (a.put o.dst undef) W') : wpList P ops Q (o :: rest) a w :=
  wpList_store_row hgd ty x y ho g cells hx hy t old hg hi hold h1 (h _ (below_setRow hb hB _) (setRow_heap _ _ _ _ _ _ hg))
end
theorem unDrew1 {w w2 : World} (h : Below w.drew.heap.size w.drew w2) : Below w.heap.size w w2 := ⟨h.os, h.tape, h.output, h.size, h.block⟩
theorem own_form {w : World} {base : Nat} {e : TypeId} {size : Nat} {v : Value} {n : Nat} {xs : List Value} (h : w.ownsRow base e size v n xs) (hn : 0 < n) : ∃ g c, v = .slice (some ⟨g, 0, none⟩) n c := by
  rcases h.2 with ⟨_, h0⟩ | ⟨g, cap, cur, hv, _⟩
  · omega
  · exact ⟨g, cap, hv⟩
theorem intsOwn {w : World} {base : Nat} {e : TypeId} {g n c : Nat} {xs : List Int} (h : w.ownsRow base e 1 (.slice (some ⟨g, 0, none⟩) n c) n (xs.map (Value.int .i64))) (hx : ∀ x ∈ xs, I64 x) (hn : n ≤ 17592186044416) : Ints w (some ⟨g, 0, none⟩) n xs := by
  have hl : xs.length = n := by have := h.1; simpa using this
  refine ⟨hl, hn, fun k hk => ⟨g, 0, rfl, ?_, ?_⟩⟩
  · rw [Nat.zero_add, World.ownsRow.cellAt h k (by omega)];simp [List.getD_eq_getElem?_getD, show k < xs.length by omega]
  · have : xs.getD k 0 ∈ xs := by
      rw [List.getD_eq_getElem?_getD, List.getElem?_eq_getElem (by omega)];exact List.getElem_mem _
    exact hx _ this
theorem Ints.mem {w : World} {a : Option Addr} {n : Nat} {xs : List Int} (h : Ints w a n xs) : ∀ x ∈ xs, I64 x := by
  intro x hx
  obtain ⟨k, hk, e⟩ := List.mem_iff_getElem.1 hx
  obtain ⟨_, _, _, _, hi⟩ := h.2.2 k (by rw [← h.1]; exact hk)
  rw [List.getD_eq_getElem?_getD, List.getElem?_eq_getElem hk, Option.getD_some, e] at hi
  exact hi
theorem block_ext {w w' : World} (h : Below w.heap.size w w') {k : Nat} {o : Obj} (hk : w.heap[k]? = some o) : w'.heap[k]? = some o := (h.block k (Array.getElem?_eq_some_iff.1 hk).1).trans hk
end

section
open Go.RowKit
theorem flatMap_at {α : Type} (cs : α → List Value) (size : Nat) (hs : ∀ x, (cs x).length = size) (l : List α) (k j : Nat) (hj : j < size) (x : α) (hx : l[k]? = some x) : (l.flatMap cs)[k * size + j]? = (cs x)[j]? := by
  induction l generalizing k with
  | nil => simp at hx
  | cons y l ih =>
    rw [List.flatMap_cons];cases k with
    | zero =>
      simp only [List.getElem?_cons_zero, Option.some.injEq] at hx;subst hx;rw [Nat.zero_mul, Nat.zero_add, List.getElem?_append_left (by rw [hs]; exact hj)]
    | succ k =>
      simp only [List.getElem?_cons_succ] at hx;rw [List.getElem?_append_right (by rw [hs, Nat.add_mul]; omega), hs, show (k + 1) * size + j - size = k * size + j by rw [Nat.add_mul]; omega];exact ih k hx
theorem flatMap_len {α : Type} (cs : α → List Value) (size : Nat) (hs : ∀ x, (cs x).length = size) (l : List α) : (l.flatMap cs).length = l.length * size := by
  induction l with
  | nil => simp
  | cons y l ih => rw [List.flatMap_cons, List.length_append, ih, hs, List.length_cons, Nat.add_mul]; omega
theorem takeS {α : Type} (l : List α) (k : Nat) (d : α) (h : k < l.length) : l.take (k + 1) = l.take k ++ [l.getD k d] := by
  rw [List.take_add_one, List.getElem?_eq_getElem h]
  simp [List.getD_eq_getElem?_getD, h]
def Recs {α : Type} (size : Nat) (cs : α → List Value) (w : World) (a : Option Addr) (n : Nat) (ls : List α) : Prop :=
  ls.length = n ∧ n ≤ 17592186044416 ∧ ∀ k x, ls[k]? = some x → ∃ b o, a = some ⟨b, o, none⟩ ∧ ∀ j, j < size → w.cell? ⟨b, o + k * size + j, none⟩ = (cs x)[j]?
section
variable {α : Type} {size : Nat} {cs : α → List Value} {w w' : World} {a : Option Addr} {n : Nat} {ls : List α}
theorem Recs.ext (h : Recs size cs w a n ls) (hs : ∀ x, (cs x).length = size) (hb : Below w.heap.size w w') : Recs size cs w' a n ls :=
  ⟨h.1, h.2.1, fun k x hx => by
    obtain ⟨b, o, e, hc⟩ := h.2.2 k x hx;refine ⟨b, o, e, fun j hj => ?_⟩;have h1 := hc j hj;rw [List.getElem?_eq_getElem (by rw [hs]; exact hj)] at h1 ⊢;exact cell_ext hb h1⟩
theorem Recs.nil (size : Nat) (cs : α → List Value) (w : World) : Recs size cs w none 0 [] := ⟨rfl, by omega, fun k x hx => by simp at hx⟩
theorem Recs.at_ (h : Recs size cs w a n ls) {k : Nat} (hk : k < n) (d : α) : ∃ b o, a = some ⟨b, o, none⟩ ∧ ∀ j, j < size → w.cell? ⟨b, o + k * size + j, none⟩ = (cs (ls.getD k d))[j]? := by
  have hk' : k < ls.length := by rw [h.1]; exact hk
  obtain ⟨b, o, e, hc⟩ := h.2.2 k (ls.getD k d) (by simp [List.getD_eq_getElem?_getD, hk'])
  exact ⟨b, o, e, hc⟩
theorem recs_of_own {base : Nat} {e : TypeId} {v : Value} (hs : ∀ x, (cs x).length = size) (h : w.ownsRow base e size v ls.length (ls.flatMap cs)) (hl : ls.length ≤ 17592186044416) : ∃ a c, v = .slice a ls.length c ∧ Recs size cs w a ls.length ls ∧ ∀ g o s, a = some ⟨g, o, s⟩ → base ≤ g := by
  rcases h.2 with ⟨rfl, h0⟩ | ⟨g, cap, cur, rfl, hb, _⟩
  · have : ls = [] := List.eq_nil_of_length_eq_zero h0;subst this;exact ⟨none, 0, rfl, ⟨rfl, hl, fun k x hx => by simp at hx⟩, fun g o s e => by cases e⟩
  · refine ⟨some ⟨g, 0, none⟩, cap, rfl, ⟨rfl, hl, fun k x hx => ⟨g, 0, rfl, fun j hj => ?_⟩⟩, fun g' o s e => ?_⟩
    · have hk := (List.getElem?_eq_some_iff.1 hx).1;have hlt : k * size + j < ls.length * size := by
        have : (k + 1) * size ≤ ls.length * size := Nat.mul_le_mul_right _ hk;rw [Nat.add_mul] at this;omega
      rw [Nat.zero_add, World.ownsRow.cellAt h (k * size + j) hlt, flatMap_at cs size hs ls k j hj x hx]
    · simp only [Option.some.injEq, Addr.mk.injEq] at e;omega
end
end

section
open Go.RowKit
theorem addr_add (b o m : Nat) : (⟨b, o, none⟩ : Addr).add m = ⟨b, o + m, none⟩ := by
  unfold Addr.add
  split <;> simp_all
section
variable {P : Program} {Q : Exit → Act → World → Prop}
theorem run_append_rows (w : World) (base : Nat) (t ty e : TypeId) (z : Value) (size bytes : Nat) (ht : P.underlying t = some (.slice e)) (hinfo : (P.info? e).map (fun i => (i.zero, i.size, i.bytes)) = some (some z, size, bytes)) (hzs : z.cells.size = size) (hsz : 0 < size)
    (v : Value) (n : Nat) (xs : List Value) (hown : w.ownsRow base e size v n xs) (A : Option Addr) (m c : Nat) (news : List Value) (hl : news.length = m * size)
    (hr : ∀ j u, news[j]? = some u → ∃ ad, A = some ad ∧ w.cell? (ad.add j) = some u) (h1 : ∀ u ∈ news, u.oneCell' = true)
    (h63 : n + m ≤ maxLen) (hbytes : (n + m) * bytes ≤ 140737488355328) (hbase : base ≤ w.heap.size) :
    ∃ v' w', (Builtin.append_ #[t, t] ty #[v, .slice A m c]).run P w = .ok v' w' ∧ w'.ownsRow base e size v' (n + m) (xs ++ news) ∧ w.grownBy w' v.ownBlock ∧ (v'.ownBlock = v.ownBlock ∨ v'.ownBlock = some w.heap.size) := by
  obtain ⟨i, hi, hz, hsize, hby⟩ := info_parts hinfo
  rcases A with _ | ad
  · have hm : news = [] := by
      cases news with
      | nil => rfl
      | cons u l => obtain ⟨ad, h, _⟩ := hr 0 u rfl; cases h
    subst hm;obtain rfl : m = 0 := by
      simp only [List.length_nil] at hl;rcases Nat.mul_eq_zero.1 hl.symm with h | h <;> omega
    refine ⟨v, w, ?_, by simpa using hown, ⟨rfl, rfl, rfl, Nat.le_refl _, fun _ _ _ => rfl⟩, Or.inl rfl⟩;rcases hown.2 with ⟨rfl, rfl⟩ | ⟨g, cap, cur, rfl, _, _, hnc, _⟩
    · simp [Builtin.append_, run_underlying ht, sizeOf, typeInfo, hi, Builtin.lenOf, Builtin.firstCells]
    · simp [Builtin.append_, run_underlying ht, sizeOf, typeInfo, hi, Builtin.lenOf, Builtin.firstCells, hnc, storeCells]
  · obtain ⟨v', w', hrun, h2, h3, _, h5⟩ := run_append_own_at (P := P) w base t ty e i z size bytes ht hi hz hsize hby hzs hsz v n xs hown ad m c news hl
      (fun j u hu => by obtain ⟨ad', h, hc⟩ := hr j u hu; cases h; exact hc) h1 h63 hbytes hbase
    exact ⟨v', w', hrun, h2, h3, h5⟩
theorem wpList_appendR {ops : Array Oper} {rest : List Oper} {o : Oper} {a : Act} (w : World) (hgd : o.guard = none) (s x : Operand) (t e : TypeId) (ho : o.op = .call { callee := .builtin .append, args := #[s, x], argTypes := #[t, t] })
    (base : Nat) (z : Value) (size bytes : Nat) (ht : P.underlying t = some (.slice e)) (hinfo : (P.info? e).map (fun i => (i.zero, i.size, i.bytes)) = some (some z, size, bytes)) (hzs : z.cells.size = size) (hsz : 0 < size)
    (v : Value) (n : Nat) (xs : List Value) (hs : a.eval s = v) (hown : w.ownsRow base e size v n xs) (A : Option Addr) (m c : Nat) (hx : a.eval x = .slice A m c) (news : List Value) (hl : news.length = m * size)
    (hr : ∀ j u, news[j]? = some u → ∃ ad, A = some ad ∧ w.cell? (ad.add j) = some u) (h1 : ∀ u ∈ news, u.oneCell' = true)
    (h63 : n + m ≤ maxLen) (hbytes : (n + m) * bytes ≤ 140737488355328) (hbase : base ≤ w.heap.size)
    (h : ∀ v' w', w'.ownsRow base e size v' (n + m) (xs ++ news) → w.grownBy w' v.ownBlock → (v'.ownBlock = v.ownBlock ∨ v'.ownBlock = some w.heap.size) → wpList P ops Q rest (a.put o.dst v') w') :
    wpList P ops Q (o :: rest) a w := by
  refine wpList_plain hgd fun K hK => ?_
  obtain ⟨v', w', hrun, h2, h3, h4⟩ := run_append_rows (P := P) w base t o.type e z size bytes ht hinfo hzs hsz v n xs hown A m c news hl hr h1 h63 hbytes hbase
  unfold Oper.wp execOp
  simp only [ho, resolve, invoke, builtin, Sem.run_bind, Sem.run_pure, Result.andThen_ok, List.map_toArray, List.map_cons, List.map_nil, hs, hx, hrun]
  exact hK _ _ (h v' w' h2 h3 h4)
end
theorem Ints.news {w : World} {a : Option Addr} {n : Nat} {xs : List Int} (h : Ints w a n xs) : ∀ j u, (xs.map (Value.int .i64))[j]? = some u → ∃ ad, a = some ad ∧ w.cell? (ad.add j) = some u := by
  intro j u hu
  rw [List.getElem?_map, Option.map_eq_some_iff] at hu
  obtain ⟨x, hx, rfl⟩ := hu
  have hlt := (List.getElem?_eq_some_iff.1 hx).1
  obtain ⟨b, o, e, hc, _⟩ := h.2.2 j (by rw [← h.1]; exact hlt)
  refine ⟨_, e, ?_⟩
  rw [addr_add, hc]
  simp [List.getD_eq_getElem?_getD, hx]
theorem Recs.news {α : Type} {size : Nat} {cs : α → List Value} {w : World} {a : Option Addr} {n : Nat} {ls : List α} (h : Recs size cs w a n ls) (hs : ∀ x, (cs x).length = size) (hpos : 0 < size) : ∀ j u, (ls.flatMap cs)[j]? = some u → ∃ ad, a = some ad ∧ w.cell? (ad.add j) = some u := by
  intro j u hu
  have hlt := (List.getElem?_eq_some_iff.1 hu).1
  rw [flatMap_len cs size hs] at hlt
  have hk : j / size < ls.length := Nat.div_lt_of_lt_mul (by rw [Nat.mul_comm]; exact hlt)
  have hj : j % size < size := Nat.mod_lt _ hpos
  have em : j = j / size * size + j % size := by rw [Nat.mul_comm]; exact (Nat.div_add_mod j size).symm
  obtain ⟨b, o, e, hc⟩ := h.2.2 (j / size) ls[j / size] (List.getElem?_eq_getElem hk)
  refine ⟨_, e, ?_⟩
  rw [addr_add, show o + j = o + j / size * size + j % size by omega, hc _ hj, ← flatMap_at cs size hs ls _ _ hj _ (List.getElem?_eq_getElem hk), ← em]
  exact hu
end

section
open Go.RowKit
theorem lentInfoI : (Tryz.prog.info? 3).map (fun i => (i.zero, i.size, i.bytes)) = some (some (.int .i64 0), 1, 8) := by kernel_rfl
def marks : List Int := (List.range 12).map fun (i : Nat) => markV 1 (i : Int)
theorem marks_len : marks.length = 12 := by simp [marks]
theorem marks_at (k : Nat) (h : k < 12) : marks.getD k 0 = markV 1 (k : Int) := by simp [marks, List.getD, h]
def lentVals (xs : List Int) : List Value := xs.map (Value.int .i64)
theorem lentVals_len (xs : List Int) : (lentVals xs).length = xs.length := by simp [lentVals]
theorem lentVals_one (xs : List Int) : ∀ u ∈ lentVals xs, u.oneCell' = true := by
  intro u hu
  simp only [lentVals, List.mem_map] at hu
  obtain ⟨x, _, rfl⟩ := hu
  rfl
def Lent (w : World) (base : Nat) (v : Value) (xs : List Int) : Prop :=
  ∃ g cap, v = .slice (some ⟨g, 0, none⟩) xs.length cap ∧ w.ownsRow base 3 1 (.slice (some ⟨g, 0, none⟩) (xs.length + 12) cap) (xs.length + 12) (lentVals (xs ++ marks))
def LentPost (w : World) (xs : List Int) (e : Ending) (w' : World) : Prop := ∃ v, e = .returned v ∧ Lent w' w.heap.size v xs ∧ Below w.heap.size w w'
theorem Lent.ext {w w' : World} {base : Nat} {v : Value} {xs : List Int} (h : Lent w base v xs) (hb : Below w.heap.size w w') : Lent w' base v xs := by
  obtain ⟨g, cap, rfl, hown⟩ := h
  exact ⟨g, cap, rfl, (Steady.ownsRow w.heap.size _ _ _ _ _ _).ext hown hb⟩
theorem Lent.cells {w : World} {base : Nat} {v : Value} {xs : List Int} (h : Lent w base v xs) : ∃ g cap, v = .slice (some ⟨g, 0, none⟩) xs.length cap ∧ xs.length + 12 ≤ cap ∧ cap ≤ maxLen ∧
    (∀ k, k < xs.length → w.cell? ⟨g, k, none⟩ = some (.int .i64 (xs.getD k 0))) ∧ (∀ k, k < 12 → w.cell? ⟨g, xs.length + k, none⟩ = some (.int .i64 (markV 1 (k : Int)))) := by
  obtain ⟨g, cap, rfl, hown⟩ := h
  have hadd : ∀ k, (⟨g, 0, none⟩ : Addr).add k = ⟨g, k, none⟩ := fun k => by unfold Addr.add; split <;> simp_all
  have hc : xs.length + 12 ≤ cap ∧ cap ≤ maxLen := by
    rcases hown.2 with ⟨h0, _⟩ | ⟨g', cap', cur, hv, _, _, h1, h2, _⟩
    · cases h0
    · injection hv with _ _ hcc;subst hcc;exact ⟨h1, h2⟩
  refine ⟨g, cap, rfl, hc.1, hc.2, fun k hk => ?_, fun k hk => ?_⟩
  · have := hown.cells (g := g) rfl k (.int .i64 (xs.getD k 0)) (by rw [lentVals, List.map_append, List.getElem?_append_left (by simpa using hk)]; simp [List.getD, hk])
    rwa [hadd] at this
  · have := hown.cells (g := g) rfl (xs.length + k) (.int .i64 (marks.getD k 0)) (by
      have hk' : k < marks.length := by rw [marks_len]; exact hk
      simp [lentVals, List.getElem?_append_right, List.getD, hk'])
    rw [marks_at k hk, hadd] at this;exact this
theorem Lent.ints {w : World} {base : Nat} {v : Value} {xs : List Int} (h : Lent w base v xs) (hl : xs.length ≤ 17592186044416) (hw : ∀ x ∈ xs, I64 x) : ∃ a c, v = .slice a xs.length c ∧ Ints w a xs.length xs := by
  obtain ⟨g, cap, rfl, _, _, h1, _⟩ := h.cells
  exact ⟨_, _, rfl, rfl, hl, fun k hk => ⟨g, 0, rfl, by simpa using h1 k hk, hw _ (by simp [List.getD, hk])⟩⟩
theorem lentInts_any (a : Option Addr) (n c : Nat) (xs : List Int) (w : World) (h : Ints w a n xs) (hn : n ≤ 1000000) :
    Calls Tryz.prog 52 #[.slice a n c] w (LentPost w xs) := by
  obtain ⟨i0, hi, hz0, hz1, hz2⟩ := info_parts (P := Tryz.prog) lentInfoI
  have HL := Lib.hid h.1
  have H := Lib.hid h
  clear h
  go_enter Tryz.func52, Tryz.ntmps52
  go_wp2_with (first
    | (at_make
       refine wpList_make_own _ rfl _ _ 22 rfl w.heap.size 3 i0 (.int .i64 0) 1 Tryz.underlying22 hi hz0 hz1 .i64 .i64 _ (n + 12) rfl rfl (by omega) (by rw [hz2]; omega) (by simp only [maxLen]; omega) (Nat.le_refl _) ?_;intro w1 hown1 hg1;have HO1 := Lib.hid hown1;have HB1 : Hid (Below w.heap.size w w1) := (Below.refl _ _).grown hg1 (Nat.le_refl _) (by simp);clear hown1 hg1)
    | (at_builtin
       refine wpList_appendS _ rfl (.tmp 9) (.tmp 10) 22 3 rfl w.heap.size (.int .i64 0) 8 Tryz.underlying22 lentInfoI rfl _ 0 [] rfl HO1.out a n c rfl (lentVals xs) (by rw [lentVals_len, HL.out]) (by
         intro j u hu;have hj : j < n := by
           have := (List.getElem?_eq_some_iff.1 hu).1
           rwa [lentVals_len, HL.out] at this
         obtain ⟨b, o, rfl, hc, _⟩ := (H.out.ext HB1.out).2.2 j hj;refine ⟨_, rfl, ?_⟩;have hadd : (⟨b, o, none⟩ : Addr).add j = ⟨b, o + j, none⟩ := by unfold Addr.add; split <;> simp_all
         rw [hadd, hc];have hj' : j < xs.length := by rw [HL.out]; exact hj
         simp [lentVals, hj'] at hu;simp [List.getD, hj', hu]) (lentVals_one xs) (by simp only [maxLen]; omega) (by omega) HB1.out.size ?_
       intro v2 w2 hown2 hg2 hat2;have HO2 := Lib.hid hown2;have HB2 : Hid (Below w.heap.size w w2) := HB1.out.grown hg2 HB1.out.size (fun k e => (HO1.out.lt k e).1);clear hown2 hg2 hat2))
  have HO3 : Hid (w2.ownsRow w.heap.size 3 1 v2 (n + 0) (lentVals (xs ++ marks.take 0))) := by
    have := HO2.out;rw [Hid];simpa using this
  clear HO2 HO1 HB1
  go_loopw [3, 4] (fun v i wr => ∃ (k : Nat), k ≤ 12 ∧ i = .int .i64 k ∧ Hid (wr.ownsRow w.heap.size 3 1 v (n + k) (lentVals (xs ++ marks.take k))) ∧ Hid (Below w.heap.size w wr)) (fun _ i _ => 12 - (intOf i).toNat)
  case atStart => exact ⟨0, by omega, rfl, HO3, HB2⟩
  case round =>
    clear HO3 HB2;obtain ⟨k, hk, rfl, HO, HB⟩ := hrel;by_cases hlt : k < 12
    · have HS : Hid (lentVals (xs ++ marks.take (k + 1)) = lentVals (xs ++ marks.take k) ++ [.int .i64 (markV 1 (k : Int))]) := by
        rw [Hid, takeS marks k 0 (by rw [marks_len]; exact hlt), marks_at k hlt, ← List.append_assoc, lentVals, List.map_append];rfl
      go_wp2_with (first
        | (go_at_call 112; refine (mark_any _ _ _ (by omega) (by omega)).mono ?_; rintro e w' ⟨rfl, rfl⟩)
        | (at_builtin
           refine wpList_append1 rfl wr (.tmp 16) (.tmp 19) 22 3 rfl w.heap.size _ 1 8 Tryz.underlying22 lentInfoI rfl (by omega) u3 (n + k) _ [.int .i64 (markV 1 (k : Int))] rfl HO.out wr.heap.size rfl rfl rfl (by simp [Value.oneCell']) (by simp only [maxLen]; omega) (by omega) HB.out.size ?_;intro g cap w2 hown2 hg2 hat2;have HO2 : Hid (w2.ownsRow w.heap.size 3 1 (.slice (some ⟨g, 0, none⟩) (n + k + 1) cap) (n + k + 1) (lentVals (xs ++ marks.take (k + 1)))) := by rw [Hid, HS.out]; exact hown2
           have HB2 : Hid (Below w.heap.size w w2) := HB.out.grown hg2 HB.out.size (fun j e => (HO.out.lt j e).1);clear hown2 hat2 hg2))
      go_roundw
      case rel => exact ⟨k + 1, by omega, by go_num, HO2, HB2⟩
      case measure => simp [intOf]; omega
    · obtain rfl : k = 12 := by omega
      have hown := HO.out;have hform : ∃ g cap, u3 = .slice (some ⟨g, 0, none⟩) (n + 12) cap ∧ n + 12 ≤ cap ∧ cap ≤ maxLen := by
        rcases hown.2 with ⟨_, h0⟩ | ⟨g', cap', cur, hv, _, _, h1, h2, _⟩
        · omega
        · exact ⟨_, _, hv, h1, h2⟩
      obtain ⟨g, cap, rfl, hc1, hc2⟩ := hform;clear hown;unfold maxLen at hc2;go_wp2
      go_ret
      refine ⟨_, rfl, ⟨g, cap, by rw [HL.out]; rfl, ?_⟩, HB.out⟩;have := HO.out;rw [HL.out];rw [List.take_of_length_le (by rw [marks_len]; omega)] at this;exact this
theorem quiet_add_left {P : Program} {f : FuncId} {args : Array Value} {w : World} {a n : Nat} {v : Value}
    (h : Calls P f args (w.drewN (a + n)) fun e w' => e = .returned v ∧ w.drewN (a + n) = w') :
    Calls P f args (w.drewN (a + n)) fun e w'' => e = .returned v ∧ ∃ m, w'' = w.drewN (a + m) :=
  h.mono fun _ _ ⟨he, hm⟩ => ⟨he, n, hm.symm⟩
theorem keptInts_any (base : Nat) (v : Value) (a : Option Addr) (n c : Nat) (xs : List Int) (w : World) (hL : Lent w base v xs) (h : Ints w a n xs) (hn : n ≤ 1000000) :
    Calls Tryz.prog 63 #[v, .slice a n c] w fun e w' => e = .returned (.bool true) ∧ ∃ q, w' = w.drewN q := by
  obtain ⟨g, cap, rfl, hc1, hc2, hx, hm⟩ := hL.cells
  obtain ⟨hl, _, hc⟩ := h
  rw [hl] at hc1 hx hm ⊢
  have HX := Lib.hid hx
  have HM := Lib.hid hm
  have HC := Lib.hid hc
  clear hx hm hc hL hl
  unfold maxLen at hc2
  have b0 : ((n : Int) != (n : Int)) = false := by simp
  go_enter Tryz.func63, Tryz.ntmps63
  go_wp2
  go_loopw [6] (fun i wr => ∃ (k q : Nat), k ≤ n + 12 ∧ i = .int .i64 k ∧ wr = w.drewN q) (fun i _ => n + 12 - (intOf i).toNat)
  case atStart => exact ⟨0, 0, by omega, rfl, rfl⟩
  case round =>
    obtain ⟨k, q, hk, rfl, rfl⟩ := hrel;by_cases hlt : k < n + 12
    · by_cases hkn : k < n
      · obtain ⟨b, o, rfl, hcell, _⟩ := HC.out k hkn;have hcell' := HX.out k hkn;have d1 : decide (k < n) = true := by simpa using hkn
        have d2 : decide (n ≤ k) = false := by simp; omega
        generalize xs.getD k 0 = x at *;go_wp2
        go_quiet (fail)
        go_wp2
        go_roundw
        case rel => exact ⟨k + 1, _, by omega, by go_num, rfl⟩
        case measure => simp [intOf]; omega
      · obtain ⟨j, rfl⟩ : ∃ j, k = n + j := ⟨k - n, by omega⟩
        have hcell' := HM.out j (by omega);have hj : j < 12 := by omega
        have d1 : decide (n + j < n) = false := by simp
        have d2 : decide (n ≤ n + j) = true := by simp
        have d3 : decide ((n : Int) + (j : Int) < (n : Int)) = false := by simp; omega
        have d4 : decide ((n : Int) ≤ (n : Int) + (j : Int)) = true := by simp; omega
        have d5 : IntKind.i64.wrap ((n : Int) + (j : Int) - (n : Int)) = (j : Int) := by rw [IntKind.wrap_i64]; omega
        clear hkn;go_wp2
        go_quiet ((go_at_call 112; exact quiet_add_left (mark_any 1 (j : Int) _ (by omega) (by omega))))
        go_wp2
        go_roundw
        case rel => exact ⟨n + j + 1, _, by omega, by go_num, rfl⟩
        case measure => simp [intOf]; omega
    · go_wp2
      go_ret
      exact ⟨rfl, _, rfl⟩
end

section
open Go.RowKit
theorem infoZ1 : (Tryz.prog.info? 3).map (fun i => (i.zero, i.size, i.bytes)) = some (some (.int .i64 0), 1, 8) := by kernel_rfl
def mkI (k i : Nat) : List Value := [.int .i64 (markV (k : Int) (i : Int))]
theorem mkI_len (k i : Nat) : (mkI k i).length = 1 := rfl
abbrev FAI := FA 3 22 1 mkI
abbrev FBI := FB 3 22 1 mkI
abbrev FBiI := FBi 3 22 1 mkI
abbrev FDI := FD 3 22 1 mkI
abbrev FDiI := FDi 3 22 1 mkI
theorem row_slice {W : World} {base : Nat} {e : TypeId} {size : Nat} {v : Value} {k : Nat} {xs : List Value} (h : W.ownsRow base e size v k xs) : ∃ a c, v = .slice a k c := by
  rcases h.2 with ⟨rfl, rfl⟩ | ⟨g, cap, cur, rfl, _⟩
  · exact ⟨none, 0, rfl⟩
  · exact ⟨_, _, rfl⟩
theorem mark_still (k i : Int) (w : World) (hk : 0 ≤ k ∧ k ≤ 1000000000) (hi : 0 ≤ i ∧ i ≤ 100000000000000) :
    Calls Tryz.prog 112 #[.int .i64 k, .int .i64 i] w fun e w' => e = .returned (.int .i64 (markV k i)) ∧ w' = w :=
  (mark_any k i w hk hi).mono fun _ _ ⟨h1, h2⟩ => ⟨h1, h2.symm⟩
theorem infoZs : (Tryz.prog.info? 22).map (fun i => (i.zero, i.size, i.bytes)) = some (some (.slice none 0 0), 1, 24) := by kernel_rfl
theorem flatInts_any (a : Option Addr) (K c base : Nat) (rv : Nat → Value) (L : Nat → Nat) (w : World) (h : FIn 3 22 1 base K (.slice a K c) rv L w) (hK : K ≤ 1000000) (hL : ∀ j, j < K → L j ≤ 1000000) (hbase : base ≤ w.heap.size) :
    Calls Tryz.prog 143 #[.slice a K c] w fun e w' => e = .returned (.bool true) ∧ Chg (SB K rv) w w' := by
  have HS := Lib.hid h.sep
  have HL := Lib.hid hL
  have HF0 : Hid (FAI base K (.slice a K c) rv L w 0 0 w) := h.start
  clear h hL
  go_enter Tryz.func143, Tryz.ntmps143
  go_wp2
  go_loopw [3, 4] (fun kk ii wr => ∃ (k : Nat), k ≤ K ∧ kk = .int .i64 k ∧ Hid (FAI base K (.slice a K c) rv L w k 0 wr)) (fun kk _ _ => K - (intOf kk).toNat)
  case atStart => exact ⟨0, by omega, rfl, HF0⟩
  case round =>
    obtain ⟨k, hk, rfl, HF⟩ := hrel;by_cases hlt : k < K
    · obtain ⟨O, cO, e0, hO⟩ := HF.out.outs hlt;obtain ⟨ar, cr, e1, hc1, hc2⟩ := HF.out.row hlt;simp only [Value.slice.injEq, true_and] at e0;obtain ⟨rfl, rfl⟩ := e0;rw [e1] at hO;have hLk := HL.out k hlt;have HE1 := Lib.hid e1;clear e1;unfold maxLen at hc2;go_wp2
      go_loopw [4] (fun ii wr => ∃ (i : Nat), i ≤ L k ∧ ii = .int .i64 i ∧ Hid (FAI base K (.slice (some ⟨O, 0, none⟩) K c) rv L w k i wr)) (fun ii _ => L k - (intOf ii).toNat)
      case atStart => exact ⟨0, by omega, rfl, HF⟩
      case round =>
        clear HF hO;obtain ⟨i, hi, rfl, HF⟩ := hrel;obtain ⟨O', cO', e0, hO⟩ := HF.out.outs hlt;simp only [Value.slice.injEq, true_and, Option.some.injEq, Addr.mk.injEq, and_true] at e0;obtain ⟨rfl, rfl⟩ := e0;rw [HE1.out] at hO;by_cases hlt2 : i < L k
        · obtain ⟨b, cap, e1, hcp1, hcp2, ⟨u, hcell⟩, hfz, hbl⟩ := HF.out.cell hlt hlt2;have HE2 := Lib.hid e1;rw [HE1.out] at e1;simp only [Value.slice.injEq, true_and] at e1;obtain ⟨rfl, rfl⟩ := e1;go_wp2;refine wp_region_still_tail 9 (by kernel_rfl) (by kernel_rfl) ?_;simp only [List.take_succ_cons, List.take_zero, List.drop_succ_cons, List.drop_zero]
          repeat (first | still_step | still_call (mark_still _ _ _ ⟨by omega, by omega⟩ ⟨by omega, by omega⟩))
          refine wpStill_nil ?_;change wpList _ _ _ _ _ wr.drew;go_wp2
          go_roundw
          case rel => exact ⟨i + 1, by omega, by go_num, (HF.out.drewN 1).store (by decide) HS.out hlt hlt2 HE2.out _ rfl⟩
          case measure => simp [intOf]; omega
        · obtain rfl : i = L k := by omega
          go_wp2
          go_roundw
          case rel => exact ⟨k + 1, by omega, by go_num, HF.out.next⟩
          case measure => simp [intOf]; omega
    · obtain rfl : k = K := by omega
      obtain ⟨i0, hi, hz0, hz1, hz2⟩ := info_parts (P := Tryz.prog) infoZs
      go_wp2_with (first
        | (at_make
           refine wpList_make_full wr rfl _ _ 53 rfl base 22 i0 (.slice none 0 0) 1 Tryz.underlying53 hi hz0 hz1 .i64 .i64 _ _ k rfl rfl rfl rfl (by rw [hz2]; omega) (by simp only [maxLen]; omega) (by have := HF.out.chg.size; omega) ?_;intro w3 hown3 hg3;have HB0 := Lib.hid (HF.out.made hg3 (by
             have e : (madeCells (Value.slice none 0 0).cells (k * 1)).toList = List.replicate k (.slice none 0 0) := by
               have : (Value.slice none 0 0).cells = #[.slice none 0 0] := rfl;rw [this, toList_madeCells_one, Nat.mul_one]
             rw [e] at hown3;exact hown3))
           clear hown3 hg3))
      clear hi hz0 hz1 hz2;generalize wr.heap.size = G at *;clear HF HF0
      go_loopw [6, 7, 8] (fun kk gg ii wr => ∃ (j : Nat) (gv : Nat → Value), j ≤ k ∧ kk = .int .i64 j ∧ Hid (FBI base k (.slice a k c) rv L w G j gv wr)) (fun kk _ _ _ => k - (intOf kk).toNat)
      case atStart => exact ⟨0, _, by omega, rfl, HB0⟩
      case round =>
        clear HB0;obtain ⟨j, gv, hj, rfl, HF⟩ := hrel;by_cases hlt2 : j < k
        · obtain ⟨O, cO, e0, hO, hG, hfz⟩ := HF.out.outs hlt2;obtain ⟨ar, cr, e1, hc1, hc2⟩ := HF.out.row hlt2;simp only [Value.slice.injEq, true_and] at e0;obtain ⟨rfl, rfl⟩ := e0;rw [e1] at hO;have hLk := HL.out j hlt2;have HI0 := Lib.hid (HF.out.start HS.out hlt2);rw [e1] at HI0;have HE1 := Lib.hid e1;clear e1;unfold maxLen at hc2;go_wp2
          go_loopw [7, 8] (fun gg ii wr => ∃ (i : Nat), i ≤ 64 ∧ ii = .int .i64 i ∧ Hid (FBiI base k (.slice (some ⟨O, 0, none⟩) k c) rv L w G j i gv gg wr)) (fun _ ii _ => 64 - (intOf ii).toNat)
          case atStart => exact ⟨0, by omega, rfl, HI0⟩
          case round =>
            clear HI0 HF hO hG hfz;obtain ⟨i, hi, rfl, HI⟩ := hrel;obtain ⟨O', cO', e0, hO, hG, hfz⟩ := HI.out.fb.outs hlt2;simp only [Value.slice.injEq, true_and, Option.some.injEq, Addr.mk.injEq, and_true] at e0;obtain ⟨rfl, rfl⟩ := e0;rw [HE1.out] at hO;by_cases hlt3 : i < 64
            · go_wp2_with (first
                | (go_at_call 112; refine (mark_any _ _ _ (by omega) (by omega)).mono ?_; rintro e w' ⟨rfl, rfl⟩)
                | (at_builtin
                   refine wpList_append1K rfl wr (.tmp 57) (.tmp 67) 22 3 rfl base _ 1 8 Tryz.underlying22 infoZ1 rfl (by omega) u7 (L j + i) _ [.int .i64 (markV (j : Int) ((L j : Int) + (i : Int)))] rfl HI.out.row wr.heap.size rfl rfl rfl (by simp [Value.oneCell']) (by simp only [maxLen]; omega) (by omega) (by have := HI.out.fb.chg.size; omega) ?_;intro g cap w2 hown2 hg2 hat2 hkeep2;have HI2 : Hid (FBiI base k (.slice (some ⟨O, 0, none⟩) k c) rv L w G j (i + 1) gv (.slice (some ⟨g, 0, none⟩) (L j + i + 1) cap) w2) := HI.out.step (by decide) hlt2 hown2 hg2 rfl hat2 (by omega) hkeep2;clear hown2 hat2 hg2 hkeep2))
              go_roundw
              case rel => exact ⟨i + 1, by omega, by go_num, HI2⟩
              case measure => simp [intOf]; omega
            · obtain rfl : i = 64 := by omega
              obtain ⟨ag, cg, eg⟩ := row_slice HI.out.row;subst eg;go_wp2
              go_roundw
              case rel => exact ⟨j + 1, _, by omega, by go_num, HI.out.fin (by decide) hlt2⟩
              case measure => simp [intOf]; omega
        · obtain rfl : j = k := by omega
          clear hj hk hlt hlt2;go_wp2
          go_loopw [9, 10] (fun kk ii wz => ∃ (k q : Nat), k ≤ j ∧ kk = .int .i64 k ∧ wz = wr.drewN q) (fun kk _ _ => j - (intOf kk).toNat)
          case atStart => exact ⟨0, 0, by omega, rfl, rfl⟩
          case round =>
            obtain ⟨k, q, hk, rfl, rfl⟩ := hrel;by_cases hlt : k < j
            · obtain ⟨O, cO, e0, hO, hG, hfz⟩ := HF.out.outs hlt;obtain ⟨ar, cr, e1, hc1, hc2⟩ := HF.out.row hlt;simp only [Value.slice.injEq, true_and] at e0;obtain ⟨rfl, rfl⟩ := e0;rw [if_pos hlt] at hG;rw [e1] at hO;obtain ⟨ag, cg, eg⟩ := row_slice (HF.out.grow k hlt);rw [eg] at hG;have HE1 := Lib.hid e1;have HEG := Lib.hid eg;clear e1 eg;have hLk := HL.out k hlt;unfold maxLen at hc2;go_wp2
              go_loopw [10] (fun ii wz => ∃ (i q : Nat), i ≤ L k + 64 ∧ ii = .int .i64 i ∧ wz = wr.drewN q) (fun ii _ => L k + 64 - (intOf ii).toNat)
              case atStart => exact ⟨0, q, by omega, rfl, rfl⟩
              case round =>
                obtain ⟨i, q2, hi, rfl, rfl⟩ := hrel;by_cases hlt2 : i < L k + 64
                · obtain ⟨bg, cg', e2, hcg⟩ := row_cell (HF.out.grow k hlt) hlt2 (u := .int .i64 (markV (k : Int) (i : Int))) (by rw [mrow_at mkI mkI_len _ _ _ hlt2]; rfl);rw [HEG.out] at e2;simp only [Value.slice.injEq, true_and] at e2;obtain ⟨rfl, rfl⟩ := e2;by_cases hlt3 : i < L k
                  · obtain ⟨br, cr', e3, hcr⟩ := row_cell (HF.out.rows k hlt) hlt3 (u := .int .i64 (markV (k : Int) (i : Int))) (by rw [mrow_at mkI mkI_len _ _ _ hlt3]; rfl);rw [HE1.out] at e3;simp only [Value.slice.injEq, true_and] at e3;obtain ⟨rfl, rfl⟩ := e3;have d1 : decide (i < L k) = true := by simpa using hlt3
                    go_wp2
                    go_quiet ((go_at_call 112; exact quiet_add_left (mark_any _ _ _ ⟨by omega, by omega⟩ ⟨by omega, by omega⟩)))
                    go_wp2
                    go_roundw
                    case rel => exact ⟨i + 1, _, by omega, by go_num, rfl⟩
                    case measure => simp [intOf]; omega
                  · have d1 : decide (i < L k) = false := by simpa using hlt3
                    go_wp2
                    go_quiet ((go_at_call 112; exact quiet_add_left (mark_any _ _ _ ⟨by omega, by omega⟩ ⟨by omega, by omega⟩)))
                    go_wp2
                    go_roundw
                    case rel => exact ⟨i + 1, _, by omega, by go_num, rfl⟩
                    case measure => simp [intOf]; omega
                · obtain rfl : i = L k + 64 := by omega
                  go_wp2
                  go_roundw
                  case rel => exact ⟨k + 1, _, by omega, by go_num, rfl⟩
                  case measure => simp [intOf]; omega
            · obtain rfl : k = j := by omega
              have HD0 := Lib.hid (HF.out.toD.drewN q);clear HF hk hlt;obtain ⟨i0, hi, hz0, hz1, hz2⟩ := info_parts (P := Tryz.prog) infoZ1;go_wp2
              go_loopw [11, 12, 13] (fun kk mm ii wz => ∃ (j : Nat) (gl : Nat → Value), j ≤ k ∧ kk = .int .i64 j ∧ Hid (FDI base k (.slice a k c) rv L w G j gl wz)) (fun kk _ _ _ => k - (intOf kk).toNat)
              case atStart => exact ⟨0, _, by omega, rfl, HD0⟩
              case round =>
                clear HD0;obtain ⟨j, gl, hj, rfl, HD⟩ := hrel;by_cases hlt : j < k
                · have hLk := HL.out j hlt
                  go_wp2_with (first
                    | (at_make
                       refine wpList_make_full wr rfl _ _ 22 rfl base 3 i0 (.int .i64 0) 1 Tryz.underlying22 hi hz0 hz1 .i64 .i64 _ _ 64 rfl rfl rfl rfl (by rw [hz2]; omega) (by simp only [maxLen]; omega) (by have := HD.out.chg.size; omega) ?_;intro w3 hown3 hg3;have HM0 := Lib.hid (HD.out.made hg3 hown3 (by
                         have e : (madeCells (Value.int .i64 0).cells (64 * 1)).toList = List.replicate 64 (.int .i64 0) := by
                           have : (Value.int .i64 0).cells = #[.int .i64 0] := rfl;rw [this, toList_madeCells_one, Nat.mul_one]
                         rw [e];intro u hu;rw [List.eq_of_mem_replicate hu];rfl) (by omega))
                       clear hown3 hg3))
                  generalize wr.heap.size = M at *
                  go_loopw [13] (fun ii wz => ∃ (i : Nat), i ≤ 64 ∧ ii = .int .i64 i ∧ Hid (FDiI base k (.slice a k c) rv L w G j gl M wz)) (fun ii _ => 64 - (intOf ii).toNat)
                  case atStart => exact ⟨0, by omega, rfl, HM0⟩
                  case round =>
                    clear HM0 HD;obtain ⟨i, hi2, rfl, HM⟩ := hrel;by_cases hlt2 : i < 64
                    · obtain ⟨Y, hY, hY1⟩ := HM.out.many;have hcell := World.ownsRow.cellAt hY i (by omega);have hlen := hY.1;rw [List.getElem?_eq_getElem (by omega)] at hcell;have hfz := World.ownsRow.frozenAt hY i;clear hY hY1
                      go_wp2_with (first
                        | (go_at_call 112; refine (mark_any _ _ _ (by omega) (by omega)).mono ?_; rintro e w' ⟨rfl, rfl⟩))
                      go_roundw
                      case rel => exact ⟨i + 1, by omega, by go_num, HM.out.set_ (by decide) i _ rfl⟩
                      case measure => simp [intOf]; omega
                    · obtain ⟨O, cO, e0, hO, hG, hfz, _, _⟩ := HM.out.fd.outs hlt;obtain ⟨ar, cr, e1, hc1, hc2⟩ := HM.out.fd.row hlt;simp only [Value.slice.injEq, true_and] at e0;obtain ⟨rfl, rfl⟩ := e0;rw [e1] at hO;have hrow := HM.out.fd.rows j hlt;rw [e1] at hrow;have HROW := Lib.hid hrow;have HE1 := Lib.hid e1;clear e1 hrow;obtain ⟨Y, hY, hY1⟩ := HM.out.many;have HY := Lib.hid hY;have HY1 := Lib.hid hY1;clear hY hY1;unfold maxLen at hc2
                      go_wp2_with (first
                        | (at_builtin
                           refine wpList_appendK rfl wr (.tmp 148) (.tmp 149) 22 3 rfl base (.int .i64 0) 1 8 Tryz.underlying22 infoZ1 rfl (by omega) (.slice ar (L j) cr) (L j) _ rfl HROW.out M 64 64 Y rfl HY.out HY1.out (by simp only [maxLen]; omega) (by omega) (by have := HM.out.fd.chg.size; omega) ?_;intro v2 w2 hown2 hg2 hat2 hkeep2;obtain ⟨a2, c2, e2⟩ := row_slice hown2;subst e2;have hG2 : w2.ownsRow base 22 1 (.slice (some ⟨G, 0, none⟩) k k) k ((List.range k).map gl) := HM.out.fd.gs.kept hg2 (.inr (fun e => rows_ne HM.out.fd.gs HROW.out (by decide) G rfl e.symm));have hG3 := World.ownsRow.cellAt hG2 j (by omega);have hG4 := World.ownsRow.frozenAt hG2 j;have hlen : ((List.range k).map gl).length = k := by simp
                           rw [List.getElem?_eq_getElem (by omega)] at hG3;obtain ⟨ug, hug⟩ : ∃ u, w2.cell? ⟨G, j, none⟩ = some u := ⟨_, hG3⟩
                           clear hG3;have HD2 : Hid (FDI base k (.slice (some ⟨O, 0, none⟩) k c) rv L w G (j + 1) (fun i => if i = j then (.slice a2 (L j + 64) c2) else gl i) (w2.setCell ⟨G, j, none⟩ (.slice a2 (L j + 64) c2))) := by
                             have e := HE1.out;refine HM.out.fin (by decide) HS.out hlt hown2 (by rw [e]; exact hg2) (by rw [e]; exact hat2) (by rw [e]; exact hkeep2)
                           clear hown2 hg2 hat2 hkeep2 hG2 hlen))
                      go_roundw
                      case rel => exact ⟨j + 1, _, by omega, by go_num, HD2⟩
                      case measure => simp [intOf]; omega
                · obtain rfl : j = k := by omega
                  clear hj hlt;go_wp2
                  go_loopw [14, 15] (fun kk ii wz => ∃ (k q : Nat), k ≤ j ∧ kk = .int .i64 k ∧ wz = wr.drewN q) (fun kk _ _ => j - (intOf kk).toNat)
                  case atStart => exact ⟨0, 0, by omega, rfl, rfl⟩
                  case round =>
                    obtain ⟨k, q3, hk, rfl, rfl⟩ := hrel;by_cases hlt : k < j
                    · obtain ⟨O, cO, e0, hO, hG, hfz, _, _⟩ := HD.out.outs hlt;obtain ⟨ar, cr, e1, hc1, hc2⟩ := HD.out.row hlt;simp only [Value.slice.injEq, true_and] at e0;obtain ⟨rfl, rfl⟩ := e0;rw [e1] at hO;obtain ⟨Z, hZ⟩ := HD.out.grow k hlt;have HZ := Lib.hid hZ;obtain ⟨ag, cg, eg⟩ := row_slice hZ;rw [eg] at hG;have HE1 := Lib.hid e1;have HEG := Lib.hid eg;clear e1 eg hZ;have hLk := HL.out k hlt;unfold maxLen at hc2;go_wp2
                      go_loopw [15] (fun ii wz => ∃ (i q : Nat), i ≤ L k ∧ ii = .int .i64 i ∧ wz = wr.drewN q) (fun ii _ => L k - (intOf ii).toNat)
                      case atStart => exact ⟨0, q3, by omega, rfl, rfl⟩
                      case round =>
                        obtain ⟨i, q2, hi2, rfl, rfl⟩ := hrel;by_cases hlt3 : i < L k
                        · obtain ⟨bg, cg', e2, hcg⟩ := row_cell HZ.out (show i < L k + 64 by omega) (u := .int .i64 (markV (k : Int) (i : Int))) (by rw [List.getElem?_append_left (by rw [mrow_len mkI 1 mkI_len]; omega), mrow_at mkI mkI_len _ _ _ hlt3]; rfl);rw [HEG.out] at e2;simp only [Value.slice.injEq, true_and] at e2;obtain ⟨rfl, rfl⟩ := e2;obtain ⟨br, cr', e3, hcr⟩ := row_cell (HD.out.rows k hlt) hlt3 (u := .int .i64 (markV (k : Int) (i : Int))) (by rw [mrow_at mkI mkI_len _ _ _ hlt3]; rfl);rw [HE1.out] at e3;simp only [Value.slice.injEq, true_and] at e3;obtain ⟨rfl, rfl⟩ := e3;go_wp2
                          go_quiet ((go_at_call 112; exact quiet_add_left (mark_any _ _ _ ⟨by omega, by omega⟩ ⟨by omega, by omega⟩)))
                          go_wp2
                          go_roundw
                          case rel => exact ⟨i + 1, _, by omega, by go_num, rfl⟩
                          case measure => simp [intOf]; omega
                        · obtain rfl : i = L k := by omega
                          go_wp2
                          go_roundw
                          case rel => exact ⟨k + 1, _, by omega, by go_num, rfl⟩
                          case measure => simp [intOf]; omega
                    · go_wp2
                      go_ret
                      exact ⟨rfl, HD.out.chg.drewN _⟩
end
end Go.Proofs.YtblhmdhfhaencaaGreat
