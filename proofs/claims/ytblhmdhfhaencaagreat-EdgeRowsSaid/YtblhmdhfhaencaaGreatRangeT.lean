/-
  A range over a function, at the wide fence: one law for the caller, one word for the iterator. No program in sight.
-/
import Derived.RangeFuncRecord
import Derived.RangeFuncLeaves
import Derived.RangeFuncSeq
import Derived.RangeFuncIn
import Derived.RangeFuncOwn
import Derived.TacticsInMore
import Derived.LoopNIn
import Derived.LoopIn
import Derived.OwnWalkIn
import Derived.RangeFuncCalls
import Derived.Shelf.RegionOpen
import Derived.Test.YtblhmdhfhaencaaGreatBase
import Derived.Deep.Quiet
namespace Go.Proofs.YtblhmdhfhaencaaGreat
set_option linter.unusedSimpArgs false
set_option linter.unusedVariables false
open Go.RowKit

theorem wide_fn (f : FuncId) : Fence.wide.fn f = True := rfl
theorem wide_depth : Fence.wide.depth = none := rfl
theorem wide_fnR (l : Nat) (f : FuncId) : (Fence.wide.inRound l).fn f = True := rfl
theorem wide_depthR (l : Nat) : (Fence.wide.inRound l).depth = none := rfl

def isBook : Obj → Bool
  | .loop _ => true
  | .deferred _ => true
  | _ => false

/-- loops' records and blocks of deferred calls lie as they lay -/
def Keep (W W' : World) : Prop := ∀ (k : Nat) (o : Obj), W.heap[k]? = some o → isBook o = true → W'.heap[k]? = some o

theorem Keep.refl (W : World) : Keep W W := fun _ _ h _ => h
theorem Keep.trans {A B C : World} (h : Keep A B) (k : Keep B C) : Keep A C := fun i o hi ho => k i o (h i o hi ho) ho
theorem Keep.alloc (W : World) (o : Obj) : Keep W (W.alloc o) := fun k o' hk _ => (Below.heap_alloc W o k (Array.getElem?_eq_some_iff.1 hk).1).trans hk
theorem Keep.drew (W : World) : Keep W W.drew := fun _ _ h _ => h
theorem Keep.drewN (W : World) (n : Nat) : Keep W (W.drewN n) := fun _ _ h _ => h
theorem Keep.setCell (W : World) (a : Addr) (v : Value) : Keep W (W.setCell a v) := fun k o hk ho => by
  by_cases e : k = a.block
  · subst e
    obtain ⟨hlt, hk'⟩ := Array.getElem?_eq_some_iff.1 hk
    show (W.heap.modify a.block _)[a.block]? = some o
    rw [Array.getElem?_eq_getElem (by rw [Array.size_modify]; exact hlt), Array.getElem_modify_self, hk']
    cases o <;> first | rfl | (simp [isBook] at ho)
  · exact (Below.heap_setCell W a v k e).trans hk
theorem Keep.ext {W W' : World} (h : Below W.heap.size W W') : Keep W W' := fun k _ hk _ => (h.block k (Array.getElem?_eq_some_iff.1 hk).1).trans hk
theorem Keep.grown {W W' : World} {row : Option Nat} (hg : W.grownBy W' row) (hrow : ∀ (j : Nat) (o : Obj), row = some j → W.heap[j]? = some o → isBook o = false) : Keep W W' :=
  fun k o hk ho => by
    refine (hg.block k (Array.getElem?_eq_some_iff.1 hk).1 ?_).trans hk
    intro e
    rw [hrow k o e.symm hk] at ho; cases ho

/-- what abides new blocks, draws, and the turn of a book-keeping block from B on -/
def Steady (B : Nat) (J : World → Prop) : Prop :=
  ∀ W W' row, J W → W.grownBy W' row → (∀ r, row = some r → B ≤ r ∧ ∃ o : Obj, W.heap[r]? = some o ∧ isBook o = true) → J W'

theorem Steady.pure (B : Nat) (p : Prop) : Steady B (fun _ => p) := fun _ _ _ h _ _ => h
theorem Steady.and {B : Nat} {J J' : World → Prop} (h : Steady B J) (h' : Steady B J') : Steady B (fun W => J W ∧ J' W) :=
  fun W W' row hj hg hr => ⟨h W W' row hj.1 hg hr, h' W W' row hj.2 hg hr⟩
theorem Steady.ex {B : Nat} {α : Sort _} {J : α → World → Prop} (h : ∀ x, Steady B (J x)) : Steady B (fun W => ∃ x, J x W) :=
  fun W W' row ⟨x, hj⟩ hg hr => ⟨x, h x W W' row hj hg hr⟩
theorem Steady.all {B : Nat} {α : Sort _} {J : α → World → Prop} (h : ∀ x, Steady B (J x)) : Steady B (fun W => ∀ x, J x W) :=
  fun W W' row hj hg hr x => h x W W' row (hj x) hg hr
theorem Steady.imp {B : Nat} {p : Prop} {J : World → Prop} (h : Steady B J) : Steady B (fun W => p → J W) :=
  fun W W' row hj hg hr hp => h W W' row (hj hp) hg hr
theorem Steady.or {B : Nat} {J J' : World → Prop} (h : Steady B J) (h' : Steady B J') : Steady B (fun W => J W ∨ J' W) :=
  fun W W' row hj hg hr => hj.imp (fun x => h W W' row x hg hr) (fun x => h' W W' row x hg hr)
/-- what a block is that is no book -/
theorem block_keep {W W' : World} {row : Option Nat} {B k : Nat} {o : Obj} (hk : W.heap[k]? = some o) (ho : isBook o = false) (hg : W.grownBy W' row)
    (hr : ∀ r, row = some r → B ≤ r ∧ ∃ o : Obj, W.heap[r]? = some o ∧ isBook o = true) : W'.heap[k]? = some o := by
  refine (hg.block k (Array.getElem?_eq_some_iff.1 hk).1 (fun e => ?_)).trans hk
  obtain ⟨_, o', ho', hb⟩ := hr k e.symm
  rw [hk] at ho'; cases ho'; rw [ho] at hb; cases hb
theorem Steady.block (B k : Nat) {o : Obj} (ho : isBook o = false) : Steady B (fun W => W.heap[k]? = some o) := fun _ _ _ h hg hr => block_keep h ho hg hr
theorem Steady.cell (B : Nat) (p : Addr) (v : Value) : Steady B (fun W => W.cell? p = some v) := fun W W' row h hg hr => by
  have h : W.cell? p = some v := h
  show W'.cell? p = some v
  unfold World.cell? at h ⊢
  cases ho : W.heap[p.block]? with
  | none => simp [ho] at h
  | some o =>
    rw [block_keep ho (by cases o <;> simp_all [isBook]) hg hr]
    rw [ho] at h; exact h
theorem Steady.below {n₀ B : Nat} {w₀ : World} (hn : n₀ ≤ w₀.heap.size) (hB : n₀ ≤ B) : Steady B (fun W => Below n₀ w₀ W) :=
  fun _ _ _ hs hg hr => hs.grown hg (Nat.le_trans hn hs.size) (fun k e => Nat.le_trans hB (hr k e).1)
theorem Steady.keep (B : Nat) (w₀ : World) (hB : w₀.heap.size ≤ B) : Steady B (fun W => Keep w₀ W) :=
  fun W W' row h hg hr k o hk ho => by
    have h1 := h k o hk ho
    refine (hg.block k (Array.getElem?_eq_some_iff.1 h1).1 (fun e => ?_)).trans h1
    have := (hr k e.symm).1
    have := (Array.getElem?_eq_some_iff.1 hk).1
    omega
theorem Steady.ints (B : Nat) (a : Option Addr) (n : Nat) (xs : List Int) : Steady B (fun W => Ints W a n xs) := fun W W' row h hg hr =>
  ⟨h.1, h.2.1, fun k hk => let ⟨b, o, e, hc, hi⟩ := h.2.2 k hk; ⟨b, o, e, Steady.cell B _ _ W W' row hc hg hr, hi⟩⟩
theorem Steady.ownsRow (B : Nat) (base : Nat) (e : TypeId) (size : Nat) (v : Value) (n : Nat) (xs : List Value) : Steady B (fun W => W.ownsRow base e size v n xs) :=
  fun W W' row h hg hr => by
    refine ⟨h.1, ?_⟩
    rcases h.2 with h2 | ⟨g, cap, cur, hv, hb, hh, r⟩
    · exact Or.inl h2
    · exact Or.inr ⟨g, cap, cur, hv, hb, block_keep hh rfl hg hr, r⟩
theorem Steady.ext {B : Nat} {J : World → Prop} (h : Steady B J) {W W' : World} (hj : J W) (hb : Below W.heap.size W W') : J W' :=
  h W W' none hj ⟨hb.os, hb.tape, hb.output, hb.size, fun k hk _ => hb.block k hk⟩ (fun r e => by cases e)
theorem Steady.put {B : Nat} {J : World → Prop} (h : Steady B J) {W : World} {l : Nat} {o : Obj} (o' : Obj) (hj : J W) (hl : B ≤ l) (ho : W.heap[l]? = some o) (hb : isBook o = true) : J (W.putObj l o') :=
  h W _ (some l) hj (grownBy_putObj' W l o') (fun r e => by cases e; exact ⟨hl, o, ho, hb⟩)

/-- how a round is left: off its end, or by a jump -/
def roundEnd (JN : World → Prop) (JX : Code → World → Prop) : Exit → Act → World → Prop
  | .normal, _, W => JN W
  | .ret, _, W => JX .ret W
  | .exit id, _, W => JX (.exit id) W
  | .goto t, _, W => JX (.goto t) W
  | .panic _, _, _ => False
  | .outgrown, _, _ => False

/-- THE ITERATOR's WORD: whatever the rounds keep (K, steady), it yields one element after another, each one that may come ('ok'), till it has come to an end ('Fin') or a round has said 'no more' (Kx). -/
def Iter {σ α : Type} (P : Program) (gf : Nat) (lb : Array Value) (enc : α → Array Value) (ok : σ → α → Prop) (nx : σ → α → σ) (s0 : σ) (Fin : σ → Prop) (Inv : σ → World → Prop) : Prop :=
  ∀ (l : Nat) (K : σ → World → Prop) (Kx : World → Prop) (W : World),
    (∀ s W W', K s W → Below W.heap.size W W' → K s W') → (∀ W W', Kx W → Below W.heap.size W W' → Kx W') → (∀ s W, K s W → Inv s W) →
    (∀ s x W, ok s x → K s W → YieldAt Fence.wide 0 P l (enc x) W fun e W' => (e = .returned (.bool true) ∧ K (nx s x) W') ∨ (e = .returned (.bool false) ∧ Kx W')) →
    K s0 W → CallsIn Fence.wide 0 P gf (#[.func (.yield l) #[] #[]] ++ lb) W fun e W' => (∃ v, e = .returned v) ∧ ((∃ s, Fin s ∧ K s W') ∨ Kx W')

/-- THE CALLER's LAW, outermost loop. -/
theorem range_outer {P : Program} {σ α : Type} {g : Operand} {ps : Array Tmp} {assign body : Code} {Q : Exit → Act → World → Prop} {a : Act} {w : World} {gf : Nat} {lb : Array Value}
    (hg : a.eval g = .func (.func gf) #[] lb) (eg : ∀ args w, (callFunc gf args).run P w = .ok (.enter gf args) w)
    {enc : α → Array Value} {ok : σ → α → Prop} {nx : σ → α → σ} {s0 : σ} {Fin : σ → Prop} {Inv : σ → World → Prop} (hit : Iter P gf lb enc ok nx s0 Fin Inv)
    (hps : ∀ x, (enc x).size = ps.size)
    (J : σ → World → Prop) (Jx : Code → World → Prop) (A : σ → α → Act → World → Prop)
    (hJ : ∀ s, Steady w.heap.size (J s)) (hJx : ∀ c, Steady w.heap.size (Jx c)) (hA : ∀ s x a, Steady w.heap.size (A s x a)) (hInv : ∀ s W, J s W → Inv s W)
    (h0 : J s0 w)
    (hassign : ∀ (l : Nat) (s : σ) (x : α) (W : World), ok s x → J s W →
      assign.wpIn (Fence.wide.inRound l) 0 P (Exit.then (fun a1 W1 => Keep W W1 ∧ J s W1 ∧ A s x a1 W1) (fun _ _ _ => False)) { tmps := (ps.zip (enc x)).foldl (fun t (p, v) => t.setIfInBounds p v) a.tmps, defers := [] } W)
    (hbody : ∀ (l : Nat) (s : σ) (x : α) (a1 : Act) (W : World), ok s x → J s W → A s x a1 W →
      body.wpIn (Fence.wide.inRound l) 0 P (roundEnd (fun W' => Keep W W' ∧ J (nx s x) W') (fun c W' => Keep W W' ∧ Jx c W')) a1 W)
    (hdone : ∀ (D : Nat) (s : σ) (W : World), w.heap.size ≤ D → Fin s → J s W → W.heap[D]? = some (.deferred (some [])) → Q .normal { a with defers := { target := .collected D, args := #[] } :: a.defers } W)
    (hstop : ∀ (D : Nat) (c : Code) (W : World), w.heap.size ≤ D → Jx c W → W.heap[D]? = some (.deferred (some [])) → c.wpIn Fence.wide 0 P Q { a with defers := { target := .collected D, args := #[] } :: a.defers } W) :
    (Code.rangeFunc g ps assign body).wpIn Fence.wide 0 P Q a w := by
  refine wpIn_rangeFunc ?_
  intro fn hfn
  obtain ⟨rec, hrec⟩ : ∃ rec : LoopState → Option Code → Loop, rec = fun st pe => { state := st, pending := pe, fn, tmps := a.tmps, params := ps, assign, body, defers := w.heap.size } := ⟨_, rfl⟩
  obtain ⟨W1, hW1⟩ : ∃ W1, (w.alloc (.deferred (some []))).alloc (.loop (rec .ready none)) = W1 := ⟨_, rfl⟩
  have hL1 : W1.heap[w.heap.size + 1]? = some (.loop (rec .ready none)) := by
    rw [← hW1]; have := World.alloc_heap_new (w.alloc (.deferred (some []))) (.loop (rec .ready none)); rwa [World.size_alloc] at this
  have hK1 : W1.heap[w.heap.size]? = some (.deferred (some [])) := by
    rw [← hW1]; exact (Below.heap_alloc _ _ _ (by simp)).trans (World.alloc_heap_new w _)
  have hb1 : Below w.heap.size w W1 := by
    rw [← hW1]; exact ((Below.refl _ w).alloc (Nat.le_refl _) _).alloc (by simp) _
  have hI1 : J s0 W1 := (hJ s0).ext h0 hb1
  have keepE : ∀ {W W' : World} {k : Nat} {o : Obj}, W.heap[k]? = some o → Below W.heap.size W W' → W'.heap[k]? = some o :=
    fun hk hb => (hb.block _ (Array.getElem?_eq_some_iff.1 hk).1).trans hk
  refine ⟨w.heap.size + 1, [{ target := .collected w.heap.size, args := #[] }], W1, { target := .fn (.func gf) lb, args := #[.func (.yield (w.heap.size + 1)) #[] #[]] }, W1, gf,
    #[.func (.yield (w.heap.size + 1)) #[] #[]] ++ lb, W1, ?_, ?_, ?_, ?_, fun h => by simp [Fence.wide] at h, ?_⟩
  · rw [← hW1, hrec]; exact run_enterLoop_outer _ _ _ _ _
  · simp only [resolve, hg]
    simp [go_sem]
  · intro f' hf'; trivial
  · simp [invoke, go_sem, eg]
  · refine (hit (w.heap.size + 1)
      (fun s W => J s W ∧ W.heap[w.heap.size + 1]? = some (.loop (rec .ready none)) ∧ W.heap[w.heap.size]? = some (.deferred (some [])))
      (fun W => ∃ c, Jx c W ∧ W.heap[w.heap.size + 1]? = some (.loop (rec .done (some c))) ∧ W.heap[w.heap.size]? = some (.deferred (some [])))
      W1 (fun s A B h hb => ⟨(hJ s).ext h.1 hb, keepE h.2.1 hb, keepE h.2.2 hb⟩)
      (fun A B h hb => by obtain ⟨c, h1, h2, h3⟩ := h; exact ⟨c, (hJx c).ext h1 hb, keepE h2 hb, keepE h3 hb⟩)
      (fun s W h => hInv s W h.1) ?_ ⟨hI1, hL1, hK1⟩).mono ?_
    · rintro s x W hok ⟨hi, hl, hk⟩
      have hy := run_yield (P := P) (args := enc x) hl (by rw [hrec]; exact hps x)
      rw [hrec] at hy
      refine ⟨fn, _, assign, body, hy, roundIn_of_wpIn hfn (wpIn_mono (hassign _ s x W hok hi) ?_)⟩
      rintro e a1 V hp
      cases e with
      | normal =>
        obtain ⟨hkp, hiV, hAV⟩ := hp
        have hlV := hkp _ _ hl rfl
        have hkV := hkp _ _ hk rfl
        have hlt : w.heap.size + 1 < V.heap.size := (Array.getElem?_eq_some_iff.1 hlV).1
        refine ⟨_, run_beginRound hlV (by rw [hrec]), ?_⟩
        have hl2 : (V.putObj (w.heap.size + 1) (.loop { rec .ready none with state := .busy })).heap[w.heap.size + 1]? = some (.loop { rec .ready none with state := .busy }) := World.putObj_heap_same hlt
        have hk2 : (V.putObj (w.heap.size + 1) (.loop { rec .ready none with state := .busy })).heap[w.heap.size]? = some (.deferred (some [])) := (World.putObj_heap_other (by omega)).trans hkV
        refine wpIn_mono (hbody _ s x a1 _ hok ((hJ s).put _ hiV (by omega) hlV rfl) ((hA s x a1).put _ hAV (by omega) hlV rfl)) ?_
        have fin : ∀ (jump : Option Code) (W3 : World), Keep (V.putObj (w.heap.size + 1) (.loop { rec .ready none with state := .busy })) W3 →
            (Instr.endRound (w.heap.size + 1) jump).run P W3 = .ok (.bool jump.isNone) (W3.putObj (w.heap.size + 1) (.loop (rec (if jump.isNone then .ready else .done) jump))) ∧
            W3.heap[w.heap.size + 1]? = some (.loop { rec .ready none with state := .busy }) ∧
            (W3.putObj (w.heap.size + 1) (.loop (rec (if jump.isNone then .ready else .done) jump))).heap[w.heap.size + 1]? = some (.loop (rec (if jump.isNone then .ready else .done) jump)) ∧
            (W3.putObj (w.heap.size + 1) (.loop (rec (if jump.isNone then .ready else .done) jump))).heap[w.heap.size]? = some (.deferred (some [])) := fun jump W3 hk3 => by
          have hl3 := hk3 _ _ hl2 rfl
          have := run_endRound (P := P) jump hl3
          rw [hrec] at this ⊢
          exact ⟨this, by rw [hrec] at hl3; exact hl3, World.putObj_heap_same (Array.getElem?_eq_some_iff.1 hl3).1, (World.putObj_heap_other (by omega)).trans (hk3 _ _ hk2 rfl)⟩
        rintro e a3 W3 hp
        cases e with
        | normal =>
          obtain ⟨hk3, hi3⟩ := hp
          obtain ⟨hr, hl3, hl4, hk4⟩ := fin none W3 hk3
          exact ⟨_, _, hr, .inl ⟨rfl, (hJ _).put _ hi3 (by omega) hl3 rfl, hl4, hk4⟩⟩
        | ret =>
          obtain ⟨hk3, hi3⟩ := hp
          obtain ⟨hr, hl3, hl4, hk4⟩ := fin (some .ret) W3 hk3
          exact ⟨_, _, hr, .inr ⟨rfl, .ret, (hJx _).put _ hi3 (by omega) hl3 rfl, hl4, hk4⟩⟩
        | exit id =>
          obtain ⟨hk3, hi3⟩ := hp
          obtain ⟨hr, hl3, hl4, hk4⟩ := fin (some (.exit id)) W3 hk3
          exact ⟨_, _, hr, .inr ⟨rfl, .exit id, (hJx _).put _ hi3 (by omega) hl3 rfl, hl4, hk4⟩⟩
        | goto t =>
          obtain ⟨hk3, hi3⟩ := hp
          obtain ⟨hr, hl3, hl4, hk4⟩ := fin (some (.goto t)) W3 hk3
          exact ⟨_, _, hr, .inr ⟨rfl, .goto t, (hJx _).put _ hi3 (by omega) hl3 rfl, hl4, hk4⟩⟩
        | panic ch => exact hp.elim
        | outgrown => exact hp.elim
      | exit id => exact hp.elim
      | goto t => exact hp.elim
      | ret => exact hp.elim
      | panic chain => exact hp.elim
      | outgrown => exact hp.elim
    · rintro e W2 ⟨⟨v, rfl⟩, (⟨s, hS, hi, hl, hk⟩ | ⟨c, hi, hl, hk⟩)⟩
      · exact ⟨none, _, by have := run_endLoop (P := P) hl (by rw [hrec]; simp); rw [hrec] at this; exact this, hdone _ s _ (Nat.le_refl _) hS ((hJ s).put _ hi (by omega) hl rfl) ((World.putObj_heap_other (by omega)).trans hk)⟩
      · exact ⟨some c, _, by have := run_endLoop (P := P) hl (by rw [hrec]; simp); rw [hrec] at this; exact this, hstop _ c _ (Nat.le_refl _) ((hJx c).put _ hi (by omega) hl rfl) ((World.putObj_heap_other (by omega)).trans hk)⟩

open Go.RowKit

def notDefer (o : Oper) : Bool := match o.op with | .defer _ => false | _ => true

theorem rowsIn_of {n : Nat} {P : Program} {row : String} {args : Array Value} {w : World} {R : Value → World → Prop} (l : Nat) (h : Rows P row args w R) : RowsIn (Fence.wide.inRound l) n P row args w R :=
  fun c cs _ => let ⟨v, w', r, s⟩ := h c cs; ⟨v, w', r, stepsIn_wide.2 s⟩

theorem wpOpsIn_of {P : Program} {ops : Array Oper} {Q : Exit → Act → World → Prop} (l : Nat) (hn : ∀ (i : Nat) (o : Oper), ops[i]? = some o → notDefer o = true) (hQ : ¬ LetsOut Q) :
    ∀ (order : List Nat) (a : Act) (w : World), wpOps P ops Q order a w → wpOpsIn (Fence.wide.inRound l) 0 P ops Q order a w := by
  intro order
  induction order with
  | nil => intro a w h; exact h
  | cons i rest ih =>
    intro a w h
    simp only [wpOps, wpOpsIn] at h ⊢
    cases ho : ops[i]? with
    | none => simp only [ho] at h ⊢; exact ih a w h
    | some o =>
      simp only [ho] at h ⊢
      by_cases hw : Region.wanted o (yielded ops a.tmps) = true
      · simp only [hw, if_true] at h ⊢
        rcases h with h | ⟨_, h⟩
        · refine ⟨fun _ _ => trivial, ?_⟩
          have hs : Oper.semAt (Fence.wide.inRound l).round a.eval o = execOp a.eval o := Oper.semAt_some l _ _ (fun c hc => by have := hn i o ho; simp [notDefer, hc] at this)
          rw [hs]
          unfold Oper.wp at h
          generalize (execOp a.eval o).run P w = r at h
          cases r with
          | ok nx w' =>
            cases nx <;> simp only [Oper.upon, Oper.uponIn] at h ⊢ <;> first
              | exact ih _ _ h
              | exact ⟨fun hh => by simp [Fence.wide, Fence.inRound] at hh, (CallsIn.inRound l (callsIn_wide.2 (h.mono (fun e w'' he => by cases e <;> first | exact ih _ _ he | exact he))))⟩
              | exact ⟨fun hh => by simp [Fence.wide, Fence.inRound] at hh, rowsIn_of l (h.mono (fun v w'' hv => ih _ _ hv))⟩
              | exact h.elim
          | halt x w' => cases x <;> simp only [Oper.upon, Oper.uponIn] at h ⊢ <;> exact h
        · exact absurd h hQ
      · simp only [hw] at h ⊢
        exact ⟨fun _ _ => trivial, ih _ _ h⟩

theorem round_quiet_lit {P : Program} {id : Nat} {Q : Exit → Act → World → Prop} {a : Act} {w : World} {ol : List Oper} {l : Nat} (hm : P.follows .mixedOrders = true) (hB : Region.lexB .any ol.toArray = true)
    (hn : ol.all notDefer = true) (hQ : ¬ LetsOut Q)
    (h : wpQuiet P ol.toArray (fun w' => ∃ n, w' = w.drewN n) (fun a' => ∀ w', (∃ n, w' = w.drewN n) → Q .normal a' w') ol a) : (Code.region id ol.toArray true).wpIn (Fence.wide.inRound l) 0 P Q a w := by
  refine wpIn_region_draw fun t => ?_
  refine wpOpsIn_of l (fun i o ho => ?_) hQ _ _ _ ?_
  · rw [List.all_eq_true] at hn
    exact hn o (by
      have : ol[i]? = some o := by simpa using ho
      exact List.mem_of_getElem? this)
  · simp only [Region.schedule, hm, Bool.true_or, if_true]
    simp only [Region.lexB, Bool.and_eq_true] at hB
    refine wpAny_sound _ t _ a _ ?_
    refine wpAny_of_quiet (C := fun w' => ∃ n, w' = w.drewN n) (Q := fun a' => ∀ w', (∃ n, w' = w.drewN n) → Q .normal a' w') (fun _ w' hw' h => h w' hw') _ _ _ _ ⟨1, rfl⟩ ?_
    have := wpAnyQ_lex (C := fun w' => ∃ n, w' = w.drewN n) (md := .any) hB.1 ol 0 (Array.replicate ol.toArray.size false) a (by simp) (by simpa using hB.2) h
    simpa using this

theorem noOut_then {K : Act → World → Prop} {Q : Exit → Act → World → Prop} (h : ¬ LetsOut Q) : ¬ LetsOut (Exit.then K Q) := h
theorem noOut_block {id : Nat} {Q : Exit → Act → World → Prop} (h : ¬ LetsOut Q) : ¬ LetsOut (Exit.inBlock id Q) := h
theorem noOut_round {JN : World → Prop} {JX : Code → World → Prop} : ¬ LetsOut (roundEnd JN JX) := fun ⟨_, _, h⟩ => h

open Go.RowKit

def okL {α : Type} (s : List α) (x : α) : Prop := s.head? = some x
def nxL {α : Type} (s : List α) (_ : α) : List α := s.tail
def finL {α : Type} (s : List α) : Prop := s = []
theorem okL_cons {α : Type} {s : List α} {x : α} (h : okL s x) : s = x :: nxL s x := by
  cases s with
  | nil => cases h
  | cons y l => injection h with h; subst h; rfl
/-- an iterator that yields a list's elements, as long as I holds -/
def IterI {α : Type} (P : Program) (gf : Nat) (lb : Array Value) (enc : α → Array Value) (l : List α) (I : World → Prop) : Prop :=
  Iter P gf lb enc okL nxL l finL (fun _ W => I W)
theorem IterI.mono {α : Type} {P : Program} {gf : Nat} {lb : Array Value} {enc : α → Array Value} {l : List α} {I I' : World → Prop} (h : IterI P gf lb enc l I) (hi : ∀ W, I' W → I W) : IterI P gf lb enc l I' :=
  fun lp K Kx W hK hKx hInv hY h0 => h lp K Kx W hK hKx (fun s W hs => hi W (hInv s W hs)) hY h0
/-- an iterator that yields a list's elements, whatever else the rounds make of the world beyond what was there -/
def IterL {α : Type} (P : Program) (gf : Nat) (lb : Array Value) (enc : α → Array Value) (l : List α) (w : World) : Prop :=
  Iter P gf lb enc okL nxL l finL (fun _ W => Below w.heap.size w W)
/-- a region inside a round, walked as one outside -/
theorem listIn_of {P : Program} {ops : Array Oper} {Q : Exit → Act → World → Prop} {l : Nat} (hQ : ¬ LetsOut Q) :
    ∀ (rest : List Oper) (a : Act) (w : World), rest.all notDefer = true → wpList P ops Q rest a w → wpListIn (Fence.wide.inRound l) 0 P ops Q rest a w := by
  intro rest
  induction rest with
  | nil => intro a w _ h; exact h
  | cons o rest ih =>
    intro a w hn h
    rw [List.all_cons, Bool.and_eq_true] at hn
    simp only [wpList, wpListIn] at h ⊢
    by_cases hw : Region.wanted o (yielded ops a.tmps) = true
    · simp only [hw, if_true] at h ⊢
      rcases h with h | ⟨_, h⟩
      · refine ⟨fun _ _ => trivial, ?_⟩
        have hs : Oper.semAt (Fence.wide.inRound l).round a.eval o = execOp a.eval o := Oper.semAt_some l _ _ (fun c hc => by have := hn.1; simp [notDefer, hc] at this)
        rw [hs]
        unfold Oper.wp at h
        generalize (execOp a.eval o).run P w = r at h
        cases r with
        | ok nx w' =>
          cases nx <;> simp only [Oper.upon, Oper.uponIn] at h ⊢ <;> first
            | exact ih _ _ hn.2 h
            | exact ⟨fun hh => by simp [Fence.wide, Fence.inRound] at hh, (CallsIn.inRound l (callsIn_wide.2 (h.mono (fun e w'' he => by cases e <;> first | exact ih _ _ hn.2 he | exact he))))⟩
            | exact ⟨fun hh => by simp [Fence.wide, Fence.inRound] at hh, rowsIn_of l (h.mono (fun v w'' hv => ih _ _ hn.2 hv))⟩
            | exact h.elim
        | halt x w' => cases x <;> simp only [Oper.upon, Oper.uponIn] at h ⊢ <;> exact h
      · exact absurd h hQ
    · simp only [hw] at h ⊢
      exact ⟨fun _ _ => trivial, ih _ _ hn.2 h⟩
theorem wide_quiet_lit {P : Program} {id : Nat} {Q : Exit → Act → World → Prop} {a : Act} {w : World} {ol : List Oper} (hm : P.follows .mixedOrders = true) (hB : Region.lexB .any ol.toArray = true)
    (h : wpQuiet P ol.toArray (fun w' => ∃ n, w' = w.drewN n) (fun a' => ∀ w', (∃ n, w' = w.drewN n) → Q .normal a' w') ol a) : (Code.region id ol.toArray true).wpIn Fence.wide 0 P Q a w :=
  wpIn_wide.2 (wp_region_quiet_lit hm hB h)
/-- THE CALLER's LAW where a list's elements are gone through, outermost loop: d done, r to come -/
theorem range_list {P : Program} {α : Type} {g : Operand} {ps : Array Tmp} {assign body : Code} {Q : Exit → Act → World → Prop} {a : Act} {w : World} {gf : Nat} {lb : Array Value}
    (hg : a.eval g = .func (.func gf) #[] lb) (eg : ∀ args w, (callFunc gf args).run P w = .ok (.enter gf args) w)
    {enc : α → Array Value} {l : List α} (I : World → Prop) (hit : IterI P gf lb enc l I) (hps : ∀ x, (enc x).size = ps.size)
    (J : List α → List α → World → Prop) (Jx : Code → World → Prop)
    (hJ : ∀ d r, Steady w.heap.size (J d r)) (hJx : ∀ c, Steady w.heap.size (Jx c)) (hInv : ∀ d r W, J d r W → I W)
    (h0 : J [] l w)
    (hround : ∀ (lp : Nat) (d : List α) (x : α) (r : List α) (W : World), l = d ++ x :: r → J d (x :: r) W →
      assign.wpIn (Fence.wide.inRound lp) 0 P (Exit.then (fun a1 W1 => Keep W W1 ∧ J d (x :: r) W1 ∧ ∀ (lp : Nat) (W2 : World), J d (x :: r) W2 →
        body.wpIn (Fence.wide.inRound lp) 0 P (roundEnd (fun W' => Keep W2 W' ∧ J (d ++ [x]) r W') (fun c W' => Keep W2 W' ∧ Jx c W')) a1 W2) (fun _ _ _ => False)) { tmps := (ps.zip (enc x)).foldl (fun t (p, v) => t.setIfInBounds p v) a.tmps, defers := [] } W)
    (hdone : ∀ (D : Nat) (W : World), w.heap.size ≤ D → J l [] W → W.heap[D]? = some (.deferred (some [])) → Q .normal { a with defers := { target := .collected D, args := #[] } :: a.defers } W)
    (hstop : ∀ (D : Nat) (c : Code) (W : World), w.heap.size ≤ D → Jx c W → W.heap[D]? = some (.deferred (some [])) → c.wpIn Fence.wide 0 P Q { a with defers := { target := .collected D, args := #[] } :: a.defers } W) :
    (Code.rangeFunc g ps assign body).wpIn Fence.wide 0 P Q a w := by
  refine range_outer (enc := enc) hg eg hit hps (fun s W => ∃ d, l = d ++ s ∧ J d s W) Jx
    (fun s x a1 _ => ∀ (d : List α) (lp : Nat) (W2 : World), l = d ++ s → J d s W2 → body.wpIn (Fence.wide.inRound lp) 0 P (roundEnd (fun W' => Keep W2 W' ∧ J (d ++ [x]) (nxL s x) W') (fun c W' => Keep W2 W' ∧ Jx c W')) a1 W2)
    (fun s => Steady.ex fun d => (Steady.pure _ _).and (hJ d s)) hJx (fun _ _ _ => Steady.pure _ _) (fun s W ⟨d, _, h⟩ => hInv d s W h) ⟨[], rfl, h0⟩ ?_ ?_ ?_ hstop
  · rintro lp s x W hok ⟨d, hd, hj⟩
    have hs := okL_cons hok
    generalize nxL s x = r at hs ⊢
    subst hs
    refine wpIn_mono (hround lp d x r W hd hj) ?_
    rintro e a1 W1 he
    cases e with
    | normal =>
      obtain ⟨h1, h2, h3⟩ := he
      refine ⟨h1, ⟨d, hd, h2⟩, fun d' lp' W2 hd' hj' => ?_⟩
      have : d' = d := by
        have := hd'.symm.trans hd
        exact List.append_cancel_right this
      subst this
      exact h3 lp' W2 hj'
    | _ => exact he.elim
  · rintro lp s x a1 W hok ⟨d, hd, hj⟩ hA
    refine wpIn_mono (hA d lp W hd hj) ?_
    rintro e a3 W3 he
    cases e with
    | normal =>
      refine ⟨he.1, d ++ [x], ?_, he.2⟩
      rw [hd, List.append_assoc]
      congr 1
      exact okL_cons hok
    | ret => exact he
    | exit id => exact he
    | goto t => exact he
    | panic ch => exact he.elim
    | outgrown => exact he.elim
  · rintro D s W hD hf ⟨d, hd, hj⟩ hk
    have hf : s = [] := hf
    subst hf
    rw [List.append_nil] at hd
    subst hd
    exact hdone D W hD hj hk

open Go.RowKit

def mfind : List MapEntry → Int → Option Value
  | [], _ => none
  | e :: l, k => match e.key with
    | .int .i64 j => if k = j then some e.val else mfind l k
    | _ => mfind l k

def intKeys (l : List MapEntry) : Prop := ∀ e ∈ l, ∃ k : Int, e.key = .int .i64 k

/-- block b is a map with keys that are ints: at key k it has f k -/
def IMap (w : World) (b : Nat) (f : Int → Option Value) : Prop :=
  ∃ es clock, w.heap[b]? = some (.map es clock) ∧ intKeys es.toList ∧ ∀ k, mfind es.toList k = f k

def upd (f : Int → Option Value) (k : Int) (v : Value) : Int → Option Value := fun j => if j = k then some v else f j

theorem findNow_int (q : IntKind) (k : Int) : ∀ (l : List MapEntry) (i : Nat), intKeys l →
    (Instr.findNow (.int q) (.int .i64 k) l i = some none ∧ mfind l k = none) ∨
    ∃ j e, l[j]? = some e ∧ Instr.findNow (.int q) (.int .i64 k) l i = some (some (i + j, e.val)) ∧ e.key = .int .i64 k ∧ mfind l k = some e.val ∧
      ∀ v, intKeys (l.modify j fun e => { e with key := .int .i64 k, val := v }) ∧ ∀ k', mfind (l.modify j fun e => { e with key := .int .i64 k, val := v }) k' = upd (mfind l) k v k' := by
  intro l
  induction l with
  | nil => intro i _; exact Or.inl ⟨rfl, rfl⟩
  | cons e l ih =>
    intro i hk
    obtain ⟨j, hj⟩ := hk e (by simp)
    have hk' : intKeys l := fun x hx => hk x (by simp [hx])
    by_cases h : k = j
    · subst h
      refine Or.inr ⟨0, e, rfl, ?_, hj, ?_, fun v => ⟨?_, fun k' => ?_⟩⟩
      · simp [Instr.findNow, Instr.sameNow, hj]
      · simp [mfind, hj]
      · intro x hx
        simp at hx
        rcases hx with rfl | hx
        · exact ⟨k, rfl⟩
        · exact hk' x hx
      · simp only [List.modify_zero_cons, mfind, upd, hj]
        split <;> rfl
    · have hb : (k == j) = false := by simpa using h
      rcases ih (i + 1) hk' with ⟨h1, h2⟩ | ⟨m, e', h0, h1, h2, h3, h4⟩
      · exact Or.inl ⟨by simp [Instr.findNow, Instr.sameNow, hj, hb, h1], by simp [mfind, hj, h, h2]⟩
      · refine Or.inr ⟨m + 1, e', by simpa using h0, ?_, h2, ?_, fun v => ⟨?_, fun k' => ?_⟩⟩
        · simp [Instr.findNow, Instr.sameNow, hj, hb, h1]; omega
        · simp [mfind, hj, h, h3]
        · intro x hx
          simp at hx
          rcases hx with rfl | hx
          · exact ⟨j, hj⟩
          · exact (h4 v).1 x hx
        · have := (h4 v).2 k'
          simp only [List.modify_succ_cons, mfind, upd, hj] at this ⊢
          rw [this]
          by_cases e1 : k' = j
          · subst e1; simp [Ne.symm h]
          · simp [e1]

theorem mfind_push (l : List MapEntry) (k : Int) (v : Value) (b : Nat) (k' : Int) (hn : mfind l k = none) (hk : intKeys l) :
    mfind (l ++ [{ key := .int .i64 k, val := v, born := b }]) k' = upd (mfind l) k v k' := by
  induction l with
  | nil => simp [mfind, upd]
  | cons e l ih =>
    obtain ⟨j, hj⟩ := hk e (by simp)
    simp only [mfind, hj] at hn
    split at hn
    · cases hn
    · rename_i hkj
      have := ih hn (fun x hx => hk x (by simp [hx]))
      simp only [List.cons_append, mfind, hj, upd] at this ⊢
      rw [this]
      by_cases e1 : k' = j
      · subst e1; simp [Ne.symm hkj]
      · simp [e1]

section
variable {P : Program} {t kt et : TypeId} {w : World} {b : Nat} {f : Int → Option Value}
theorem IMap.lt (h : IMap w b f) : b < w.heap.size := by obtain ⟨es, c, hb, _⟩ := h; exact (Array.getElem?_eq_some_iff.1 hb).1
theorem IMap.made (w : World) : IMap (w.alloc (.map #[] 0)) w.heap.size (fun _ => none) :=
  ⟨#[], 0, World.alloc_heap_new w _, by intro e he; simp at he, fun k => rfl⟩
theorem IMap.of_block {w' : World} (h : IMap w b f) (hb : w'.heap[b]? = w.heap[b]?) : IMap w' b f := by
  obtain ⟨es, c, h1, h2⟩ := h; exact ⟨es, c, hb.trans h1, h2⟩
theorem IMap.ext {w' : World} (h : IMap w b f) (hb : Below w.heap.size w w') : IMap w' b f := h.of_block (hb.block b h.lt)
theorem IMap.grown {w' : World} {row : Option Nat} (h : IMap w b f) (hg : w.grownBy w' row) (hne : some b ≠ row) : IMap w' b f := h.of_block (hg.block b h.lt hne)
theorem IMap.alloc (h : IMap w b f) (o : Obj) : IMap (w.alloc o) b f := h.of_block (Below.heap_alloc w o b h.lt)
theorem IMap.setCell (h : IMap w b f) (p : Addr) (v : Value) : IMap (w.setCell p v) b f := by
  obtain ⟨es, c, h1, h2⟩ := h
  refine ⟨es, c, ?_, h2⟩
  by_cases e : b = p.block
  · subst e
    obtain ⟨hlt, hk'⟩ := Array.getElem?_eq_some_iff.1 h1
    show (w.heap.modify p.block _)[p.block]? = _
    rw [Array.getElem?_eq_getElem (by rw [Array.size_modify]; exact hlt), Array.getElem_modify_self, hk']
  · exact (Below.heap_setCell w p v b e).trans h1
theorem IMap.drewN (h : IMap w b f) (n : Nat) : IMap (w.drewN n) b f := h
theorem Steady.imap (B b : Nat) (f : Int → Option Value) : Steady B (fun W => IMap W b f) := fun W W' row h hg hr => by
  obtain ⟨es, c, h1, h2⟩ := h
  exact ⟨es, c, block_keep h1 rfl hg hr, h2⟩

theorem run_checkKey_int (hk : P.underlying kt = some (.int .i64)) (em : Bool) (k : Int) (w : World) : (Instr.checkKey em 10000 kt (.int .i64 k)).run P w = .ok () w := by
  have : ∀ n, (Instr.checkKey em (n + 1) kt (.int .i64 k)).run P w = .ok () w := fun n => by simp [Instr.checkKey, run_underlying hk]
  exact this 9999
theorem sameBits_int (k : Int) : Instr.sameBits 10000 (.int .i64 k) (.int .i64 k) = true := by
  have : ∀ n, Instr.sameBits n (.int .i64 k) (.int .i64 k) = true := fun n => by cases n <;> simp [Instr.sameBits]
  exact this 10000

theorem run_findKey_int (hk : P.underlying kt = some (.int .i64)) (k : Int) (l : List MapEntry) (r : Option (Nat × Value)) (w : World) (h : Instr.findNow (.int .i64) (.int .i64 k) l 0 = some r) :
    (Instr.findKey kt (.int .i64 k) l).run P w = .ok r w := by
  simp [Instr.findKey, run_underlying hk, h]

theorem IMap.look (h : IMap w b f) (ht : P.underlying t = some (.map kt et)) (hk : P.underlying kt = some (.int .i64)) {z : Value} (hz : (zeroValue et).run P w = .ok z w) (k : Int) :
    (Instr.lookup t (.map (some b)) (.int .i64 k) false).run P w = .ok ((f k).getD z) w := by
  obtain ⟨es, c, hb, hi, hf⟩ := h
  have hgo : (getObj b).run P w = .ok (.map es c) w := by simp [getObj, Sem.run, hb]
  rcases findNow_int .i64 k es.toList 0 hi with ⟨h1, h2⟩ | ⟨j, e, _, h1, _, h2, _⟩
  · rw [hf] at h2
    simp [Instr.lookup, run_underlying ht, Sem.run_bind, hgo, run_checkKey_int hk, run_findKey_int hk k _ _ w h1, hz, h2, Result.andThen]
  · rw [hf] at h2
    simp [Instr.lookup, run_underlying ht, Sem.run_bind, hgo, run_checkKey_int hk, run_findKey_int hk k _ _ w h1, h2, Result.andThen]

theorem IMap.look_ok (h : IMap w b f) (ht : P.underlying t = some (.map kt et)) (hk : P.underlying kt = some (.int .i64)) {z : Value} (hz : (zeroValue et).run P w = .ok z w) (k : Int) :
    (Instr.lookup t (.map (some b)) (.int .i64 k) true).run P w = .ok (.tuple #[(f k).getD z, .bool (f k).isSome]) w := by
  obtain ⟨es, c, hb, hi, hf⟩ := h
  have hgo : (getObj b).run P w = .ok (.map es c) w := by simp [getObj, Sem.run, hb]
  rcases findNow_int .i64 k es.toList 0 hi with ⟨h1, h2⟩ | ⟨j, e, _, h1, _, h2, _⟩
  · rw [hf] at h2
    simp [Instr.lookup, run_underlying ht, Sem.run_bind, hgo, run_checkKey_int hk, run_findKey_int hk k _ _ w h1, hz, h2, Result.andThen]
  · rw [hf] at h2
    simp [Instr.lookup, run_underlying ht, Sem.run_bind, hgo, run_checkKey_int hk, run_findKey_int hk k _ _ w h1, h2, Result.andThen]

theorem IMap.put (h : IMap w b f) (ht : P.underlying t = some (.map kt et)) (hk : P.underlying kt = some (.int .i64)) (k : Int) (v : Value) :
    ∃ o, (Instr.mapUpdate t (.map (some b)) (.int .i64 k) v).run P w = .ok () (w.putObj b o) ∧ IMap (w.putObj b o) b (upd f k v) := by
  have hlt := h.lt
  obtain ⟨es, c, hb, hi, hf⟩ := h
  have hgo : (getObj b).run P w = .ok (.map es c) w := by simp [getObj, Sem.run, hb]
  have hso : ∀ o, (setObj b o).run P w = .ok () (w.putObj b o) := fun o => by simp [setObj, Sem.run, hb, World.putObj]
  rcases findNow_int .i64 k es.toList 0 hi with ⟨h1, h2⟩ | ⟨j, e, hj, h1, hek, h2, h3⟩
  · refine ⟨.map (es.push { key := .int .i64 k, val := v, born := c }) (c + 1), ?_, ?_⟩
    · simp [Instr.mapUpdate, run_underlying ht, Sem.run_bind, hgo, run_checkKey_int hk, run_findKey_int hk k _ _ w h1, hso, Result.andThen]
    · refine ⟨_, _, World.putObj_heap_same hlt, ?_, fun k' => ?_⟩
      · intro x hx
        simp at hx
        rcases hx with hx | rfl
        · exact hi x (by simpa using hx)
        · exact ⟨k, rfl⟩
      · rw [Array.toList_push, mfind_push _ _ _ _ _ h2 hi]
        simp only [upd, hf]
  · have hes : es[0 + j]? = some e := by simpa using hj
    refine ⟨.map (es.modify (0 + j) fun e => { e with key := .int .i64 k, val := v }) c, ?_, ?_⟩
    · simp [Instr.mapUpdate, run_underlying ht, Sem.run_bind, hgo, run_checkKey_int hk, run_findKey_int hk k _ _ w h1, hso, Result.andThen, Instr.keyThatStays]
      simp at hes
      simp [hes, hek, sameBits_int, hso]
    · refine ⟨_, _, World.putObj_heap_same hlt, ?_, fun k' => ?_⟩
      · have := (h3 v).1
        simpa [Array.toList_modify] using this
      · have := (h3 v).2 k'
        rw [Array.toList_modify, Nat.zero_add, this]
        simp only [upd, hf]
end

open Go.RowKit

/-- only blocks of T, and new ones, have turned; T has not taken in what was there -/
def Tch (T : World → Nat → Prop) (W W' : World) : Prop :=
  W.heap.size ≤ W'.heap.size ∧ (∀ k, k < W.heap.size → ¬ T W k → W'.heap[k]? = W.heap[k]?) ∧ ∀ k, T W' k → T W k ∨ W.heap.size ≤ k
theorem Tch.refl (T : World → Nat → Prop) (W : World) : Tch T W W := ⟨Nat.le_refl _, fun _ _ _ => rfl, fun _ h => .inl h⟩
theorem Tch.trans {T : World → Nat → Prop} {A B C : World} (h : Tch T A B) (k : Tch T B C) : Tch T A C :=
  ⟨Nat.le_trans h.1 k.1, fun i hi hn => (k.2.1 i (Nat.lt_of_lt_of_le hi h.1) (fun ht => (h.2.2 i ht).elim hn (by omega))).trans (h.2.1 i hi hn),
    fun i ht => (k.2.2 i ht).elim (h.2.2 i) (fun hs => .inr (Nat.le_trans h.1 hs))⟩
theorem grown_put (W : World) (l : Nat) (o : Obj) : W.grownBy (W.putObj l o) (some l) :=
  ⟨rfl, rfl, rfl, by simp, fun k _ hne => World.putObj_heap_other (fun e => hne (by rw [e]))⟩
/-- an iterator that may have memory of its own -/
def IterT {σ α : Type} (P : Program) (gf : Nat) (lb : Array Value) (enc : α → Array Value) (ok : σ → α → Prop) (nx : σ → α → σ) (s0 : σ) (Fin : σ → Prop) (Inv : σ → World → Prop) : Prop :=
  ∀ (l : Nat) (K : σ → World → Prop) (Kx : World → Prop) (T : World → Nat → Prop) (W : World),
    (∀ s W W', K s W → Below W.heap.size W W' → K s W') → (∀ W W', Kx W → Below W.heap.size W W' → Kx W') → (∀ s W, K s W → Inv s W) →
    (∀ s W k, K s W → T W k → k < W.heap.size) → (∀ s W W' k, K s W → Below W.heap.size W W' → T W' k → T W k) →
    (∀ s x W, ok s x → K s W → YieldAt Fence.wide 0 P l (enc x) W fun e W' => (e = .returned (.bool true) ∧ K (nx s x) W' ∧ Tch T W W') ∨ (e = .returned (.bool false) ∧ Kx W')) →
    K s0 W → CallsIn Fence.wide 0 P gf (#[.func (.yield l) #[] #[]] ++ lb) W fun e W' => (∃ v, e = .returned v) ∧ ((∃ s, Fin s ∧ K s W') ∨ Kx W')
/-- THE CALLER's LAW, outermost loop, where the iterator has memory of its own -/
theorem range_outerT {P : Program} {σ α : Type} {g : Operand} {ps : Array Tmp} {assign body : Code} {Q : Exit → Act → World → Prop} {a : Act} {w : World} {gf : Nat} {lb : Array Value}
    (hg : a.eval g = .func (.func gf) #[] lb) (eg : ∀ args w, (callFunc gf args).run P w = .ok (.enter gf args) w)
    {enc : α → Array Value} {ok : σ → α → Prop} {nx : σ → α → σ} {s0 : σ} {Fin : σ → Prop} {Inv : σ → World → Prop} (hit : IterT P gf lb enc ok nx s0 Fin Inv)
    (hps : ∀ x, (enc x).size = ps.size)
    (J : σ → World → Prop) (Jx : Code → World → Prop) (A : σ → α → Act → World → Prop)
    (hJ : ∀ s, Steady w.heap.size (J s)) (hJx : ∀ c, Steady w.heap.size (Jx c)) (hA : ∀ s x a, Steady w.heap.size (A s x a)) (hInv : ∀ s W, J s W → Inv s W)
    (T : World → Nat → Prop) (hT0 : ∀ s W k, J s W → T W k → k < W.heap.size) (hTg : ∀ W W' row, W.grownBy W' row → (∀ r, row = some r → w.heap.size ≤ r ∧ ∃ o : Obj, W.heap[r]? = some o ∧ isBook o = true) → (∃ s, J s W) → ∀ k, T W' k → T W k)
    (h0 : J s0 w)
    (hassign : ∀ (l : Nat) (s : σ) (x : α) (W : World), ok s x → J s W →
      assign.wpIn (Fence.wide.inRound l) 0 P (Exit.then (fun a1 W1 => Keep W W1 ∧ J s W1 ∧ A s x a1 W1 ∧ Tch T W W1) (fun _ _ _ => False)) { tmps := (ps.zip (enc x)).foldl (fun t (p, v) => t.setIfInBounds p v) a.tmps, defers := [] } W)
    (hbody : ∀ (l : Nat) (s : σ) (x : α) (a1 : Act) (W : World), ok s x → J s W → A s x a1 W →
      body.wpIn (Fence.wide.inRound l) 0 P (roundEnd (fun W' => Keep W W' ∧ J (nx s x) W' ∧ Tch T W W') (fun c W' => Keep W W' ∧ Jx c W')) a1 W)
    (hdone : ∀ (D : Nat) (s : σ) (W : World), w.heap.size ≤ D → Fin s → J s W → W.heap[D]? = some (.deferred (some [])) → Q .normal { a with defers := { target := .collected D, args := #[] } :: a.defers } W)
    (hstop : ∀ (D : Nat) (c : Code) (W : World), w.heap.size ≤ D → Jx c W → W.heap[D]? = some (.deferred (some [])) → c.wpIn Fence.wide 0 P Q { a with defers := { target := .collected D, args := #[] } :: a.defers } W) :
    (Code.rangeFunc g ps assign body).wpIn Fence.wide 0 P Q a w := by
  refine wpIn_rangeFunc ?_
  intro fn hfn
  obtain ⟨rec, hrec⟩ : ∃ rec : LoopState → Option Code → Loop, rec = fun st pe => { state := st, pending := pe, fn, tmps := a.tmps, params := ps, assign, body, defers := w.heap.size } := ⟨_, rfl⟩
  obtain ⟨W1, hW1⟩ : ∃ W1, (w.alloc (.deferred (some []))).alloc (.loop (rec .ready none)) = W1 := ⟨_, rfl⟩
  have hL1 : W1.heap[w.heap.size + 1]? = some (.loop (rec .ready none)) := by
    rw [← hW1]; have := World.alloc_heap_new (w.alloc (.deferred (some []))) (.loop (rec .ready none)); rwa [World.size_alloc] at this
  have hK1 : W1.heap[w.heap.size]? = some (.deferred (some [])) := by
    rw [← hW1]; exact (Below.heap_alloc _ _ _ (by simp)).trans (World.alloc_heap_new w _)
  have hb1 : Below w.heap.size w W1 := by
    rw [← hW1]; exact ((Below.refl _ w).alloc (Nat.le_refl _) _).alloc (by simp) _
  have hI1 : J s0 W1 := (hJ s0).ext h0 hb1
  have keepE : ∀ {W W' : World} {k : Nat} {o : Obj}, W.heap[k]? = some o → Below W.heap.size W W' → W'.heap[k]? = some o :=
    fun hk hb => (hb.block _ (Array.getElem?_eq_some_iff.1 hk).1).trans hk
  refine ⟨w.heap.size + 1, [{ target := .collected w.heap.size, args := #[] }], W1, { target := .fn (.func gf) lb, args := #[.func (.yield (w.heap.size + 1)) #[] #[]] }, W1, gf,
    #[.func (.yield (w.heap.size + 1)) #[] #[]] ++ lb, W1, ?_, ?_, ?_, ?_, fun h => by simp [Fence.wide] at h, ?_⟩
  · rw [← hW1, hrec]; exact run_enterLoop_outer _ _ _ _ _
  · simp only [resolve, hg]
    simp [go_sem]
  · intro f' hf'; trivial
  · simp [invoke, go_sem, eg]
  · refine (hit (w.heap.size + 1)
      (fun s W => J s W ∧ W.heap[w.heap.size + 1]? = some (.loop (rec .ready none)) ∧ W.heap[w.heap.size]? = some (.deferred (some [])))
      (fun W => ∃ c, Jx c W ∧ W.heap[w.heap.size + 1]? = some (.loop (rec .done (some c))) ∧ W.heap[w.heap.size]? = some (.deferred (some [])))
      (fun W k => T W k ∨ k = w.heap.size + 1 ∨ k = w.heap.size)
      W1 (fun s A B h hb => ⟨(hJ s).ext h.1 hb, keepE h.2.1 hb, keepE h.2.2 hb⟩)
      (fun A B h hb => by obtain ⟨c, h1, h2, h3⟩ := h; exact ⟨c, (hJx c).ext h1 hb, keepE h2 hb, keepE h3 hb⟩)
      (fun s W h => hInv s W h.1)
      (fun s W k h ht => by
        rcases ht with ht | rfl | rfl
        · exact hT0 s W k h.1 ht
        · exact (Array.getElem?_eq_some_iff.1 h.2.1).1
        · exact (Array.getElem?_eq_some_iff.1 h.2.2).1)
      (fun s A B k h hb ht => by
        rcases ht with ht | ht
        · exact .inl (hTg A B none ⟨hb.os, hb.tape, hb.output, hb.size, fun k hk _ => hb.block k hk⟩ (fun r hr => by cases hr) ⟨s, h.1⟩ k ht)
        · exact .inr ht)
      ?_ ⟨hI1, hL1, hK1⟩).mono ?_
    · rintro s x W hok ⟨hi, hl, hk⟩
      have hy := run_yield (P := P) (args := enc x) hl (by rw [hrec]; exact hps x)
      rw [hrec] at hy
      refine ⟨fn, _, assign, body, hy, roundIn_of_wpIn hfn (wpIn_mono (hassign _ s x W hok hi) ?_)⟩
      rintro e a1 V hp
      cases e with
      | normal =>
        obtain ⟨hkp, hiV, hAV, hTV⟩ := hp
        have hlV := hkp _ _ hl rfl
        have hkV := hkp _ _ hk rfl
        have hlt : w.heap.size + 1 < V.heap.size := (Array.getElem?_eq_some_iff.1 hlV).1
        refine ⟨_, run_beginRound hlV (by rw [hrec]), ?_⟩
        have hl2 : (V.putObj (w.heap.size + 1) (.loop { rec .ready none with state := .busy })).heap[w.heap.size + 1]? = some (.loop { rec .ready none with state := .busy }) := World.putObj_heap_same hlt
        have hk2 : (V.putObj (w.heap.size + 1) (.loop { rec .ready none with state := .busy })).heap[w.heap.size]? = some (.deferred (some [])) := (World.putObj_heap_other (by omega)).trans hkV
        refine wpIn_mono (hbody _ s x a1 _ hok ((hJ s).put _ hiV (by omega) hlV rfl) ((hA s x a1).put _ hAV (by omega) hlV rfl)) ?_
        have fin : ∀ (jump : Option Code) (W3 : World), Keep (V.putObj (w.heap.size + 1) (.loop { rec .ready none with state := .busy })) W3 →
            (Instr.endRound (w.heap.size + 1) jump).run P W3 = .ok (.bool jump.isNone) (W3.putObj (w.heap.size + 1) (.loop (rec (if jump.isNone then .ready else .done) jump))) ∧
            W3.heap[w.heap.size + 1]? = some (.loop { rec .ready none with state := .busy }) ∧
            (W3.putObj (w.heap.size + 1) (.loop (rec (if jump.isNone then .ready else .done) jump))).heap[w.heap.size + 1]? = some (.loop (rec (if jump.isNone then .ready else .done) jump)) ∧
            (W3.putObj (w.heap.size + 1) (.loop (rec (if jump.isNone then .ready else .done) jump))).heap[w.heap.size]? = some (.deferred (some [])) := fun jump W3 hk3 => by
          have hl3 := hk3 _ _ hl2 rfl
          have := run_endRound (P := P) jump hl3
          rw [hrec] at this ⊢
          exact ⟨this, by rw [hrec] at hl3; exact hl3, World.putObj_heap_same (Array.getElem?_eq_some_iff.1 hl3).1, (World.putObj_heap_other (by omega)).trans (hk3 _ _ hk2 rfl)⟩
        rintro e a3 W3 hp
        cases e with
        | normal =>
          obtain ⟨hk3, hi3, hT3⟩ := hp
          obtain ⟨hr, hl3, hl4, hk4⟩ := fin none W3 hk3
          refine ⟨_, _, hr, .inl ⟨rfl, ⟨(hJ _).put _ hi3 (by omega) hl3 rfl, hl4, hk4⟩, ?_⟩⟩
          have g1 := grown_put V (w.heap.size + 1) (.loop { rec .ready none with state := .busy })
          have g2 := grown_put W3 (w.heap.size + 1) (.loop (rec (if (none : Option Code).isNone then .ready else .done) none))
          have t1 : ∀ k, T (V.putObj (w.heap.size + 1) (.loop { rec .ready none with state := .busy })) k → T V k := hTg _ _ _ g1 (fun r hr => by cases hr; exact ⟨by omega, _, hlV, rfl⟩) ⟨s, hiV⟩
          have t2 : ∀ k, T (W3.putObj (w.heap.size + 1) (.loop (rec (if (none : Option Code).isNone then .ready else .done) none))) k → T W3 k := hTg _ _ _ g2 (fun r hr => by cases hr; exact ⟨by omega, _, hl3, rfl⟩) ⟨_, hi3⟩
          have z1 : (V.putObj (w.heap.size + 1) (.loop { rec .ready none with state := .busy })).heap.size = V.heap.size := by simp
          have z2 : (W3.putObj (w.heap.size + 1) (.loop (rec (if (none : Option Code).isNone then .ready else .done) none))).heap.size = W3.heap.size := by simp
          have s1 := hTV.1
          have s3 := hT3.1
          rw [z1] at s3
          refine ⟨by rw [z2]; omega, fun k hk hn => ?_, fun k hk => ?_⟩
          · have n1 : k ≠ w.heap.size + 1 := fun e => hn (.inr (.inl e))
            have n0 : ¬ T W k := fun e => hn (.inl e)
            have m1 : ¬ T V k := fun e => (hTV.2.2 k e).elim n0 (by omega)
            have m2 := fun e => m1 (t1 k e)
            rw [World.putObj_heap_other n1, hT3.2.1 k (by rw [z1]; omega) m2, World.putObj_heap_other n1, hTV.2.1 k hk n0]
          · rcases hk with hk | hk
            · rcases hT3.2.2 k (t2 k hk) with h | h
              · rcases hTV.2.2 k (t1 k h) with h | h
                · exact .inl (.inl h)
                · exact .inr h
              · rw [z1] at h
                exact .inr (by omega)
            · exact .inl (.inr hk)
        | ret =>
          obtain ⟨hk3, hi3⟩ := hp
          obtain ⟨hr, hl3, hl4, hk4⟩ := fin (some .ret) W3 hk3
          exact ⟨_, _, hr, .inr ⟨rfl, .ret, (hJx _).put _ hi3 (by omega) hl3 rfl, hl4, hk4⟩⟩
        | exit id =>
          obtain ⟨hk3, hi3⟩ := hp
          obtain ⟨hr, hl3, hl4, hk4⟩ := fin (some (.exit id)) W3 hk3
          exact ⟨_, _, hr, .inr ⟨rfl, .exit id, (hJx _).put _ hi3 (by omega) hl3 rfl, hl4, hk4⟩⟩
        | goto t =>
          obtain ⟨hk3, hi3⟩ := hp
          obtain ⟨hr, hl3, hl4, hk4⟩ := fin (some (.goto t)) W3 hk3
          exact ⟨_, _, hr, .inr ⟨rfl, .goto t, (hJx _).put _ hi3 (by omega) hl3 rfl, hl4, hk4⟩⟩
        | panic ch => exact hp.elim
        | outgrown => exact hp.elim
      | exit id => exact hp.elim
      | goto t => exact hp.elim
      | ret => exact hp.elim
      | panic chain => exact hp.elim
      | outgrown => exact hp.elim
    · rintro e W2 ⟨⟨v, rfl⟩, (⟨s, hS, hi, hl, hk⟩ | ⟨c, hi, hl, hk⟩)⟩
      · exact ⟨none, _, by have := run_endLoop (P := P) hl (by rw [hrec]; simp); rw [hrec] at this; exact this, hdone _ s _ (Nat.le_refl _) hS ((hJ s).put _ hi (by omega) hl rfl) ((World.putObj_heap_other (by omega)).trans hk)⟩
      · exact ⟨some c, _, by have := run_endLoop (P := P) hl (by rw [hrec]; simp); rw [hrec] at this; exact this, hstop _ c _ (Nat.le_refl _) ((hJx c).put _ hi (by omega) hl rfl) ((World.putObj_heap_other (by omega)).trans hk)⟩
/-- an iterator that yields a list's elements, as long as I holds, with memory of its own -/
def IterTI {α : Type} (P : Program) (gf : Nat) (lb : Array Value) (enc : α → Array Value) (l : List α) (I : World → Prop) : Prop :=
  IterT P gf lb enc okL nxL l finL (fun _ W => I W)
theorem IterTI.mono {α : Type} {P : Program} {gf : Nat} {lb : Array Value} {enc : α → Array Value} {l : List α} {I I' : World → Prop} (h : IterTI P gf lb enc l I) (hi : ∀ W, I' W → I W) : IterTI P gf lb enc l I' :=
  fun lp K Kx T W hK hKx hInv h1 h2 hY h0 => h lp K Kx T W hK hKx (fun s W hs => hi W (hInv s W hs)) h1 h2 hY h0
/-- THE CALLER's LAW where a list's elements are gone through, outermost loop: d done, r to come -/
theorem range_listT {P : Program} {α : Type} {g : Operand} {ps : Array Tmp} {assign body : Code} {Q : Exit → Act → World → Prop} {a : Act} {w : World} {gf : Nat} {lb : Array Value}
    (hg : a.eval g = .func (.func gf) #[] lb) (eg : ∀ args w, (callFunc gf args).run P w = .ok (.enter gf args) w)
    {enc : α → Array Value} {l : List α} (I : World → Prop) (hit : IterTI P gf lb enc l I) (hps : ∀ x, (enc x).size = ps.size)
    (J : List α → List α → World → Prop) (Jx : Code → World → Prop)
    (hJ : ∀ d r, Steady w.heap.size (J d r)) (hJx : ∀ c, Steady w.heap.size (Jx c)) (hInv : ∀ d r W, J d r W → I W)
    (T : World → Nat → Prop) (hT0 : ∀ d r W k, J d r W → T W k → k < W.heap.size) (hTg : ∀ W W' row, W.grownBy W' row → (∀ q, row = some q → w.heap.size ≤ q ∧ ∃ o : Obj, W.heap[q]? = some o ∧ isBook o = true) → (∃ d r, J d r W) → ∀ k, T W' k → T W k)
    (h0 : J [] l w)
    (hround : ∀ (lp : Nat) (d : List α) (x : α) (r : List α) (W : World), l = d ++ x :: r → J d (x :: r) W →
      assign.wpIn (Fence.wide.inRound lp) 0 P (Exit.then (fun a1 W1 => Keep W W1 ∧ J d (x :: r) W1 ∧ Tch T W W1 ∧ ∀ (lp : Nat) (W2 : World), J d (x :: r) W2 →
        body.wpIn (Fence.wide.inRound lp) 0 P (roundEnd (fun W' => Keep W2 W' ∧ J (d ++ [x]) r W' ∧ Tch T W2 W') (fun c W' => Keep W2 W' ∧ Jx c W')) a1 W2) (fun _ _ _ => False)) { tmps := (ps.zip (enc x)).foldl (fun t (p, v) => t.setIfInBounds p v) a.tmps, defers := [] } W)
    (hdone : ∀ (D : Nat) (W : World), w.heap.size ≤ D → J l [] W → W.heap[D]? = some (.deferred (some [])) → Q .normal { a with defers := { target := .collected D, args := #[] } :: a.defers } W)
    (hstop : ∀ (D : Nat) (c : Code) (W : World), w.heap.size ≤ D → Jx c W → W.heap[D]? = some (.deferred (some [])) → c.wpIn Fence.wide 0 P Q { a with defers := { target := .collected D, args := #[] } :: a.defers } W) :
    (Code.rangeFunc g ps assign body).wpIn Fence.wide 0 P Q a w := by
  refine range_outerT (enc := enc) hg eg hit hps (fun s W => ∃ d, l = d ++ s ∧ J d s W) Jx
    (fun s x a1 _ => ∀ (d : List α) (lp : Nat) (W2 : World), l = d ++ s → J d s W2 → body.wpIn (Fence.wide.inRound lp) 0 P (roundEnd (fun W' => Keep W2 W' ∧ J (d ++ [x]) (nxL s x) W' ∧ Tch T W2 W') (fun c W' => Keep W2 W' ∧ Jx c W')) a1 W2)
    (fun s => Steady.ex fun d => (Steady.pure _ _).and (hJ d s)) hJx (fun _ _ _ => Steady.pure _ _) (fun s W ⟨d, _, h⟩ => hInv d s W h) T (fun s W k ⟨d, _, h⟩ ht => hT0 d s W k h ht) (fun W W' row hg hr ⟨s, d, _, h⟩ => hTg W W' row hg hr ⟨d, s, h⟩) ⟨[], rfl, h0⟩ ?_ ?_ ?_ hstop
  · rintro lp s x W hok ⟨d, hd, hj⟩
    have hs := okL_cons hok
    generalize nxL s x = r at hs ⊢
    subst hs
    refine wpIn_mono (hround lp d x r W hd hj) ?_
    rintro e a1 W1 he
    cases e with
    | normal =>
      obtain ⟨h1, h2, hT1, h3⟩ := he
      refine ⟨h1, ⟨d, hd, h2⟩, fun d' lp' W2 hd' hj' => ?_, hT1⟩
      have : d' = d := by
        have := hd'.symm.trans hd
        exact List.append_cancel_right this
      subst this
      exact h3 lp' W2 hj'
    | _ => exact he.elim
  · rintro lp s x a1 W hok ⟨d, hd, hj⟩ hA
    refine wpIn_mono (hA d lp W hd hj) ?_
    rintro e a3 W3 he
    cases e with
    | normal =>
      refine ⟨he.1, ⟨d ++ [x], ?_, he.2.1⟩, he.2.2⟩
      rw [hd, List.append_assoc]
      congr 1
      exact okL_cons hok
    | ret => exact he
    | exit id => exact he
    | goto t => exact he
    | panic ch => exact he.elim
    | outgrown => exact he.elim
  · rintro D s W hD hf ⟨d, hd, hj⟩ hk
    have hf : s = [] := hf
    subst hf
    rw [List.append_nil] at hd
    subst hd
    exact hdone D W hD hj hk
end Go.Proofs.YtblhmdhfhaencaaGreat
