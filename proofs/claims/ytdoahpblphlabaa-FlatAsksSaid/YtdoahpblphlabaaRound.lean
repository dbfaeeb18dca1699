/-
  A region that draws its order and only reads, inside a round of a range over a function (at the wide fence). No program in sight.
-/
import Derived.Test.YtdoahpblphlabaaRange
import Derived.Deep.Quiet
namespace Go.Proofs.Ytdoahpblphlabaa
set_option linter.unusedSimpArgs false
set_option linter.unusedVariables false
open Go.RowKit

def notDefer (o : Oper) : Bool := match o.op with | .defer _ => false | _ => true

theorem rowsIn_of {n : Nat} {P : Program} {row : String} {args : Array Value} {w : World} {R : Value → World → Prop} (l : Nat) (h : Rows P row args w R) : RowsIn (Fence.wide.inRound l) n P row args w R :=
  fun c cs _ => let ⟨v, w', r, s⟩ := h c cs; ⟨v, w', r, stepsIn_wide.2 s⟩

theorem wpOpsIn_of {P : Program} {ops : Array Oper} {Q : Exit → Act → World → Prop} (l : Nat) (hn : ∀ (i : Nat) (o : Oper), ops[i]? = some o → notDefer o = true) (hQ : ¬ LetsOut Q) :
    ∀ (order : List Nat) (a : Act) (w : World), wpOps P ops Q order a w → wpOpsIn (Fence.wide.inRound l) 0 P ops Q order a w := by
  intro order
  induction order with
  | nil => intro a w h; exact h
  | cons i rest ih =>
    intro a w h
    simp only [wpOps, wpOpsIn] at h ⊢
    cases ho : ops[i]? with
    | none => simp only [ho] at h ⊢; exact ih a w h
    | some o =>
      simp only [ho] at h ⊢
      by_cases hw : Region.wanted o (yielded ops a.tmps) = true
      · simp only [hw, if_true] at h ⊢
        rcases h with h | ⟨_, h⟩
        · refine ⟨fun _ _ => trivial, ?_⟩
          have hs : Oper.semAt (Fence.wide.inRound l).round a.eval o = execOp a.eval o := Oper.semAt_some l _ _ (fun c hc => by have := hn i o ho; simp [notDefer, hc] at this)
          rw [hs]
          unfold Oper.wp at h
          generalize (execOp a.eval o).run P w = r at h
          cases r with
          | ok nx w' =>
            cases nx <;> simp only [Oper.upon, Oper.uponIn] at h ⊢ <;> first
              | exact ih _ _ h
              | exact ⟨fun hh => by simp [Fence.wide, Fence.inRound] at hh, (CallsIn.inRound l (callsIn_wide.2 (h.mono (fun e w'' he => by cases e <;> first | exact ih _ _ he | exact he))))⟩
              | exact ⟨fun hh => by simp [Fence.wide, Fence.inRound] at hh, rowsIn_of l (h.mono (fun v w'' hv => ih _ _ hv))⟩
              | exact h.elim
          | halt x w' => cases x <;> simp only [Oper.upon, Oper.uponIn] at h ⊢ <;> exact h
        · exact absurd h hQ
      · simp only [hw] at h ⊢
        exact ⟨fun _ _ => trivial, ih _ _ h⟩

theorem round_quiet_lit {P : Program} {id : Nat} {Q : Exit → Act → World → Prop} {a : Act} {w : World} {ol : List Oper} {l : Nat} (hm : P.follows .mixedOrders = true) (hB : Region.lexB .any ol.toArray = true)
    (hn : ol.all notDefer = true) (hQ : ¬ LetsOut Q)
    (h : wpQuiet P ol.toArray (fun w' => ∃ n, w' = w.drewN n) (fun a' => ∀ w', (∃ n, w' = w.drewN n) → Q .normal a' w') ol a) : (Code.region id ol.toArray true).wpIn (Fence.wide.inRound l) 0 P Q a w := by
  refine wpIn_region_draw fun t => ?_
  refine wpOpsIn_of l (fun i o ho => ?_) hQ _ _ _ ?_
  · rw [List.all_eq_true] at hn
    exact hn o (by
      have : ol[i]? = some o := by simpa using ho
      exact List.mem_of_getElem? this)
  · simp only [Region.schedule, hm, Bool.true_or, if_true]
    simp only [Region.lexB, Bool.and_eq_true] at hB
    refine wpAny_sound _ t _ a _ ?_
    refine wpAny_of_quiet (C := fun w' => ∃ n, w' = w.drewN n) (Q := fun a' => ∀ w', (∃ n, w' = w.drewN n) → Q .normal a' w') (fun _ w' hw' h => h w' hw') _ _ _ _ ⟨1, rfl⟩ ?_
    have := wpAnyQ_lex (C := fun w' => ∃ n, w' = w.drewN n) (md := .any) hB.1 ol 0 (Array.replicate ol.toArray.size false) a (by simp) (by simpa using hB.2) h
    simpa using this

theorem noOut_then {K : Act → World → Prop} {Q : Exit → Act → World → Prop} (h : ¬ LetsOut Q) : ¬ LetsOut (Exit.then K Q) := h
theorem noOut_block {id : Nat} {Q : Exit → Act → World → Prop} (h : ¬ LetsOut Q) : ¬ LetsOut (Exit.inBlock id Q) := h
theorem noOut_round {JN : World → Prop} {JX : Code → World → Prop} : ¬ LetsOut (roundEnd JN JX) := fun ⟨_, _, h⟩ => h
end Go.Proofs.Ytdoahpblphlabaa
