/-
  Regions that draw their order, where several operations that turn memory may come up at one time: the walk goes through the orders of those alone. No program in sight.
-/
import Derived.Test.YtdoahpblphlabaaMix
namespace Go.Proofs.Ytdoahpblphlabaa
set_option linter.unusedSimpArgs false
set_option linter.unusedVariables false
open Go.RowKit

def setRange (listed : Array Bool) (i : Nat) : Nat → Array Bool
  | 0 => listed
  | n + 1 => setRange (listed.setIfInBounds i true) (i + 1) n
def okReadsB (l : List Oper) : Nat → Nat → Array Bool → Bool
  | 0, _, _ => true
  | n + 1, i, listed => (Region.ready .any l.toArray listed).contains i && Region.free .any l.toArray listed i && ((l[i]?).map valOp).getD false && okReadsB l n (i + 1) (listed.setIfInBounds i true)
def closedB (l : List Oper) (listed : Array Bool) : Bool :=
  (List.range l.length).all fun j => !listed.getD j false || ((l[j]?).map fun o => o.after.all fun e => !Region.binds .any e || listed.getD e.on false).getD true

section
variable {P : Program} {l : List Oper} {S : World → Prop} {Q : Exit → Act → World → Prop}

theorem closed_of {listed : Array Bool} (h : closedB l listed = true) : Closed l listed := by
  intro j o ho hl e he hb
  unfold closedB at h
  rw [List.all_eq_true] at h
  have hlt : j < l.length := by
    have := (Array.getElem?_eq_some_iff.1 ho).1
    simpa using this
  have := h j (List.mem_range.2 hlt)
  have ho' : l[j]? = some o := by simpa using ho
  simp only [hl, Bool.not_true, Bool.false_or, ho', Option.map_some, Option.getD_some] at this
  have := (Array.all_eq_true'.1 this) e he
  simpa [hb] using this

theorem okReads_of : ∀ (n i : Nat) (listed : Array Bool), okReadsB l n i listed = true → okReads l n i listed = some (setRange listed i n) := by
  intro n
  induction n with
  | zero => intro i listed _; rfl
  | succ n ih =>
    intro i listed h
    simp only [okReadsB, Bool.and_eq_true] at h
    obtain ⟨⟨⟨h1, h2⟩, h3⟩, h4⟩ := h
    simp only [okReads, setRange]
    rw [if_pos (by simp only [Bool.and_eq_true]; exact ⟨⟨h1, h2⟩, h3⟩)]
    exact ih _ _ h4

theorem z_start {id : Nat} {a : Act} {w : World} (S : World → Prop) (hm : P.follows .mixedOrders = true)
    (h : wpAnyZ P l (NoPanic Q) S l.length (Array.replicate l.length false) a w.drew) : (Code.region id l.toArray true).wp P Q a w := by
  refine wp_region_noPanic (wp_region_any hm ?_)
  have := wpAny_of_Z _ _ _ _ h
  simpa using this

theorem z_reads {fuel : Nat} {listed : Array Bool} {a : Act} {w : World} (i n : Nat) (hok : (okReadsB l n i listed && closedB l listed && Region.noSelect l.toArray) = true) (hS : S w)
    (h : wpQuiet P l.toArray S (fun a' => wpAnyZ P l (NoPanic Q) S fuel (setRange listed i n) a' w) ((l.drop i).take n) a) : wpAnyZ P l (NoPanic Q) S (fuel + n) listed a w := by
  simp only [Bool.and_eq_true] at hok
  exact reads_first hok.2 (fun _ _ _ hp => hp) fuel w hS _ n i listed _ a (closed_of hok.1.2) (okReads_of n i listed hok.1.1) (fun _ a' ha' => ha') h

theorem z_one {fuel : Nat} {listed : Array Bool} {a : Act} {w : World} (e : Nat) (hr : (Region.ready .any l.toArray listed == [e]) = true)
    (h : wpOp P l.toArray (NoPanic Q) e (fun a' w' => (aloneB l e = true ∨ S w') ∧ wpAnyZ P l (NoPanic Q) S fuel (listed.setIfInBounds e true) a' w') a w) : wpAnyZ P l (NoPanic Q) S (fuel + 1) listed a w := by
  have hr := eq_of_beq hr
  refine ⟨fun h0 => ?_, fun i hi => ?_⟩
  · rw [hr] at h0; cases h0
  · rw [hr, List.mem_singleton] at hi
    subst hi
    exact h
theorem z_two {fuel : Nat} {listed : Array Bool} {a : Act} {w : World} (e e' : Nat) (hr : (Region.ready .any l.toArray listed == [e, e']) = true)
    (h : wpOp P l.toArray (NoPanic Q) e (fun a' w' => (aloneB l e = true ∨ S w') ∧ wpAnyZ P l (NoPanic Q) S fuel (listed.setIfInBounds e true) a' w') a w)
    (h' : wpOp P l.toArray (NoPanic Q) e' (fun a' w' => (aloneB l e' = true ∨ S w') ∧ wpAnyZ P l (NoPanic Q) S fuel (listed.setIfInBounds e' true) a' w') a w) : wpAnyZ P l (NoPanic Q) S (fuel + 1) listed a w := by
  have hr := eq_of_beq hr
  refine ⟨fun h0 => ?_, fun i hi => ?_⟩
  · rw [hr] at h0; cases h0
  · rw [hr] at hi
    rcases List.mem_cons.1 hi with rfl | hi
    · exact h
    · rw [List.mem_singleton] at hi
      subst hi
      exact h'
theorem z_done {listed : Array Bool} {a : Act} {w : World} (hr : (Region.ready .any l.toArray listed == []) = true) (h : Q .normal a w) : wpAnyZ P l (NoPanic Q) S 0 listed a w := ⟨eq_of_beq hr, h⟩
end
end Go.Proofs.Ytdoahpblphlabaa
