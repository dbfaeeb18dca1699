/-
  Regions that draw their order, where several operations that turn memory may come up at one time: the walk goes through the orders of those alone. No program in sight.
-/
import Derived.Test.YtblhmdhfhaencaaMix
import Derived.Test.YtblhmdhfhaencaaSameG
import Derived.Test.YtblhmdhfhaencaaBW
import Derived.Test.YtblhmdhfhaencaaSortP
import Derived.Deep.LoopGhost
import Derived.BigRegion
namespace Go.Proofs.Ytblhmdhfhaencaa
set_option linter.unusedSimpArgs false
set_option linter.unusedVariables false
set_option linter.unusedSectionVars false
section
open Go.RowKit

def setRange (listed : Array Bool) (i : Nat) : Nat → Array Bool
  | 0 => listed
  | n + 1 => setRange (listed.setIfInBounds i true) (i + 1) n
def okReadsB (l : List Oper) : Nat → Nat → Array Bool → Bool
  | 0, _, _ => true
  | n + 1, i, listed => (Region.ready .any l.toArray listed).contains i && Region.free .any l.toArray listed i && ((l[i]?).map valOp).getD false && okReadsB l n (i + 1) (listed.setIfInBounds i true)
def closedB (l : List Oper) (listed : Array Bool) : Bool :=
  (List.range l.length).all fun j => !listed.getD j false || ((l[j]?).map fun o => o.after.all fun e => !Region.binds .any e || listed.getD e.on false).getD true

section
variable {P : Program} {l : List Oper} {S : World → Prop} {Q : Exit → Act → World → Prop}

theorem closed_of {listed : Array Bool} (h : closedB l listed = true) : Closed l listed := by
  intro j o ho hl e he hb
  unfold closedB at h
  rw [List.all_eq_true] at h
  have hlt : j < l.length := by
    have := (Array.getElem?_eq_some_iff.1 ho).1
    simpa using this
  have := h j (List.mem_range.2 hlt)
  have ho' : l[j]? = some o := by simpa using ho
  simp only [hl, Bool.not_true, Bool.false_or, ho', Option.map_some, Option.getD_some] at this
  have := (Array.all_eq_true'.1 this) e he
  simpa [hb] using this

theorem okReads_of : ∀ (n i : Nat) (listed : Array Bool), okReadsB l n i listed = true → okReads l n i listed = some (setRange listed i n) := by
  intro n
  induction n with
  | zero => intro i listed _; rfl
  | succ n ih =>
    intro i listed h
    simp only [okReadsB, Bool.and_eq_true] at h
    obtain ⟨⟨⟨h1, h2⟩, h3⟩, h4⟩ := h
    simp only [okReads, setRange]
    rw [if_pos (by simp only [Bool.and_eq_true]; exact ⟨⟨h1, h2⟩, h3⟩)]
    exact ih _ _ h4

theorem z_start {id : Nat} {a : Act} {w : World} (S : World → Prop) (hm : P.follows .mixedOrders = true)
    (h : wpAnyZ P l (NoPanic Q) S l.length (Array.replicate l.length false) a w.drew) : (Code.region id l.toArray true).wp P Q a w := by
  refine wp_region_noPanic (wp_region_any hm ?_)
  have := wpAny_of_Z _ _ _ _ h
  simpa using this

theorem z_reads {fuel : Nat} {listed : Array Bool} {a : Act} {w : World} (i n : Nat) (hok : (okReadsB l n i listed && closedB l listed && Region.noSelect l.toArray) = true) (hS : S w)
    (h : wpQuiet P l.toArray S (fun a' => wpAnyZ P l (NoPanic Q) S fuel (setRange listed i n) a' w) ((l.drop i).take n) a) : wpAnyZ P l (NoPanic Q) S (fuel + n) listed a w := by
  simp only [Bool.and_eq_true] at hok
  exact reads_first hok.2 (fun _ _ _ hp => hp) fuel w hS _ n i listed _ a (closed_of hok.1.2) (okReads_of n i listed hok.1.1) (fun _ a' ha' => ha') h

theorem z_one {fuel : Nat} {listed : Array Bool} {a : Act} {w : World} (e : Nat) (hr : (Region.ready .any l.toArray listed == [e]) = true)
    (h : wpOp P l.toArray (NoPanic Q) e (fun a' w' => (aloneB l e = true ∨ S w') ∧ wpAnyZ P l (NoPanic Q) S fuel (listed.setIfInBounds e true) a' w') a w) : wpAnyZ P l (NoPanic Q) S (fuel + 1) listed a w := by
  have hr := eq_of_beq hr
  refine ⟨fun h0 => ?_, fun i hi => ?_⟩
  · rw [hr] at h0; cases h0
  · rw [hr, List.mem_singleton] at hi
    subst hi
    exact h
theorem z_two {fuel : Nat} {listed : Array Bool} {a : Act} {w : World} (e e' : Nat) (hr : (Region.ready .any l.toArray listed == [e, e']) = true)
    (h : wpOp P l.toArray (NoPanic Q) e (fun a' w' => (aloneB l e = true ∨ S w') ∧ wpAnyZ P l (NoPanic Q) S fuel (listed.setIfInBounds e true) a' w') a w)
    (h' : wpOp P l.toArray (NoPanic Q) e' (fun a' w' => (aloneB l e' = true ∨ S w') ∧ wpAnyZ P l (NoPanic Q) S fuel (listed.setIfInBounds e' true) a' w') a w) : wpAnyZ P l (NoPanic Q) S (fuel + 1) listed a w := by
  have hr := eq_of_beq hr
  refine ⟨fun h0 => ?_, fun i hi => ?_⟩
  · rw [hr] at h0; cases h0
  · rw [hr] at hi
    rcases List.mem_cons.1 hi with rfl | hi
    · exact h
    · rw [List.mem_singleton] at hi
      subst hi
      exact h'
theorem z_done {listed : Array Bool} {a : Act} {w : World} (hr : (Region.ready .any l.toArray listed == []) = true) (h : Q .normal a w) : wpAnyZ P l (NoPanic Q) S 0 listed a w := ⟨eq_of_beq hr, h⟩
end
end

section
open Go.RowKit

/-- a frame in which the slots of a region's operations hold ν -/
def frameGo : Act → List (Option Nat) → Nat → (Nat → Value) → Act
  | a, [], _, _ => a
  | a, none :: ds, k, ν => frameGo a ds (k + 1) ν
  | a, some d :: ds, k, ν => frameGo { tmps := a.tmps.setIfInBounds d (ν k), defers := a.defers } ds (k + 1) ν
def frameOf (a : Act) (ds : List (Option Nat)) (ν : Nat → Value) : Act := frameGo a ds 0 ν
def updN {α : Type} (ν : Nat → α) (i : Nat) (v : α) : Nat → α := fun j => if j = i then v else ν j
theorem put_some (a : Act) (d : Nat) (v : Value) : a.put (some d) v = { tmps := a.tmps.setIfInBounds d v, defers := a.defers } := rfl
theorem put_none (a : Act) (v : Value) : a.put none v = a := rfl
theorem frameGo_congr : ∀ (ds : List (Option Nat)) (a : Act) (k : Nat) (ν ν' : Nat → Value), (∀ j, k ≤ j → ν j = ν' j) → frameGo a ds k ν = frameGo a ds k ν'
  | [], _, _, _, _, _ => rfl
  | none :: ds, a, k, ν, ν', h => frameGo_congr ds a (k + 1) ν ν' (fun j hj => h j (by omega))
  | some d :: ds, a, k, ν, ν', h => by
    simp only [frameGo]
    rw [h k (Nat.le_refl _)]
    exact frameGo_congr ds _ (k + 1) ν ν' (fun j hj => h j (by omega))
theorem frameGo_put : ∀ (ds : List (Option Nat)) (a : Act) (k : Nat) (ν : Nat → Value) (d : Nat) (v : Value), some d ∉ ds → (frameGo a ds k ν).put (some d) v = frameGo (a.put (some d) v) ds k ν
  | [], _, _, _, _, _, _ => rfl
  | none :: ds, a, k, ν, d, v, h => frameGo_put ds a (k + 1) ν d v (fun hm => h (by simp [hm]))
  | some d' :: ds, a, k, ν, d, v, h => by
    have hne : d' ≠ d := fun e => h (by simp [e])
    simp only [frameGo]
    rw [frameGo_put ds _ (k + 1) ν d v (fun hm => h (by simp [hm]))]
    congr 1
    simp only [put_some]
    rw [Array.setIfInBounds_comm _ _ hne]
theorem frameGo_upd : ∀ (ds : List (Option Nat)) (a : Act) (k : Nat) (ν : Nat → Value) (i d : Nat) (v : Value), (ds.filterMap id).Nodup → ds[i]? = some (some d) → (frameGo a ds k ν).put (some d) v = frameGo a ds k (updN ν (k + i) v)
  | [], _, _, _, i, _, _, _, h => by simp at h
  | none :: ds, a, k, ν, i, d, v, hn, h => by
    cases i with
    | zero => simp at h
    | succ i =>
      simp only [List.filterMap_cons_none, id_eq] at hn
      have := frameGo_upd ds a (k + 1) ν i d v hn (by simpa using h)
      simp only [frameGo]
      rw [this, show k + 1 + i = k + (i + 1) by omega]
  | some d' :: ds, a, k, ν, i, d, v, hn, h => by
    simp only [List.filterMap_cons, id_eq, List.nodup_cons] at hn
    have hmem : ∀ x, some x ∈ ds → x ∈ ds.filterMap id := fun x hx => List.mem_filterMap.2 ⟨some x, hx, rfl⟩
    cases i with
    | zero =>
      simp only [List.getElem?_cons_zero, Option.some.injEq] at h
      subst h
      simp only [frameGo]
      rw [frameGo_put ds _ (k + 1) ν d' v (fun hm => hn.1 (hmem _ hm))]
      simp only [put_some, Array.setIfInBounds_setIfInBounds]
      have e : updN ν (k + 0) v k = v := by simp [updN]
      rw [e]
      exact frameGo_congr ds _ (k + 1) ν _ (fun j hj => by simp only [updN]; rw [if_neg (by omega)])
    | succ i =>
      simp only [frameGo]
      rw [frameGo_upd ds _ (k + 1) ν i d v hn.2 (by simpa using h), show k + 1 + i = k + (i + 1) by omega]
      have e : updN ν (k + (i + 1)) v k = ν k := by simp only [updN]; rw [if_neg (by omega)]
      rw [e]
theorem frame_put (a : Act) (ds : List (Option Nat)) (ν : Nat → Value) (i : Nat) (v : Value) (hn : (ds.filterMap id).Nodup) (hi : i < ds.length) : (frameOf a ds ν).put (ds.getD i none) v = frameOf a ds (updN ν i v) := by
  have hg : ds[i]? = some (ds.getD i none) := by rw [List.getD_eq_getElem?_getD, List.getElem?_eq_getElem hi]; rfl
  cases hd : ds.getD i none with
  | some d =>
    rw [hd] at hg
    have := frameGo_upd ds a 0 ν i d v hn hg
    rw [Nat.zero_add] at this
    exact this
  | none =>
    rw [hd] at hg
    show frameOf a ds ν = _
    unfold frameOf
    have key : ∀ (ds : List (Option Nat)) (a : Act) (k i : Nat), ds[i]? = some none → frameGo a ds k ν = frameGo a ds k (updN ν (k + i) v) := by
      intro ds
      induction ds with
      | nil => intro a k i h; simp at h
      | cons x ds ih =>
        intro a k i h
        cases i with
        | zero =>
          simp only [List.getElem?_cons_zero, Option.some.injEq] at h
          subst h
          simp only [frameGo]
          exact frameGo_congr ds a (k + 1) ν _ (fun j hj => by simp only [updN]; rw [if_neg (by omega)])
        | succ i =>
          have h' : ds[i]? = some none := by simpa using h
          have e2 : k + 1 + i = k + (i + 1) := by omega
          cases x with
          | none => simp only [frameGo]; rw [ih a (k + 1) i h', e2]
          | some d' =>
            simp only [frameGo]
            have e : updN ν (k + (i + 1)) v k = ν k := by simp only [updN]; rw [if_neg (by omega)]
            rw [ih _ (k + 1) i h', e2, e]
    have := key ds a 0 i hg
    rwa [Nat.zero_add] at this
/-- the values that the slots hold at first -/
def frame0 (a : Act) (ds : List (Option Nat)) : Nat → Value := fun k => match ds.getD k none with
  | some d => a.tmps.getD d undef
  | none => undef
theorem set_self (t : Array Value) (d : Nat) : t.setIfInBounds d (t.getD d undef) = t := by
  apply Array.ext_getElem?
  intro k
  rw [Array.getElem?_setIfInBounds]
  by_cases e : d = k
  · subst e
    rw [if_pos rfl]
    by_cases h : d < t.size
    · simp [h, Array.getD_eq_getD_getElem?]
    · rw [if_neg h, Array.getElem?_eq_none (by omega)]
  · rw [if_neg e]
theorem frame_start (a : Act) (ds : List (Option Nat)) : frameOf a ds (frame0 a ds) = a := by
  have key : ∀ (ds : List (Option Nat)) (k : Nat) (ν : Nat → Value), (∀ j d, ds[j]? = some (some d) → ν (k + j) = a.tmps.getD d undef) → frameGo a ds k ν = a := by
    intro ds
    induction ds with
    | nil => intro k ν _; rfl
    | cons x ds ih =>
      intro k ν h
      have h' : ∀ j d, ds[j]? = some (some d) → ν (k + 1 + j) = a.tmps.getD d undef := fun j d hj => by
        have := h (j + 1) d (by simpa using hj)
        rwa [show k + (j + 1) = k + 1 + j by omega] at this
      cases x with
      | none => exact ih (k + 1) ν h'
      | some d =>
        have h0 := h 0 d (by simp)
        rw [Nat.add_zero] at h0
        simp only [frameGo]
        rw [h0, set_self]
        exact ih (k + 1) ν h'
  refine key ds 0 _ (fun j d hj => ?_)
  rw [Nat.zero_add]
  unfold frame0
  have : ds.getD j none = some d := by rw [List.getD_eq_getElem?_getD, hj]; rfl
  rw [this]

theorem getD_set_at (L : Array Bool) (i : Nat) (h : i < L.size) : (L.setIfInBounds i true).getD i false = true := by
  rw [Array.getD_eq_getD_getElem?, Array.getElem?_setIfInBounds_self_of_lt h]
  rfl
theorem filt_one (p p' : Nat → Bool) (i : Nat) (hp : p i = true) (he : ∀ j, p' j = (j != i && p j)) : ∀ (L : List Nat), L.Nodup → i ∈ L → (L.filter p').length + 1 = (L.filter p).length := by
  intro L
  induction L with
  | nil => intro _ h; cases h
  | cons x L ih =>
    intro hn hm
    rw [List.nodup_cons] at hn
    by_cases e : x = i
    · subst e
      have h1 : L.filter p' = L.filter p := List.filter_congr fun j hj => by
        rw [he]
        have : j ≠ x := fun e => hn.1 (e ▸ hj)
        simp [this]
      have h2 : p' x = false := by rw [he]; simp
      simp [List.filter_cons, hp, h2, h1]
    · have h2 : p' x = p x := by rw [he]; simp [e]
      have := ih hn.2 ((List.mem_cons.1 hm).resolve_left (fun h => e h.symm))
      simp only [List.filter_cons, h2]
      split <;> simp_all
theorem filt_ge (m : Nat) : ∀ n, ((List.range n).filter fun j => !decide (j < m)).length = n - m := by
  intro n
  induction n with
  | zero => simp
  | succ n ih =>
    rw [List.range_succ, List.filter_append, List.length_append, ih]
    by_cases h : n < m
    · simp [h]; omega
    · simp [h]; omega
/-- does one operation wait for another one at once? -/
def depB (l : List Oper) (i j : Nat) : Bool := ((l[i]?).map fun o => o.after.any fun e => Region.binds .any e && e.on == j).getD false
/-- the first m are free, each waits for such as stand ahead of it; the others come behind all that stand ahead of them -/
def freeOK (l : List Oper) (m : Nat) (ds : List (Option Nat)) : Bool :=
  decide (ds.length = m ∧ m ≤ l.length ∧ (ds.filterMap id).Nodup) && ((List.range m).all fun i => ((l[i]?).map fun o => o.dst == ds.getD i none && o.after.all fun e => !Region.binds .any e || decide (e.on < i)).getD false) &&
    ((List.range l.length).all fun j => (decide (j < m) || (List.range j).all fun i => reach l j i) && ((l[j]?).map fun o => o.after.all fun e => !Region.binds .any e || decide (e.on < j)).getD false)
/-- what is known of one operation's yield -/
inductive SpecK where
  | val (c : Value)
  | new (o : Obj)
  | any (p : Value → Nat → Nat → World → Prop)
abbrev Spec := Nat → Value → Nat → Nat → World → Prop
def specK : SpecK → Value → Nat → Nat → World → Prop
  | .val c, v, _, _, _ => v = c
  | .new o, v, lo, hi, w => v = .pointer (some ⟨lo, 0, none⟩) ∧ lo < hi ∧ w.heap[lo]? = some o
  | .any p, v, lo, hi, w => p v lo hi w
def specB (ks : List SpecK) : Spec := fun i v lo hi w => specK (ks.getD i (.any fun _ _ _ _ => True)) v lo hi w
def monoK : SpecK → Prop
  | .any p => ∀ v lo hi w w', Below w.heap.size w w' → p v lo hi w → p v lo hi w'
  | _ => True
theorem specB_mono {ks : List SpecK} (h : ∀ k ∈ ks, monoK k) : ∀ i v lo hi w w', Below w.heap.size w w' → specB ks i v lo hi w → specB ks i v lo hi w' := by
  intro i v lo hi w w' hb hs
  unfold specB at *
  have hk : monoK (ks.getD i (.any fun _ _ _ _ => True)) := by
    rw [List.getD_eq_getElem?_getD]
    cases e : ks[i]? with
    | none => exact fun _ _ _ _ _ _ h => h
    | some k => exact h k (List.mem_of_getElem? e)
  generalize ks.getD i (.any fun _ _ _ _ => True) = k at *
  cases k with
  | val c => exact hs
  | new o => exact ⟨hs.1, hs.2.1, block_ext hb hs.2.2⟩
  | any p => exact hk v lo hi w w' hb hs
section
variable {P : Program} {l : List Oper} {Q : Exit → Act → World → Prop}
theorem free_tail (m : Nat) (hok : ∀ j, m ≤ j → j < l.length → ∀ i, i < j → reach l j i = true) (hup : ∀ j o, l[j]? = some o → ∀ e ∈ o.after, Region.binds .any e = true → e.on < j) :
    ∀ (k j : Nat) (listed : Array Bool) (a : Act) (w : World), l.length - j = k → m ≤ j → j ≤ l.length → listed.size = l.length → (∀ i, i < l.length → listed.getD i false = decide (i < j)) → Closed l listed → wpList P l.toArray Q (l.drop j) a w → wpAny P .any l.toArray Q k listed a w := by
  intro k
  induction k with
  | zero =>
    intro j listed a w hk hm hj hs hL hc h
    have hr : Region.ready .any l.toArray listed = [] := by
      cases hr : Region.ready .any l.toArray listed with
      | nil => rfl
      | cons i r =>
        have hi : i ∈ Region.ready .any l.toArray listed := by rw [hr]; simp
        obtain ⟨h1, o, ho, _⟩ := mem_ready.1 hi
        have hlt : i < l.length := by have := (Array.getElem?_eq_some_iff.1 ho).1; simpa using this
        have h2 := hL i hlt
        have e : listed.getD i true = listed.getD i false := by simp [hs, hlt]
        rw [e, h2] at h1
        simp at h1
        omega
    rw [List.drop_of_length_le (by omega)] at h
    exact ⟨hr, h⟩
  | succ k ih =>
    intro j listed a w hk hm hj hs hL hc h
    have hjl : j < l.length := by omega
    have hj0 : l[j]? = some l[j] := List.getElem?_eq_getElem hjl
    have only : ∀ i ∈ Region.ready .any l.toArray listed, i = j := fun i hi => by
      obtain ⟨h1, o, ho, _⟩ := mem_ready.1 hi
      have hlt : i < l.length := by have := (Array.getElem?_eq_some_iff.1 ho).1; simpa using this
      have h2 := hL i hlt
      have e : listed.getD i true = listed.getD i false := by simp [hs, hlt]
      rw [e, h2] at h1
      simp at h1
      by_cases hij : i = j
      · exact hij
      · obtain ⟨n, hn⟩ := reach_sound (hok i (by omega) hlt j (by omega))
        have h3 := waits_ready hc hi hn
        rw [hL j hjl] at h3
        simp at h3
    have hrj : j ∈ Region.ready .any l.toArray listed := by
      refine mem_ready.2 ⟨?_, l[j], by simp [hjl], fun e he hb => ?_⟩
      · have e : listed.getD j true = listed.getD j false := by simp [hs, hjl]
        rw [e, hL j hjl]
        simp
      · have hon := hup j l[j] hj0 e he hb
        rw [hL e.on (by omega)]
        simpa using hon
    refine ⟨fun h0 => absurd hrj (by rw [h0]; simp), fun i hi => ?_⟩
    obtain rfl := only i hi
    rw [List.drop_eq_getElem_cons hjl] at h
    have hget : l.toArray[i]? = some l[i] := by simp [hjl]
    unfold wpOp
    simp only [hget]
    have hnext : ∀ a' w', wpList P l.toArray Q (l.drop (i + 1)) a' w' → wpAny P .any l.toArray Q k (listed.setIfInBounds i true) a' w' := fun a' w' h' => by
      refine ih (i + 1) _ a' w' (by omega) (by omega) (by omega) (by simpa using hs) (fun q hq => ?_) (hc.set hrj) h'
      by_cases e : i = q
      · subst e
        rw [getD_set_at _ _ (by rw [hs]; exact hjl)]
        simp
      · rw [getD_set_ne false e, hL q hq]
        rw [decide_eq_decide]
        omega
    rw [wpList] at h
    split
    · rename_i hw
      rw [if_pos hw] at h
      exact h.imp (fun h => Oper.wp_mono hnext h) id
    · rename_i hw
      rw [if_neg hw] at h
      exact hnext _ _ h
theorem free_any {P : Program} {l : List Oper} {Q : Exit → Act → World → Prop} (m : Nat) (ds : List (Option Nat)) (hok : freeOK l m ds = true) (S : Spec) (a0 : Act) (w0 : World)
    (hmono : ∀ i v lo hi w w', Below w.heap.size w w' → S i v lo hi w → S i v lo hi w')
    (hops : ∀ i, i < m → ∀ (ν : Nat → Value) (lo hi : Nat → Nat) (w : World) (K : Act → World → Prop), Below w0.heap.size w0 w → (∀ j, depB l i j = true → S j (ν j) (lo j) (hi j) w) →
      (∀ v w', Below w.heap.size w w' → S i v w.heap.size w'.heap.size w' → K ((frameOf a0 ds ν).put (ds.getD i none) v) w') → wpOp P l.toArray Q i K (frameOf a0 ds ν) w)
    (hend : ∀ (ν : Nat → Value) (lo hi : Nat → Nat) (w : World), Below w0.heap.size w0 w → (∀ i, i < m → S i (ν i) (lo i) (hi i) w) → (∀ i, i < m → w0.heap.size ≤ lo i ∧ lo i ≤ hi i ∧ hi i ≤ w.heap.size) →
      (∀ i j, i < m → j < m → i ≠ j → hi i ≤ lo j ∨ hi j ≤ lo i) → wpList P l.toArray Q (l.drop m) (frameOf a0 ds ν) w) :
    wpAny P .any l.toArray Q l.length (Array.replicate l.length false) a0 w0 := by
  simp only [freeOK, Bool.and_eq_true, decide_eq_true_eq, List.all_eq_true, List.mem_range] at hok
  obtain ⟨⟨⟨hds, hml, hnd⟩, h1⟩, h2⟩ := hok
  have hup : ∀ j o, l[j]? = some o → ∀ e ∈ o.after, Region.binds .any e = true → e.on < j := fun j o hj e he hb => by
    have hlt : j < l.length := (List.getElem?_eq_some_iff.1 hj).1
    have := (h2 j hlt).2
    rw [hj] at this
    simp only [Option.map_some, Option.getD_some] at this
    have := (Array.all_eq_true'.1 this) e he
    simpa [hb] using this
  have htail : ∀ j, m ≤ j → j < l.length → ∀ i, i < j → reach l j i = true := fun j hj hlt i hi => by
    have := (h2 j hlt).1
    simp only [Bool.or_eq_true, decide_eq_true_eq, List.all_eq_true, List.mem_range] at this
    exact (this.resolve_left (by omega)) i hi
  have key : ∀ (fuel : Nat) (listed : Array Bool) (ν : Nat → Value) (lo hi : Nat → Nat) (w : World), ((List.range l.length).filter fun j => !listed.getD j true).length = fuel → listed.size = l.length → Closed l listed →
      (∀ j, m ≤ j → listed.getD j false = false) → Below w0.heap.size w0 w → (∀ i, i < m → listed.getD i false = true → S i (ν i) (lo i) (hi i) w ∧ w0.heap.size ≤ lo i ∧ lo i ≤ hi i ∧ hi i ≤ w.heap.size) →
      (∀ i j, i < m → j < m → i ≠ j → listed.getD i false = true → listed.getD j false = true → hi i ≤ lo j ∨ hi j ≤ lo i) → wpAny P .any l.toArray Q fuel listed (frameOf a0 ds ν) w := by
    intro fuel
    induction fuel with
    | zero =>
      intro listed ν lo hi w hf hs hc htl hB hS hD
      by_cases hall : ∀ i, i < m → listed.getD i false = true
      · have hL : ∀ i, i < l.length → listed.getD i false = decide (i < m) := fun i _ => by
          by_cases h : i < m
          · rw [hall i h]; simp [h]
          · rw [htl i (by omega)]; simp [h]
        have hcnt : l.length - m = 0 := by
          rw [← hf, ← filt_ge m l.length]
          congr 1
          refine List.filter_congr fun j hj => ?_
          have hj := List.mem_range.1 hj
          have e : listed.getD j true = listed.getD j false := by simp [hs, hj]
          rw [e, hL j hj]
        exact free_tail m htail hup 0 m listed _ w hcnt (Nat.le_refl _) hml hs hL hc (hend ν lo hi w hB (fun i h => (hS i h (hall i h)).1) (fun i h => (hS i h (hall i h)).2) (fun i j h h' hne => hD i j h h' hne (hall i h) (hall j h')))
      · exfalso
        have ⟨i, hi⟩ := Classical.not_forall.1 hall
        have ⟨him, hin⟩ := Classical.not_imp.1 hi
        have hlt : i < l.length := by omega
        have hmem : i ∈ (List.range l.length).filter fun j => !listed.getD j true := by
          rw [List.mem_filter, List.mem_range]
          refine ⟨hlt, ?_⟩
          have e : listed.getD i true = listed.getD i false := by simp [hs, hlt]
          rw [e]
          simpa using hin
        rw [List.eq_nil_of_length_eq_zero hf] at hmem
        cases hmem
    | succ fuel ih =>
      intro listed ν lo hi w hf hs hc htl hB hS hD
      by_cases hall : ∀ i, i < m → listed.getD i false = true
      · have hL : ∀ i, i < l.length → listed.getD i false = decide (i < m) := fun i _ => by
          by_cases h : i < m
          · rw [hall i h]; simp [h]
          · rw [htl i (by omega)]; simp [h]
        have hcnt : l.length - m = fuel + 1 := by
          rw [← hf, ← filt_ge m l.length]
          congr 1
          refine List.filter_congr fun j hj => ?_
          have hj := List.mem_range.1 hj
          have e : listed.getD j true = listed.getD j false := by simp [hs, hj]
          rw [e, hL j hj]
        exact free_tail m htail hup (fuel + 1) m listed _ w hcnt (Nat.le_refl _) hml hs hL hc (hend ν lo hi w hB (fun i h => (hS i h (hall i h)).1) (fun i h => (hS i h (hall i h)).2) (fun i j h h' hne => hD i j h h' hne (hall i h) (hall j h')))
      · -- the least that is to come
        have hex : ∀ k, (∃ i, i < m ∧ i ≤ k ∧ listed.getD i false = false) → ∃ i, i < m ∧ listed.getD i false = false ∧ ∀ j, j < i → listed.getD j false = true := by
          intro k
          induction k with
          | zero =>
            rintro ⟨i, h1, h2, h3⟩
            exact ⟨i, h1, h3, fun j hj => by omega⟩
          | succ k ihk =>
            rintro ⟨i, h1, h2, h3⟩
            by_cases h : ∃ i, i < m ∧ i ≤ k ∧ listed.getD i false = false
            · exact ihk h
            · refine ⟨i, h1, h3, fun j hj => ?_⟩
              cases e : listed.getD j false with
              | true => rfl
              | false => exact absurd ⟨j, by omega, by omega, e⟩ h
        have ⟨i1, hi1⟩ := Classical.not_forall.1 hall
        have ⟨him1, hin1⟩ := Classical.not_imp.1 hi1
        obtain ⟨i0, h0m, h0f, h0all⟩ := hex i1 ⟨i1, him1, Nat.le_refl _, by simpa using hin1⟩
        have h0l : i0 < l.length := by omega
        have hr0 : i0 ∈ Region.ready .any l.toArray listed := by
          refine mem_ready.2 ⟨?_, l[i0], by simp [h0l], fun e he hb => h0all e.on (hup i0 l[i0] (List.getElem?_eq_getElem h0l) e he hb)⟩
          have e : listed.getD i0 true = listed.getD i0 false := by simp [hs, h0l]
          rw [e, h0f]
        refine ⟨fun h => absurd hr0 (by rw [h]; simp), fun i hir => ?_⟩
        obtain ⟨hi1', o, ho, hdep⟩ := mem_ready.1 hir
        have hil : i < l.length := by have := (Array.getElem?_eq_some_iff.1 ho).1; simpa using this
        have hif : listed.getD i false = false := by
          have e : listed.getD i true = listed.getD i false := by simp [hs, hil]
          rw [← e]; exact hi1'
        have him : i < m := by
          apply Classical.byContradiction
          intro hge
          obtain ⟨n, hn⟩ := reach_sound (htail i (by omega) hil i0 (by omega))
          have h9 := waits_ready hc hir hn
          rw [h0f] at h9
          cases h9
        refine hops i him ν lo hi w _ hB (fun j hj => ?_) (fun v w' hb hsp => ?_)
        · have ho' : l[i]? = some o := by simpa using ho
          simp only [depB, ho', Option.map_some, Option.getD_some] at hj
          obtain ⟨e, he, hbe⟩ := Array.any_eq_true'.1 hj
          simp only [Bool.and_eq_true, beq_iff_eq] at hbe
          have hlj : listed.getD j false = true := hbe.2 ▸ hdep e he hbe.1
          have hji : j < i := hbe.2 ▸ hup i o ho' e he hbe.1
          exact (hS j (by omega) hlj).1
        · rw [frame_put a0 ds ν i v hnd (by omega)]
          have hsz := hb.size
          refine ih (listed.setIfInBounds i true) (updN ν i v) (updN lo i w.heap.size) (updN hi i w'.heap.size) w' ?_ (by simpa using hs) (hc.set hir) (fun j hj => ?_) (hB.trans (hb.mono hB.size)) (fun j hj hlj => ?_) (fun j k hj hk hne hlj hlk => ?_)
          · have := filt_one (fun j => !listed.getD j true) (fun j => !(listed.setIfInBounds i true).getD j true) i (by simp [hi1']) (fun j => by
              by_cases e : i = j
              · subst e
                have : (listed.setIfInBounds i true).getD i true = true := by
                  have h1 := getD_set_at listed i (by rw [hs]; exact hil)
                  rw [Array.getD_eq_getD_getElem?] at h1 ⊢
                  cases h2 : (listed.setIfInBounds i true)[i]? with
                  | none => rfl
                  | some b => rw [h2] at h1; exact h1
                simp [this]
              · have e' : (j != i) = true := by simpa using fun h => e h.symm
                rw [getD_set_ne true e, e', Bool.true_and]) (List.range l.length) List.nodup_range (List.mem_range.2 hil)
            omega
          · rw [getD_set_ne false (by omega)]
            exact htl j hj
          · by_cases e : i = j
            · subst e
              simp only [updN, if_pos rfl]
              exact ⟨hsp, hB.size, hsz, Nat.le_refl _⟩
            · have e' : ¬ j = i := fun h => e h.symm
              rw [getD_set_ne false e] at hlj
              simp only [updN, if_neg e']
              obtain ⟨s1, s2, s3, s4⟩ := hS j hj hlj
              exact ⟨hmono j _ _ _ w w' hb s1, s2, s3, by omega⟩
          · by_cases ej : i = j
            · subst ej
              have e' : ¬ k = i := fun h => hne h.symm
              rw [getD_set_ne false hne] at hlk
              obtain ⟨_, s2, s3, s4⟩ := hS k hk hlk
              simp only [updN, if_pos rfl, if_neg e']
              exact .inr s4
            · have ej' : ¬ j = i := fun h => ej h.symm
              rw [getD_set_ne false ej] at hlj
              obtain ⟨_, s2, s3, s4⟩ := hS j hj hlj
              by_cases ek : i = k
              · subst ek
                simp only [updN, if_pos rfl, if_neg ej']
                exact .inl s4
              · have ek' : ¬ k = i := fun h => ek h.symm
                rw [getD_set_ne false ek] at hlk
                simp only [updN, if_neg ej', if_neg ek']
                exact hD j k hj hk hne hlj hlk
  have h3 := key l.length (Array.replicate l.length false) (frame0 a0 ds) (fun _ => 0) (fun _ => 0) w0 (by
    have : (List.range l.length).filter (fun j => !(Array.replicate l.length false).getD j true) = List.range l.length := by
      rw [List.filter_eq_self]
      intro j hj
      have := List.mem_range.1 hj
      simp [this]
    rw [this]; simp) (by simp) (closed_none _) (fun j hj => by
    by_cases h : j < l.length <;> simp [h]) (Below.refl _ _) (fun i hi h => by
    by_cases h' : i < l.length
    · simp [h'] at h
    · omega) (fun i j hi hj _ h => by
    by_cases h' : i < l.length
    · simp [h'] at h
    · omega)
  rwa [frame_start] at h3
/-- in a function's own frame -/
theorem region_free {id : Nat} {a : Act} {w : World} (m : Nat) (ds : List (Option Nat)) (hm : P.follows .mixedOrders = true) (hok : freeOK l m ds = true) (S : Spec)
    (hmono : ∀ i v lo hi w w', Below w.heap.size w w' → S i v lo hi w → S i v lo hi w')
    (hops : ∀ i, i < m → ∀ (ν : Nat → Value) (lo hi : Nat → Nat) (w' : World) (K : Act → World → Prop), Below w.heap.size w w' → (∀ j, depB l i j = true → S j (ν j) (lo j) (hi j) w') →
      (∀ v w'', Below w'.heap.size w' w'' → S i v w'.heap.size w''.heap.size w'' → K ((frameOf a ds ν).put (ds.getD i none) v) w'') → wpOp P l.toArray Q i K (frameOf a ds ν) w')
    (hend : ∀ (ν : Nat → Value) (lo hi : Nat → Nat) (w' : World), Below w.heap.size w w' → (∀ i, i < m → S i (ν i) (lo i) (hi i) w') → (∀ i, i < m → w.heap.size ≤ lo i ∧ lo i ≤ hi i ∧ hi i ≤ w'.heap.size) →
      (∀ i j, i < m → j < m → i ≠ j → hi i ≤ lo j ∨ hi j ≤ lo i) → wpList P l.toArray Q (l.drop m) (frameOf a ds ν) w') :
    (Code.region id l.toArray true).wp P Q a w := by
  refine wp_region_any hm ?_
  have := free_any (P := P) (l := l) (Q := Q) m ds hok S a w.drew hmono (fun i hi ν lo hi' w' K hB => hops i hi ν lo hi' w' K (unDrew1 hB)) (fun ν lo hi w' hB => hend ν lo hi w' (unDrew1 hB))
  simpa using this
/-- in a round's frame -/
theorem round_free {id : Nat} {a : Act} {w : World} {lp : Nat} (m : Nat) (ds : List (Option Nat)) (hm : P.follows .mixedOrders = true) (hn : l.all notDefer = true) (hQ : ¬ LetsOut Q) (hok : freeOK l m ds = true) (S : Spec)
    (hmono : ∀ i v lo hi w w', Below w.heap.size w w' → S i v lo hi w → S i v lo hi w')
    (hops : ∀ i, i < m → ∀ (ν : Nat → Value) (lo hi : Nat → Nat) (w' : World) (K : Act → World → Prop), Below w.heap.size w w' → (∀ j, depB l i j = true → S j (ν j) (lo j) (hi j) w') →
      (∀ v w'', Below w'.heap.size w' w'' → S i v w'.heap.size w''.heap.size w'' → K ((frameOf a ds ν).put (ds.getD i none) v) w'') → wpOp P l.toArray Q i K (frameOf a ds ν) w')
    (hend : ∀ (ν : Nat → Value) (lo hi : Nat → Nat) (w' : World), Below w.heap.size w w' → (∀ i, i < m → S i (ν i) (lo i) (hi i) w') → (∀ i, i < m → w.heap.size ≤ lo i ∧ lo i ≤ hi i ∧ hi i ≤ w'.heap.size) →
      (∀ i j, i < m → j < m → i ≠ j → hi i ≤ lo j ∨ hi j ≤ lo i) → wpList P l.toArray Q (l.drop m) (frameOf a ds ν) w') :
    (Code.region id l.toArray true).wpIn (Fence.wide.inRound lp) 0 P Q a w := by
  refine wpIn_region_draw fun t => ?_
  refine wpOpsIn_of lp (fun i o ho => ?_) hQ _ _ _ ?_
  · rw [List.all_eq_true] at hn
    exact hn o (by
      have : l[i]? = some o := by simpa using ho
      exact List.mem_of_getElem? this)
  · simp only [Region.schedule, hm, Bool.true_or, if_true]
    refine wpAny_sound _ t _ a _ ?_
    have := free_any (P := P) (l := l) (Q := Q) m ds hok S a w.drew hmono (fun i hi ν lo hi' w' K hB => hops i hi ν lo hi' w' K (unDrew1 hB)) (fun ν lo hi w' hB => hend ν lo hi w' (unDrew1 hB))
    simpa using this
/-- an operation without a guard, its end under a name -/
theorem wpOp_atK {e : Nat} {o : Oper} {K : Act → World → Prop} {a : Act} {w : World} (ho : l[e]? = some o) (hg : o.guard = none) (h : o.wp P a w K Q) : wpOp P l.toArray Q e K a w := wpOp_at ho hg h
end
end

section
open Go.RowKit Go.Shelf

def partC (p : PartD) : List Value := (setA p.s).toList ++ [.int .i64 p.kind, .int .i64 p.entry]
theorem partC_len (p : PartD) : (partC p).length = 202 := by simp [partC, setA_size]
theorem partC_one (p : PartD) : ∀ v ∈ partC p, v.oneCell' = true := by
  intro v hv
  rcases List.mem_append.1 hv with h | h
  · have := setA_all p.s
    rw [Array.all_eq_true_iff_forall_mem] at this
    exact this v (by simpa using h)
  · simp only [List.mem_cons, List.not_mem_nil, or_false] at h
    rcases h with rfl | rfl <;> rfl
abbrev partV (p : PartD) : Value := .agg (partC p).toArray
theorem toArr_toList (l : List Value) : l.toArray.toList = l := rfl
theorem size_part : (Try.prog.info? 99).map (·.size) = some 202 := by kernel_rfl
theorem size_partC (p : PartD) : (Try.prog.info? 99).map (·.size) = some (partC p).length := by rw [partC_len]; exact size_part
theorem size_partA (p : PartD) : (Try.prog.info? 99).map (·.size) = some (partC p).toArray.size := by rw [List.size_toArray]; exact size_partC p
/-- parts in a slice of the call's own -/
def PartsIn (W : World) (base : Nat) (v : Value) (L : List PartD) : Prop := OwnR 99 202 partC W base v L
section
variable {W W' : World} {base g n c : Nat} {L : List PartD}
theorem PartsIn.len (h : PartsIn W base (.slice (some ⟨g, 0, none⟩) n c) L) : L.length = n := by
  obtain ⟨_, _, e⟩ := OwnR.form h
  injection e with _ e _
  exact e.symm
theorem PartsIn.ext {v : Value} (h : PartsIn W base v L) (hb : Below W.heap.size W W') : PartsIn W' base v L := OwnR.ext h hb
theorem PartsIn.drew {v : Value} (h : PartsIn W base v L) : PartsIn W.drew base v L := h.ext (ext_drewN (Below.refl _ _) 1)
theorem part_range (h : PartsIn W base (.slice (some ⟨g, 0, none⟩) n c) L) {k : Nat} (hk : k < n) : W.rangeAt g (k * 202) (partC (L.getD k zPart)) := OwnR.range partC_len h zPart (by rw [h.len]; exact hk)
theorem part_there (h : PartsIn W base (.slice (some ⟨g, 0, none⟩) n c) L) {k : Nat} (hk : k < n) (p : PartD) : W.there g (k * 202) (partC p).toArray.size := by
  rw [List.size_toArray, partC_len]
  exact OwnR.there partC_len h (by rw [h.len]; exact hk)
theorem part_set (h : PartsIn W base (.slice (some ⟨g, 0, none⟩) n c) L) {k : Nat} (hk : k < n) (p : PartD) : PartsIn (W.setCells g (k * 202) (partC p)) base (.slice (some ⟨g, 0, none⟩) n c) (L.set k p) := OwnR.setAt partC_len h (by rw [h.len]; exact hk) p
end
set_option maxRecDepth 100000 in
set_option maxHeartbeats 2000000 in
theorem swapRange_any (g n c a b m base : Nat) (fv : Value) (L : List PartD) (w : World) (h : PartsIn w base (.slice (some ⟨g, 0, none⟩) n c) L) (hn : n ≤ 1000000) (hab : a + m ≤ b) (hbm : b + m ≤ n) :
    Calls Try.prog 124 #[.slice (some ⟨g, 0, none⟩) n c, .int .i64 (a : Int), .int .i64 (b : Int), .int .i64 (m : Int), fv] w fun e w' => e = .returned (.tuple #[]) ∧
      ∃ L', PartsIn w' base (.slice (some ⟨g, 0, none⟩) n c) L' ∧ Sh zPart L L' a (b + m) ∧ (∀ k, L'.getD k zPart = swapR (fun k => L.getD k zPart) a b m k) ∧ Chg (fun k => k = g) w w' := by
  have H := Lib.hid h
  clear h
  go_enter Try.func124, Try.ntmps124
  go_wp2
  go_loopw [10] (fun s10 wr => ∃ (i : Nat) (L1 : List PartD), i ≤ m ∧ s10 = .int .i64 (i : Int) ∧ Hid (PartsIn wr base (.slice (some ⟨g, 0, none⟩) n c) L1 ∧ Sh zPart L L1 a (b + m) ∧ (∀ k, L1.getD k zPart = swapR (fun k => L.getD k zPart) a b i k) ∧ Chg (fun k => k = g) w wr)) (fun s10 _ => m - (intOf s10).toNat)
  case atStart => exact ⟨0, L, by omega, by go_num, H.out, Sh.refl _ _ _, fun k => by rw [swapR_zero], Chg.refl _ _⟩
  case round =>
    obtain ⟨i, L1, hi, rfl, HJ⟩ := hrel
    by_cases hlt : i < m
    · have hlt' : (i : Int) < (m : Int) := by omega
      have h1 := HJ.out.1.drew
      have hr1 := part_range h1 (k := a + i) (by omega)
      have hr2 := part_range h1 (k := b + i) (by omega)
      have ht1 := part_there h1 (k := a + i) (by omega) (L1.getD (b + i) zPart)
      have h2 := part_set h1 (k := a + i) (by omega) (L1.getD (b + i) zPart)
      have ht2 := part_there h2 (k := b + i) (by omega) (L1.getD (a + i) zPart)
      have h3 := part_set h2 (k := b + i) (by omega) (L1.getD (a + i) zPart)
      have hlen := HJ.out.1.len
      have HJ2 : Hid (PartsIn ((wr.drew.setCells g ((a + i) * 202) (partC (L1.getD (b + i) zPart))).setCells g ((b + i) * 202) (partC (L1.getD (a + i) zPart))) base (.slice (some ⟨g, 0, none⟩) n c) (swapL zPart L1 (a + i) (b + i)) ∧ Sh zPart L (swapL zPart L1 (a + i) (b + i)) a (b + m) ∧ (∀ k, (swapL zPart L1 (a + i) (b + i)).getD k zPart = swapR (fun k => L.getD k zPart) a b (i + 1) k) ∧ Chg (fun k => k = g) w ((wr.drew.setCells g ((a + i) * 202) (partC (L1.getD (b + i) zPart))).setCells g ((b + i) * 202) (partC (L1.getD (a + i) zPart)))) := by
        refine ⟨h3, HJ.out.2.1.trans (Sh.swap L1 (by omega) (by omega) (by omega)), fun k => ?_, chg_setCells (S := fun k => k = g) rfl _ _ _ (chg_setCells (S := fun k => k = g) rfl _ _ _ (HJ.out.2.2.2.drewN 1))⟩
        rw [swapL_at zPart L1 (by omega) (by omega), ← swapR_step _ _ _ _ (by omega), HJ.out.2.2.1, HJ.out.2.2.1, HJ.out.2.2.1]
      clear h1 h2 h3 HJ
      generalize L1.getD (a + i) zPart = x at *
      generalize L1.getD (b + i) zPart = y at *
      go_wp2
      obtain ⟨w8, hw8⟩ : ∃ w8, w8 = wr.drew.setCells g ((a + i) * 202) (partC y) := ⟨_, rfl⟩
      rw [← hw8] at HJ2 ht2
      obtain ⟨w9, hw9⟩ : ∃ w9, w9 = w8.setCells g ((b + i) * 202) (partC x) := ⟨_, rfl⟩
      rw [← hw9] at HJ2
      refine z_start (fun _ => True) (by kernel_rfl) ?_
      refine z_reads 0 13 (by kernel_rfl) trivial ?_
      simp only [List.take_succ_cons, List.take_zero, List.drop_succ_cons, List.drop_zero]
      repeat (go_big_quiet_step (fail))
      refine wpQuiet_nil ?_
      refine z_reads 14 5 (by kernel_rfl) trivial ?_
      simp only [List.take_succ_cons, List.take_zero, List.drop_succ_cons, List.drop_zero]
      repeat (go_big_quiet_step (fail))
      refine wpQuiet_nil ?_
      refine z_two 13 19 (by kernel_rfl) ?_ ?_
      · refine wpOp_atK rfl rfl ?_
        refine wp_load_mid 99 _ rfl g ((b + i) * 202) rfl (partC y) _ hr2 Try.underlying99 rfl (size_partC _) ?_
        refine ⟨Or.inr trivial, ?_⟩
        simp only [put_some, List.setIfInBounds_toArray, List.set_cons_succ, List.set_cons_zero]
        refine z_one 19 (by kernel_rfl) ?_
        refine wpOp_atK rfl rfl ?_
        refine wp_load_mid 99 _ rfl g ((a + i) * 202) rfl (partC x) _ hr1 Try.underlying99 rfl (size_partC _) ?_
        refine ⟨Or.inr trivial, ?_⟩
        simp only [put_some, List.setIfInBounds_toArray, List.set_cons_succ, List.set_cons_zero]
        refine z_reads 20 1 (by kernel_rfl) trivial ?_
        simp only [List.take_succ_cons, List.take_zero, List.drop_succ_cons, List.drop_zero]
        repeat (go_big_quiet_step (fail))
        refine wpQuiet_nil ?_
        refine z_one 21 (by kernel_rfl) ?_
        refine wpOp_atK rfl rfl ?_
        refine wp_store_mid 99 _ _ rfl g ((a + i) * 202) (partC y).toArray rfl rfl ht1 (size_partA _) (all_oneCell_toArray (partC_one _)) ?_
        simp only [put_none, toArr_toList]
        rw [← hw8]
        refine ⟨Or.inr trivial, ?_⟩
        refine z_reads 22 1 (by kernel_rfl) trivial ?_
        simp only [List.take_succ_cons, List.take_zero, List.drop_succ_cons, List.drop_zero]
        repeat (go_big_quiet_step (fail))
        refine wpQuiet_nil ?_
        refine z_one 23 (by kernel_rfl) ?_
        refine wpOp_atK rfl rfl ?_
        refine wp_store_mid 99 _ _ rfl g ((b + i) * 202) (partC x).toArray rfl rfl ht2 (size_partA _) (all_oneCell_toArray (partC_one _)) ?_
        simp only [put_none, toArr_toList]
        refine ⟨Or.inr trivial, ?_⟩
        rw [← hw9]
        refine z_done (by kernel_rfl) ?_
        clear hw9 hw8
        go_wp2
        go_roundw
        case rel => exact ⟨i + 1, _, by omega, by go_num, HJ2⟩
        case measure => simp [intOf]; omega
      · refine wpOp_atK rfl rfl ?_
        refine wp_load_mid 99 _ rfl g ((a + i) * 202) rfl (partC x) _ hr1 Try.underlying99 rfl (size_partC _) ?_
        refine ⟨Or.inr trivial, ?_⟩
        simp only [put_some, List.setIfInBounds_toArray, List.set_cons_succ, List.set_cons_zero]
        refine z_one 13 (by kernel_rfl) ?_
        refine wpOp_atK rfl rfl ?_
        refine wp_load_mid 99 _ rfl g ((b + i) * 202) rfl (partC y) _ hr2 Try.underlying99 rfl (size_partC _) ?_
        refine ⟨Or.inr trivial, ?_⟩
        simp only [put_some, List.setIfInBounds_toArray, List.set_cons_succ, List.set_cons_zero]
        refine z_reads 20 1 (by kernel_rfl) trivial ?_
        simp only [List.take_succ_cons, List.take_zero, List.drop_succ_cons, List.drop_zero]
        repeat (go_big_quiet_step (fail))
        refine wpQuiet_nil ?_
        refine z_one 21 (by kernel_rfl) ?_
        refine wpOp_atK rfl rfl ?_
        refine wp_store_mid 99 _ _ rfl g ((a + i) * 202) (partC y).toArray rfl rfl ht1 (size_partA _) (all_oneCell_toArray (partC_one _)) ?_
        simp only [put_none, toArr_toList]
        rw [← hw8]
        refine ⟨Or.inr trivial, ?_⟩
        refine z_reads 22 1 (by kernel_rfl) trivial ?_
        simp only [List.take_succ_cons, List.take_zero, List.drop_succ_cons, List.drop_zero]
        repeat (go_big_quiet_step (fail))
        refine wpQuiet_nil ?_
        refine z_one 23 (by kernel_rfl) ?_
        refine wpOp_atK rfl rfl ?_
        refine wp_store_mid 99 _ _ rfl g ((b + i) * 202) (partC x).toArray rfl rfl ht2 (size_partA _) (all_oneCell_toArray (partC_one _)) ?_
        simp only [put_none, toArr_toList]
        refine ⟨Or.inr trivial, ?_⟩
        rw [← hw9]
        refine z_done (by kernel_rfl) ?_
        clear hw9 hw8
        go_wp2
        go_roundw
        case rel => exact ⟨i + 1, _, by omega, by go_num, HJ2⟩
        case measure => simp [intOf]; omega
    · obtain rfl : i = m := by omega
      go_wp2
      go_end0
      exact ⟨rfl, L1, HJ.out.1, HJ.out.2.1, HJ.out.2.2.1, HJ.out.2.2.2⟩
theorem swapRange_anyZ (g n c a b m base : Nat) (za zb zm : Int) (fv : Value) (L : List PartD) (w : World) (h : PartsIn w base (.slice (some ⟨g, 0, none⟩) n c) L) (hn : n ≤ 1000000) (ha : za = (a : Int)) (hb : zb = (b : Int)) (hm : zm = (m : Int)) (hab : a + m ≤ b) (hbm : b + m ≤ n) :
    Calls Try.prog 124 #[.slice (some ⟨g, 0, none⟩) n c, .int .i64 za, .int .i64 zb, .int .i64 zm, fv] w fun e w' => e = .returned (.tuple #[]) ∧
      ∃ L', PartsIn w' base (.slice (some ⟨g, 0, none⟩) n c) L' ∧ Sh zPart L L' a (b + m) ∧ (∀ k, L'.getD k zPart = swapR (fun k => L.getD k zPart) a b m k) ∧ Chg (fun k => k = g) w w' := by
  subst ha hb hm
  exact swapRange_any g n c a b m base fv L w h hn hab hbm
end
end Go.Proofs.Ytblhmdhfhaencaa
