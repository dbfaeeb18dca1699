/-
  Regions that draw their order: a law for each operation by itself, whatever has been done ahead of it; what each yields is said of its value, of how great the heap was ahead of it and behind it, and holds in all later worlds. No program in sight.
-/
import Derived.Test.YtfpbfdkjcmlimaaGreatZed
namespace Go.Proofs.YtfpbfdkjcmlimaaGreat
set_option linter.unusedSimpArgs false
set_option linter.unusedVariables false
set_option linter.unusedSectionVars false
set_option maxRecDepth 100000
set_option maxHeartbeats 40000000
section
open Go.RowKit
def frameGo : Act → List (Option Nat) → Nat → (Nat → Value) → Act
  | a, [], _, _ => a
  | a, none :: ds, k, ν => frameGo a ds (k + 1) ν
  | a, some d :: ds, k, ν => frameGo { tmps := a.tmps.setIfInBounds d (ν k), defers := a.defers } ds (k + 1) ν
def frameOf (a : Act) (ds : List (Option Nat)) (ν : Nat → Value) : Act := frameGo a ds 0 ν
def updN {α : Type} (ν : Nat → α) (i : Nat) (v : α) : Nat → α := fun j => if j = i then v else ν j
theorem put_some (a : Act) (d : Nat) (v : Value) : a.put (some d) v = { tmps := a.tmps.setIfInBounds d v, defers := a.defers } := rfl
theorem put_none (a : Act) (v : Value) : a.put none v = a := rfl
theorem frameGo_congr : ∀ (ds : List (Option Nat)) (a : Act) (k : Nat) (ν ν' : Nat → Value), (∀ j, k ≤ j → ν j = ν' j) → frameGo a ds k ν = frameGo a ds k ν'
  | [], _, _, _, _, _ => rfl
  | none :: ds, a, k, ν, ν', h => frameGo_congr ds a (k + 1) ν ν' (fun j hj => h j (by omega))
  | some d :: ds, a, k, ν, ν', h => by
    simp only [frameGo]
    rw [h k (Nat.le_refl _)]
    exact frameGo_congr ds _ (k + 1) ν ν' (fun j hj => h j (by omega))
theorem frameGo_put : ∀ (ds : List (Option Nat)) (a : Act) (k : Nat) (ν : Nat → Value) (d : Nat) (v : Value), some d ∉ ds → (frameGo a ds k ν).put (some d) v = frameGo (a.put (some d) v) ds k ν
  | [], _, _, _, _, _, _ => rfl
  | none :: ds, a, k, ν, d, v, h => frameGo_put ds a (k + 1) ν d v (fun hm => h (by simp [hm]))
  | some d' :: ds, a, k, ν, d, v, h => by
    have hne : d' ≠ d := fun e => h (by simp [e])
    simp only [frameGo]
    rw [frameGo_put ds _ (k + 1) ν d v (fun hm => h (by simp [hm]))]
    congr 1
    simp only [put_some]
    rw [Array.setIfInBounds_comm _ _ hne]
theorem frameGo_upd : ∀ (ds : List (Option Nat)) (a : Act) (k : Nat) (ν : Nat → Value) (i d : Nat) (v : Value), (ds.filterMap id).Nodup → ds[i]? = some (some d) → (frameGo a ds k ν).put (some d) v = frameGo a ds k (updN ν (k + i) v)
  | [], _, _, _, i, _, _, _, h => by simp at h
  | none :: ds, a, k, ν, i, d, v, hn, h => by
    cases i with
    | zero => simp at h
    | succ i =>
      simp only [List.filterMap_cons_none, id_eq] at hn
      have := frameGo_upd ds a (k + 1) ν i d v hn (by simpa using h)
      simp only [frameGo]
      rw [this, show k + 1 + i = k + (i + 1) by omega]
  | some d' :: ds, a, k, ν, i, d, v, hn, h => by
    simp only [List.filterMap_cons, id_eq, List.nodup_cons] at hn
    have hmem : ∀ x, some x ∈ ds → x ∈ ds.filterMap id := fun x hx => List.mem_filterMap.2 ⟨some x, hx, rfl⟩
    cases i with
    | zero =>
      simp only [List.getElem?_cons_zero, Option.some.injEq] at h
      subst h
      simp only [frameGo]
      rw [frameGo_put ds _ (k + 1) ν d' v (fun hm => hn.1 (hmem _ hm))]
      simp only [put_some, Array.setIfInBounds_setIfInBounds]
      have e : updN ν (k + 0) v k = v := by simp [updN]
      rw [e]
      exact frameGo_congr ds _ (k + 1) ν _ (fun j hj => by simp only [updN]; rw [if_neg (by omega)])
    | succ i =>
      simp only [frameGo]
      rw [frameGo_upd ds _ (k + 1) ν i d v hn.2 (by simpa using h), show k + 1 + i = k + (i + 1) by omega]
      have e : updN ν (k + (i + 1)) v k = ν k := by simp only [updN]; rw [if_neg (by omega)]
      rw [e]
theorem frame_put (a : Act) (ds : List (Option Nat)) (ν : Nat → Value) (i : Nat) (v : Value) (hn : (ds.filterMap id).Nodup) (hi : i < ds.length) : (frameOf a ds ν).put (ds.getD i none) v = frameOf a ds (updN ν i v) := by
  have hg : ds[i]? = some (ds.getD i none) := by rw [List.getD_eq_getElem?_getD, List.getElem?_eq_getElem hi]; rfl
  cases hd : ds.getD i none with
  | some d =>
    rw [hd] at hg
    have := frameGo_upd ds a 0 ν i d v hn hg
    rw [Nat.zero_add] at this
    exact this
  | none =>
    rw [hd] at hg
    show frameOf a ds ν = _
    unfold frameOf
    have key : ∀ (ds : List (Option Nat)) (a : Act) (k i : Nat), ds[i]? = some none → frameGo a ds k ν = frameGo a ds k (updN ν (k + i) v) := by
      intro ds
      induction ds with
      | nil => intro a k i h; simp at h
      | cons x ds ih =>
        intro a k i h
        cases i with
        | zero =>
          simp only [List.getElem?_cons_zero, Option.some.injEq] at h
          subst h
          simp only [frameGo]
          exact frameGo_congr ds a (k + 1) ν _ (fun j hj => by simp only [updN]; rw [if_neg (by omega)])
        | succ i =>
          have h' : ds[i]? = some none := by simpa using h
          have e2 : k + 1 + i = k + (i + 1) := by omega
          cases x with
          | none => simp only [frameGo]; rw [ih a (k + 1) i h', e2]
          | some d' =>
            simp only [frameGo]
            have e : updN ν (k + (i + 1)) v k = ν k := by simp only [updN]; rw [if_neg (by omega)]
            rw [ih _ (k + 1) i h', e2, e]
    have := key ds a 0 i hg
    rwa [Nat.zero_add] at this
def frame0 (a : Act) (ds : List (Option Nat)) : Nat → Value := fun k => match ds.getD k none with
  | some d => a.tmps.getD d undef
  | none => undef
theorem set_self (t : Array Value) (d : Nat) : t.setIfInBounds d (t.getD d undef) = t := by
  apply Array.ext_getElem?
  intro k
  rw [Array.getElem?_setIfInBounds]
  by_cases e : d = k
  · subst e
    rw [if_pos rfl]
    by_cases h : d < t.size
    · simp [h, Array.getD_eq_getD_getElem?]
    · rw [if_neg h, Array.getElem?_eq_none (by omega)]
  · rw [if_neg e]
theorem frame_start (a : Act) (ds : List (Option Nat)) : frameOf a ds (frame0 a ds) = a := by
  have key : ∀ (ds : List (Option Nat)) (k : Nat) (ν : Nat → Value), (∀ j d, ds[j]? = some (some d) → ν (k + j) = a.tmps.getD d undef) → frameGo a ds k ν = a := by
    intro ds
    induction ds with
    | nil => intro k ν _; rfl
    | cons x ds ih =>
      intro k ν h
      have h' : ∀ j d, ds[j]? = some (some d) → ν (k + 1 + j) = a.tmps.getD d undef := fun j d hj => by
        have := h (j + 1) d (by simpa using hj)
        rwa [show k + (j + 1) = k + 1 + j by omega] at this
      cases x with
      | none => exact ih (k + 1) ν h'
      | some d =>
        have h0 := h 0 d (by simp)
        rw [Nat.add_zero] at h0
        simp only [frameGo]
        rw [h0, set_self]
        exact ih (k + 1) ν h'
  refine key ds 0 _ (fun j d hj => ?_)
  rw [Nat.zero_add]
  unfold frame0
  have : ds.getD j none = some d := by rw [List.getD_eq_getElem?_getD, hj]; rfl
  rw [this]
theorem getD_set_at (L : Array Bool) (i : Nat) (h : i < L.size) : (L.setIfInBounds i true).getD i false = true := by
  rw [Array.getD_eq_getD_getElem?, Array.getElem?_setIfInBounds_self_of_lt h]
  rfl
theorem filt_one (p p' : Nat → Bool) (i : Nat) (hp : p i = true) (he : ∀ j, p' j = (j != i && p j)) : ∀ (L : List Nat), L.Nodup → i ∈ L → (L.filter p').length + 1 = (L.filter p).length := by
  intro L
  induction L with
  | nil => intro _ h; cases h
  | cons x L ih =>
    intro hn hm
    rw [List.nodup_cons] at hn
    by_cases e : x = i
    · subst e
      have h1 : L.filter p' = L.filter p := List.filter_congr fun j hj => by
        rw [he]
        have : j ≠ x := fun e => hn.1 (e ▸ hj)
        simp [this]
      have h2 : p' x = false := by rw [he]; simp
      simp [List.filter_cons, hp, h2, h1]
    · have h2 : p' x = p x := by rw [he]; simp [e]
      have := ih hn.2 ((List.mem_cons.1 hm).resolve_left (fun h => e h.symm))
      simp only [List.filter_cons, h2]
      split <;> simp_all
theorem filt_ge (m : Nat) : ∀ n, ((List.range n).filter fun j => !decide (j < m)).length = n - m := by
  intro n
  induction n with
  | zero => simp
  | succ n ih =>
    rw [List.range_succ, List.filter_append, List.length_append, ih]
    by_cases h : n < m
    · simp [h]; omega
    · simp [h]; omega
def depB (l : List Oper) (i j : Nat) : Bool := ((l[i]?).map fun o => o.after.any fun e => Region.binds .any e && e.on == j).getD false
def freeOK (l : List Oper) (m : Nat) (ds : List (Option Nat)) : Bool :=
  decide (ds.length = m ∧ m ≤ l.length ∧ (ds.filterMap id).Nodup) && ((List.range m).all fun i => ((l[i]?).map fun o => o.dst == ds.getD i none && o.after.all fun e => !Region.binds .any e || decide (e.on < i)).getD false) &&
    ((List.range l.length).all fun j => (decide (j < m) || (List.range j).all fun i => reach l j i) && ((l[j]?).map fun o => o.after.all fun e => !Region.binds .any e || decide (e.on < j)).getD false)
inductive SpecK where
  | val (c : Value)
  | new (o : Obj)
  | any (p : Value → Nat → Nat → World → Prop)
abbrev Spec := Nat → Value → Nat → Nat → World → Prop
def specK : SpecK → Value → Nat → Nat → World → Prop
  | .val c, v, _, _, _ => v = c
  | .new o, v, lo, hi, w => v = .pointer (some ⟨lo, 0, none⟩) ∧ lo < hi ∧ w.heap[lo]? = some o
  | .any p, v, lo, hi, w => p v lo hi w
def specB (ks : List SpecK) : Spec := fun i v lo hi w => specK (ks.getD i (.any fun _ _ _ _ => True)) v lo hi w
def monoK : SpecK → Prop
  | .any p => ∀ v lo hi w w', Below w.heap.size w w' → p v lo hi w → p v lo hi w'
  | _ => True
theorem specB_mono {ks : List SpecK} (h : ∀ k ∈ ks, monoK k) : ∀ i v lo hi w w', Below w.heap.size w w' → specB ks i v lo hi w → specB ks i v lo hi w' := by
  intro i v lo hi w w' hb hs
  unfold specB at *
  have hk : monoK (ks.getD i (.any fun _ _ _ _ => True)) := by
    rw [List.getD_eq_getElem?_getD]
    cases e : ks[i]? with
    | none => exact fun _ _ _ _ _ _ h => h
    | some k => exact h k (List.mem_of_getElem? e)
  generalize ks.getD i (.any fun _ _ _ _ => True) = k at *
  cases k with
  | val c => exact hs
  | new o => exact ⟨hs.1, hs.2.1, block_ext hb hs.2.2⟩
  | any p => exact hk v lo hi w w' hb hs
section
variable {P : Program} {l : List Oper} {Q : Exit → Act → World → Prop}
theorem free_tail (m : Nat) (hok : ∀ j, m ≤ j → j < l.length → ∀ i, i < j → reach l j i = true) (hup : ∀ j o, l[j]? = some o → ∀ e ∈ o.after, Region.binds .any e = true → e.on < j) :
    ∀ (k j : Nat) (listed : Array Bool) (a : Act) (w : World), l.length - j = k → m ≤ j → j ≤ l.length → listed.size = l.length → (∀ i, i < l.length → listed.getD i false = decide (i < j)) → Closed l listed → wpList P l.toArray Q (l.drop j) a w → wpAny P .any l.toArray Q k listed a w := by
  intro k
  induction k with
  | zero =>
    intro j listed a w hk hm hj hs hL hc h
    have hr : Region.ready .any l.toArray listed = [] := by
      cases hr : Region.ready .any l.toArray listed with
      | nil => rfl
      | cons i r =>
        have hi : i ∈ Region.ready .any l.toArray listed := by rw [hr]; simp
        obtain ⟨h1, o, ho, _⟩ := mem_ready.1 hi
        have hlt : i < l.length := by have := (Array.getElem?_eq_some_iff.1 ho).1; simpa using this
        have h2 := hL i hlt
        have e : listed.getD i true = listed.getD i false := by simp [hs, hlt]
        rw [e, h2] at h1
        simp at h1
        omega
    rw [List.drop_of_length_le (by omega)] at h
    exact ⟨hr, h⟩
  | succ k ih =>
    intro j listed a w hk hm hj hs hL hc h
    have hjl : j < l.length := by omega
    have hj0 : l[j]? = some l[j] := List.getElem?_eq_getElem hjl
    have only : ∀ i ∈ Region.ready .any l.toArray listed, i = j := fun i hi => by
      obtain ⟨h1, o, ho, _⟩ := mem_ready.1 hi
      have hlt : i < l.length := by have := (Array.getElem?_eq_some_iff.1 ho).1; simpa using this
      have h2 := hL i hlt
      have e : listed.getD i true = listed.getD i false := by simp [hs, hlt]
      rw [e, h2] at h1
      simp at h1
      by_cases hij : i = j
      · exact hij
      · obtain ⟨n, hn⟩ := reach_sound (hok i (by omega) hlt j (by omega))
        have h3 := waits_ready hc hi hn
        rw [hL j hjl] at h3
        simp at h3
    have hrj : j ∈ Region.ready .any l.toArray listed := by
      refine mem_ready.2 ⟨?_, l[j], by simp [hjl], fun e he hb => ?_⟩
      · have e : listed.getD j true = listed.getD j false := by simp [hs, hjl]
        rw [e, hL j hjl]
        simp
      · have hon := hup j l[j] hj0 e he hb
        rw [hL e.on (by omega)]
        simpa using hon
    refine ⟨fun h0 => absurd hrj (by rw [h0]; simp), fun i hi => ?_⟩
    obtain rfl := only i hi
    rw [List.drop_eq_getElem_cons hjl] at h
    have hget : l.toArray[i]? = some l[i] := by simp [hjl]
    unfold wpOp
    simp only [hget]
    have hnext : ∀ a' w', wpList P l.toArray Q (l.drop (i + 1)) a' w' → wpAny P .any l.toArray Q k (listed.setIfInBounds i true) a' w' := fun a' w' h' => by
      refine ih (i + 1) _ a' w' (by omega) (by omega) (by omega) (by simpa using hs) (fun q hq => ?_) (hc.set hrj) h'
      by_cases e : i = q
      · subst e
        rw [getD_set_at _ _ (by rw [hs]; exact hjl)]
        simp
      · rw [getD_set_ne false e, hL q hq]
        rw [decide_eq_decide]
        omega
    rw [wpList] at h
    split
    · rename_i hw
      rw [if_pos hw] at h
      exact h.imp (fun h => Oper.wp_mono hnext h) id
    · rename_i hw
      rw [if_neg hw] at h
      exact hnext _ _ h
theorem free_any {P : Program} {l : List Oper} {Q : Exit → Act → World → Prop} (m : Nat) (ds : List (Option Nat)) (hok : freeOK l m ds = true) (S : Spec) (a0 : Act) (w0 : World)
    (hmono : ∀ i v lo hi w w', Below w.heap.size w w' → S i v lo hi w → S i v lo hi w')
    (hops : ∀ i, i < m → ∀ (ν : Nat → Value) (lo hi : Nat → Nat) (w : World) (K : Act → World → Prop), Below w0.heap.size w0 w → (∀ j, depB l i j = true → S j (ν j) (lo j) (hi j) w) →
      (∀ v w', Below w.heap.size w w' → S i v w.heap.size w'.heap.size w' → K ((frameOf a0 ds ν).put (ds.getD i none) v) w') → wpOp P l.toArray Q i K (frameOf a0 ds ν) w)
    (hend : ∀ (ν : Nat → Value) (lo hi : Nat → Nat) (w : World), Below w0.heap.size w0 w → (∀ i, i < m → S i (ν i) (lo i) (hi i) w) → (∀ i, i < m → w0.heap.size ≤ lo i ∧ lo i ≤ hi i ∧ hi i ≤ w.heap.size) →
      (∀ i j, i < m → j < m → i ≠ j → hi i ≤ lo j ∨ hi j ≤ lo i) → wpList P l.toArray Q (l.drop m) (frameOf a0 ds ν) w) :
    wpAny P .any l.toArray Q l.length (Array.replicate l.length false) a0 w0 := by
  simp only [freeOK, Bool.and_eq_true, decide_eq_true_eq, List.all_eq_true, List.mem_range] at hok
  obtain ⟨⟨⟨hds, hml, hnd⟩, h1⟩, h2⟩ := hok
  have hup : ∀ j o, l[j]? = some o → ∀ e ∈ o.after, Region.binds .any e = true → e.on < j := fun j o hj e he hb => by
    have hlt : j < l.length := (List.getElem?_eq_some_iff.1 hj).1
    have := (h2 j hlt).2
    rw [hj] at this
    simp only [Option.map_some, Option.getD_some] at this
    have := (Array.all_eq_true'.1 this) e he
    simpa [hb] using this
  have htail : ∀ j, m ≤ j → j < l.length → ∀ i, i < j → reach l j i = true := fun j hj hlt i hi => by
    have := (h2 j hlt).1
    simp only [Bool.or_eq_true, decide_eq_true_eq, List.all_eq_true, List.mem_range] at this
    exact (this.resolve_left (by omega)) i hi
  have key : ∀ (fuel : Nat) (listed : Array Bool) (ν : Nat → Value) (lo hi : Nat → Nat) (w : World), ((List.range l.length).filter fun j => !listed.getD j true).length = fuel → listed.size = l.length → Closed l listed →
      (∀ j, m ≤ j → listed.getD j false = false) → Below w0.heap.size w0 w → (∀ i, i < m → listed.getD i false = true → S i (ν i) (lo i) (hi i) w ∧ w0.heap.size ≤ lo i ∧ lo i ≤ hi i ∧ hi i ≤ w.heap.size) →
      (∀ i j, i < m → j < m → i ≠ j → listed.getD i false = true → listed.getD j false = true → hi i ≤ lo j ∨ hi j ≤ lo i) → wpAny P .any l.toArray Q fuel listed (frameOf a0 ds ν) w := by
    intro fuel
    induction fuel with
    | zero =>
      intro listed ν lo hi w hf hs hc htl hB hS hD
      by_cases hall : ∀ i, i < m → listed.getD i false = true
      · have hL : ∀ i, i < l.length → listed.getD i false = decide (i < m) := fun i _ => by
          by_cases h : i < m
          · rw [hall i h]; simp [h]
          · rw [htl i (by omega)]; simp [h]
        have hcnt : l.length - m = 0 := by
          rw [← hf, ← filt_ge m l.length]
          congr 1
          refine List.filter_congr fun j hj => ?_
          have hj := List.mem_range.1 hj
          have e : listed.getD j true = listed.getD j false := by simp [hs, hj]
          rw [e, hL j hj]
        exact free_tail m htail hup 0 m listed _ w hcnt (Nat.le_refl _) hml hs hL hc (hend ν lo hi w hB (fun i h => (hS i h (hall i h)).1) (fun i h => (hS i h (hall i h)).2) (fun i j h h' hne => hD i j h h' hne (hall i h) (hall j h')))
      · exfalso
        have ⟨i, hi⟩ := Classical.not_forall.1 hall
        have ⟨him, hin⟩ := Classical.not_imp.1 hi
        have hlt : i < l.length := by omega
        have hmem : i ∈ (List.range l.length).filter fun j => !listed.getD j true := by
          rw [List.mem_filter, List.mem_range]
          refine ⟨hlt, ?_⟩
          have e : listed.getD i true = listed.getD i false := by simp [hs, hlt]
          rw [e]
          simpa using hin
        rw [List.eq_nil_of_length_eq_zero hf] at hmem
        cases hmem
    | succ fuel ih =>
      intro listed ν lo hi w hf hs hc htl hB hS hD
      by_cases hall : ∀ i, i < m → listed.getD i false = true
      · have hL : ∀ i, i < l.length → listed.getD i false = decide (i < m) := fun i _ => by
          by_cases h : i < m
          · rw [hall i h]; simp [h]
          · rw [htl i (by omega)]; simp [h]
        have hcnt : l.length - m = fuel + 1 := by
          rw [← hf, ← filt_ge m l.length]
          congr 1
          refine List.filter_congr fun j hj => ?_
          have hj := List.mem_range.1 hj
          have e : listed.getD j true = listed.getD j false := by simp [hs, hj]
          rw [e, hL j hj]
        exact free_tail m htail hup (fuel + 1) m listed _ w hcnt (Nat.le_refl _) hml hs hL hc (hend ν lo hi w hB (fun i h => (hS i h (hall i h)).1) (fun i h => (hS i h (hall i h)).2) (fun i j h h' hne => hD i j h h' hne (hall i h) (hall j h')))
      · -- the least that is to come
        have hex : ∀ k, (∃ i, i < m ∧ i ≤ k ∧ listed.getD i false = false) → ∃ i, i < m ∧ listed.getD i false = false ∧ ∀ j, j < i → listed.getD j false = true := by
          intro k
          induction k with
          | zero =>
            rintro ⟨i, h1, h2, h3⟩
            exact ⟨i, h1, h3, fun j hj => by omega⟩
          | succ k ihk =>
            rintro ⟨i, h1, h2, h3⟩
            by_cases h : ∃ i, i < m ∧ i ≤ k ∧ listed.getD i false = false
            · exact ihk h
            · refine ⟨i, h1, h3, fun j hj => ?_⟩
              cases e : listed.getD j false with
              | true => rfl
              | false => exact absurd ⟨j, by omega, by omega, e⟩ h
        have ⟨i1, hi1⟩ := Classical.not_forall.1 hall
        have ⟨him1, hin1⟩ := Classical.not_imp.1 hi1
        obtain ⟨i0, h0m, h0f, h0all⟩ := hex i1 ⟨i1, him1, Nat.le_refl _, by simpa using hin1⟩
        have h0l : i0 < l.length := by omega
        have hr0 : i0 ∈ Region.ready .any l.toArray listed := by
          refine mem_ready.2 ⟨?_, l[i0], by simp [h0l], fun e he hb => h0all e.on (hup i0 l[i0] (List.getElem?_eq_getElem h0l) e he hb)⟩
          have e : listed.getD i0 true = listed.getD i0 false := by simp [hs, h0l]
          rw [e, h0f]
        refine ⟨fun h => absurd hr0 (by rw [h]; simp), fun i hir => ?_⟩
        obtain ⟨hi1', o, ho, hdep⟩ := mem_ready.1 hir
        have hil : i < l.length := by have := (Array.getElem?_eq_some_iff.1 ho).1; simpa using this
        have hif : listed.getD i false = false := by
          have e : listed.getD i true = listed.getD i false := by simp [hs, hil]
          rw [← e]; exact hi1'
        have him : i < m := by
          apply Classical.byContradiction
          intro hge
          obtain ⟨n, hn⟩ := reach_sound (htail i (by omega) hil i0 (by omega))
          have h9 := waits_ready hc hir hn
          rw [h0f] at h9
          cases h9
        refine hops i him ν lo hi w _ hB (fun j hj => ?_) (fun v w' hb hsp => ?_)
        · have ho' : l[i]? = some o := by simpa using ho
          simp only [depB, ho', Option.map_some, Option.getD_some] at hj
          obtain ⟨e, he, hbe⟩ := Array.any_eq_true'.1 hj
          simp only [Bool.and_eq_true, beq_iff_eq] at hbe
          have hlj : listed.getD j false = true := hbe.2 ▸ hdep e he hbe.1
          have hji : j < i := hbe.2 ▸ hup i o ho' e he hbe.1
          exact (hS j (by omega) hlj).1
        · rw [frame_put a0 ds ν i v hnd (by omega)]
          have hsz := hb.size
          refine ih (listed.setIfInBounds i true) (updN ν i v) (updN lo i w.heap.size) (updN hi i w'.heap.size) w' ?_ (by simpa using hs) (hc.set hir) (fun j hj => ?_) (hB.trans (hb.mono hB.size)) (fun j hj hlj => ?_) (fun j k hj hk hne hlj hlk => ?_)
          · have := filt_one (fun j => !listed.getD j true) (fun j => !(listed.setIfInBounds i true).getD j true) i (by simp [hi1']) (fun j => by
              by_cases e : i = j
              · subst e
                have : (listed.setIfInBounds i true).getD i true = true := by
                  have h1 := getD_set_at listed i (by rw [hs]; exact hil)
                  rw [Array.getD_eq_getD_getElem?] at h1 ⊢
                  cases h2 : (listed.setIfInBounds i true)[i]? with
                  | none => rfl
                  | some b => rw [h2] at h1; exact h1
                simp [this]
              · have e' : (j != i) = true := by simpa using fun h => e h.symm
                rw [getD_set_ne true e, e', Bool.true_and]) (List.range l.length) List.nodup_range (List.mem_range.2 hil)
            omega
          · rw [getD_set_ne false (by omega)]
            exact htl j hj
          · by_cases e : i = j
            · subst e
              simp only [updN, if_pos rfl]
              exact ⟨hsp, hB.size, hsz, Nat.le_refl _⟩
            · have e' : ¬ j = i := fun h => e h.symm
              rw [getD_set_ne false e] at hlj
              simp only [updN, if_neg e']
              obtain ⟨s1, s2, s3, s4⟩ := hS j hj hlj
              exact ⟨hmono j _ _ _ w w' hb s1, s2, s3, by omega⟩
          · by_cases ej : i = j
            · subst ej
              have e' : ¬ k = i := fun h => hne h.symm
              rw [getD_set_ne false hne] at hlk
              obtain ⟨_, s2, s3, s4⟩ := hS k hk hlk
              simp only [updN, if_pos rfl, if_neg e']
              exact .inr s4
            · have ej' : ¬ j = i := fun h => ej h.symm
              rw [getD_set_ne false ej] at hlj
              obtain ⟨_, s2, s3, s4⟩ := hS j hj hlj
              by_cases ek : i = k
              · subst ek
                simp only [updN, if_pos rfl, if_neg ej']
                exact .inl s4
              · have ek' : ¬ k = i := fun h => ek h.symm
                rw [getD_set_ne false ek] at hlk
                simp only [updN, if_neg ej', if_neg ek']
                exact hD j k hj hk hne hlj hlk
  have h3 := key l.length (Array.replicate l.length false) (frame0 a0 ds) (fun _ => 0) (fun _ => 0) w0 (by
    have : (List.range l.length).filter (fun j => !(Array.replicate l.length false).getD j true) = List.range l.length := by
      rw [List.filter_eq_self]
      intro j hj
      have := List.mem_range.1 hj
      simp [this]
    rw [this]; simp) (by simp) (closed_none _) (fun j hj => by
    by_cases h : j < l.length <;> simp [h]) (Below.refl _ _) (fun i hi h => by
    by_cases h' : i < l.length
    · simp [h'] at h
    · omega) (fun i j hi hj _ h => by
    by_cases h' : i < l.length
    · simp [h'] at h
    · omega)
  rwa [frame_start] at h3
theorem region_free {id : Nat} {a : Act} {w : World} (m : Nat) (ds : List (Option Nat)) (hm : P.follows .mixedOrders = true) (hok : freeOK l m ds = true) (S : Spec)
    (hmono : ∀ i v lo hi w w', Below w.heap.size w w' → S i v lo hi w → S i v lo hi w')
    (hops : ∀ i, i < m → ∀ (ν : Nat → Value) (lo hi : Nat → Nat) (w' : World) (K : Act → World → Prop), Below w.heap.size w w' → (∀ j, depB l i j = true → S j (ν j) (lo j) (hi j) w') →
      (∀ v w'', Below w'.heap.size w' w'' → S i v w'.heap.size w''.heap.size w'' → K ((frameOf a ds ν).put (ds.getD i none) v) w'') → wpOp P l.toArray Q i K (frameOf a ds ν) w')
    (hend : ∀ (ν : Nat → Value) (lo hi : Nat → Nat) (w' : World), Below w.heap.size w w' → (∀ i, i < m → S i (ν i) (lo i) (hi i) w') → (∀ i, i < m → w.heap.size ≤ lo i ∧ lo i ≤ hi i ∧ hi i ≤ w'.heap.size) →
      (∀ i j, i < m → j < m → i ≠ j → hi i ≤ lo j ∨ hi j ≤ lo i) → wpList P l.toArray Q (l.drop m) (frameOf a ds ν) w') :
    (Code.region id l.toArray true).wp P Q a w := by
  refine wp_region_any hm ?_
  have := free_any (P := P) (l := l) (Q := Q) m ds hok S a w.drew hmono (fun i hi ν lo hi' w' K hB => hops i hi ν lo hi' w' K (unDrew1 hB)) (fun ν lo hi w' hB => hend ν lo hi w' (unDrew1 hB))
  simpa using this
theorem wpOp_atK {e : Nat} {o : Oper} {K : Act → World → Prop} {a : Act} {w : World} (ho : l[e]? = some o) (hg : o.guard = none) (h : o.wp P a w K Q) : wpOp P l.toArray Q e K a w := wpOp_at ho hg h
end
theorem zA (a : Act) (ds : List (Option Nat)) (v : Nat → Value) : frameOf a ds v = frameGo a ds 0 v := rfl
theorem zB (a : Act) (k : Nat) (v : Nat → Value) : frameGo a [] k v = a := rfl
theorem zC (a : Act) (ds : List (Option Nat)) (k : Nat) (v : Nat → Value) : frameGo a (none :: ds) k v = frameGo a ds (k + 1) v := rfl
theorem zD (a : Act) (d : Nat) (ds : List (Option Nat)) (k : Nat) (v : Nat → Value) : frameGo a (some d :: ds) k v = frameGo { tmps := a.tmps.setIfInBounds d (v k), defers := a.defers } ds (k + 1) v := rfl
theorem zE {α : Type} (x d : α) (l : List α) : (x :: l).getD 0 d = x := rfl
theorem zF {α : Type} (x d : α) (l : List α) (n : Nat) : (x :: l).getD (n + 1) d = l.getD n d := rfl
theorem zG {α : Type} (l : List α) (i : Nat) (x : α) : l.toArray.setIfInBounds i x = (l.set i x).toArray := List.setIfInBounds_toArray l i x
theorem zH {α : Type} (a : α) (l : List α) (n : Nat) (b : α) : (a :: l).set (n + 1) b = a :: l.set n b := rfl
theorem zJ (a : Act) (d : Nat) (v : Value) : a.put (some d) v = { tmps := a.tmps.setIfInBounds d v, defers := a.defers } := rfl
theorem zK (a : Act) (v : Value) : a.put none v = a := rfl
theorem zI {α : Type} (a : α) (l : List α) (b : α) : (a :: l).set 0 b = b :: l := rfl
end
end Go.Proofs.YtfpbfdkjcmlimaaGreat
