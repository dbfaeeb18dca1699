/-
  Flat: slices.DeleteFunc of instructions.
-/
import Derived.Test.YtfpbfdkjcmlimaaGreatFlatBase
import Derived.Deep.LoopGhost
import Derived.Lib.SliceRun
namespace Go.Proofs.YtfpbfdkjcmlimaaGreat
set_option linter.unusedSimpArgs false
set_option linter.unusedVariables false
set_option linter.unusedSectionVars false
set_option maxRecDepth 100000
set_option maxHeartbeats 40000000
section
open Go.RowKit
section
variable {α : Type}
theorem idxF_spec (p : α → Bool) (l : List α) : (idxF p l = -1 ∧ ∀ y ∈ l, p y = false) ∨ ∃ (k : Nat) (x : α), idxF p l = k ∧ l[k]? = some x ∧ p x = true ∧ ∀ j y, j < k → l[j]? = some y → p y = false := by
  induction l with
  | nil => exact Or.inl ⟨rfl, by simp⟩
  | cons y l ih =>
    by_cases hy : p y = true
    · exact Or.inr ⟨0, y, by simp [idxF, hy], rfl, hy, fun j z hj => absurd hj (by omega)⟩
    · have hy' : p y = false := by simpa using hy
      rcases ih with ⟨h1, h2⟩ | ⟨k, x, h1, h2, h3, h4⟩
      · exact Or.inl ⟨by simp [idxF, hy', h1], by simpa [hy'] using h2⟩
      · refine Or.inr ⟨k + 1, x, ?_, by simpa using h2, h3, fun j z hj hz => ?_⟩
        · simp only [idxF, hy', h1]
          rw [if_neg (by simp), if_neg (by omega)]
          omega
        · cases j with
          | zero => simp at hz; rw [← hz]; exact hy'
          | succ j => exact h4 j z (by omega) (by simpa using hz)
def KeptAt (p : α → Bool) (rs : List α) (i j : Nat) (L : List α) : Prop :=
  i < j ∧ j ≤ rs.length ∧ L.length = rs.length ∧ L.take i = (rs.take j).filter (fun x => !p x) ∧ ∀ k, j ≤ k → L[k]? = rs[k]?
theorem KeptAt.start {p : α → Bool} {rs : List α} {k : Nat} {x : α} (hx : rs[k]? = some x) (hp : p x = true) (hno : ∀ j y, j < k → rs[j]? = some y → p y = false) : KeptAt p rs k (k + 1) rs := by
  have hk := (List.getElem?_eq_some_iff.1 hx).1
  refine ⟨by omega, by omega, rfl, ?_, fun _ _ => rfl⟩
  rw [List.take_add_one, hx, List.filter_append]
  have h1 : (rs.take k).filter (fun x => !p x) = rs.take k := by
    rw [List.filter_eq_self]
    intro y hy
    obtain ⟨j, hj, e⟩ := List.mem_iff_getElem.1 hy
    have hj' : j < k := by rw [List.length_take] at hj; omega
    rw [List.getElem_take] at e
    simp [hno j y hj' (by rw [List.getElem?_eq_getElem (by omega), e])]
  rw [h1]
  simp [hp]
theorem KeptAt.keep {p : α → Bool} {rs L : List α} {i j : Nat} {x : α} (h : KeptAt p rs i j L) (hx : rs[j]? = some x) (hp : p x = false) : KeptAt p rs (i + 1) (j + 1) (L.set i x) := by
  obtain ⟨h1, h2, h3, h4, h5⟩ := h
  have hj := (List.getElem?_eq_some_iff.1 hx).1
  refine ⟨by omega, by omega, by simpa using h3, ?_, fun k hk => ?_⟩
  · rw [List.take_add_one, List.take_set_of_le (by omega), h4, List.take_add_one (l := rs), hx, List.filter_append, List.getElem?_set_self (by omega)]
    simp [hp]
  · rw [List.getElem?_set_ne (by omega)]
    exact h5 k (by omega)
theorem KeptAt.skip {p : α → Bool} {rs L : List α} {i j : Nat} {x : α} (h : KeptAt p rs i j L) (hx : rs[j]? = some x) (hp : p x = true) : KeptAt p rs i (j + 1) L := by
  obtain ⟨h1, h2, h3, h4, h5⟩ := h
  have hj := (List.getElem?_eq_some_iff.1 hx).1
  refine ⟨by omega, by omega, h3, ?_, fun k hk => h5 k (by omega)⟩
  rw [h4, List.take_add_one (l := rs), hx, List.filter_append]
  simp [hp]
theorem KeptAt.done {p : α → Bool} {rs L : List α} {i : Nat} (h : KeptAt p rs i rs.length L) : L.take i = rs.filter (fun x => !p x) := by
  rw [h.2.2.2.1, List.take_length]
theorem flatMap_set (cs : α → List Value) (size : Nat) (hs : ∀ x, (cs x).length = size) (l : List α) (i : Nat) (x : α) (hi : i < l.length) (ys : List Value) (hl : ys.length = l.length * size)
    (hin : ∀ j, j < size → ys[i * size + j]? = (cs x)[j]?) (hout : ∀ k j y, k ≠ i → l[k]? = some y → j < size → ys[k * size + j]? = (cs y)[j]?) : ys = (l.set i x).flatMap cs := by
  have hlen := flatMap_len cs size hs (l.set i x)
  rw [List.length_set] at hlen
  refine List.ext_getElem? fun m => ?_
  by_cases hm : m < l.length * size
  · rcases Nat.eq_zero_or_pos size with h0 | hpos
    · rw [h0] at hm; omega
    · have hk : m / size < l.length := Nat.div_lt_of_lt_mul (by rw [Nat.mul_comm]; exact hm)
      have hj : m % size < size := Nat.mod_lt _ hpos
      have em : m = m / size * size + m % size := by rw [Nat.mul_comm]; exact (Nat.div_add_mod m size).symm
      rw [em]
      by_cases e : m / size = i
      · rw [e, hin _ hj, flatMap_at cs size hs (l.set i x) i _ hj x (by rw [List.getElem?_set_self hi])]
      · rw [hout _ _ l[m / size] e (List.getElem?_eq_getElem hk) hj, flatMap_at cs size hs (l.set i x) _ _ hj l[m / size] (by rw [List.getElem?_set_ne (fun h => e h.symm), List.getElem?_eq_getElem hk])]
  · rw [List.getElem?_eq_none (by omega), List.getElem?_eq_none (by omega)]
end
theorem ownsRow_cap {w : World} {base : Nat} {e : TypeId} {size g n c : Nat} {xs : List Value} (h : w.ownsRow base e size (.slice (some ⟨g, 0, none⟩) n c) n xs) : n ≤ c := by
  rcases h.2 with ⟨h0, _⟩ | ⟨g', cap, cur, hv, _, _, hnc, _⟩
  · cases h0
  · simp only [Value.slice.injEq] at hv
    omega
theorem ownsRow_trunc {w : World} {base : Nat} {e : TypeId} {size g n c : Nat} {xs : List Value} (h : w.ownsRow base e size (.slice (some ⟨g, 0, none⟩) n c) n xs) (i : Nat) (hi : i ≤ n) : w.ownsRow base e size (.slice (some ⟨g, 0, none⟩) i c) i (xs.take (i * size)) := by
  have hm : i * size ≤ n * size := Nat.mul_le_mul_right _ hi
  refine ⟨by rw [List.length_take, h.1]; omega, ?_⟩
  rcases h.2 with ⟨h0, _⟩ | ⟨g', cap, cur, hv, hb, hg, hnc, hcm, hcs, ht⟩
  · cases h0
  · simp only [Value.slice.injEq, Option.some.injEq, Addr.mk.injEq, and_true, true_and] at hv
    obtain ⟨rfl, rfl⟩ := hv
    exact Or.inr ⟨g, c, cur, rfl, hb, hg, by omega, hcm, hcs, by rw [← ht, List.take_take, Nat.min_eq_left hm]⟩
theorem ownsRow_beyond {base : Nat} {e : TypeId} {size g i c : Nat} {xs : List Value} : ∀ (vs : List Value) (o : Nat) (w : World), w.ownsRow base e size (.slice (some ⟨g, 0, none⟩) i c) i xs → i * size ≤ o → (w.setCells g o vs).ownsRow base e size (.slice (some ⟨g, 0, none⟩) i c) i xs
  | [], _, _, h, _ => h
  | v :: r, o, w, h, ho => by
    have h1 := (h.stored o v).1
    rw [List.set_eq_of_length_le (by rw [h.1]; exact ho)] at h1
    exact ownsRow_beyond r (o + 1) _ h1 (by omega)
theorem ownsRow_take {w : World} {base : Nat} {e : TypeId} {size g n c : Nat} {xs : List Value} (h : w.ownsRow base e size (.slice (some ⟨g, 0, none⟩) n c) n xs) (i : Nat) (hi : i ≤ n) (vs : List Value) : (w.setCells g (i * size) vs).ownsRow base e size (.slice (some ⟨g, 0, none⟩) i c) i (xs.take (i * size)) :=
  ownsRow_beyond vs _ w (ownsRow_trunc h i hi) (Nat.le_refl _)
theorem chg_setCells {S : Nat → Prop} {a : World} {g : Nat} (hs : S g) : ∀ (vs : List Value) (o : Nat) (w : World), Chg S a w → Chg S a (w.setCells g o vs)
  | [], _, _, h => h
  | v :: r, o, w, h => chg_setCells hs r (o + 1) _ (h.setCell (Or.inl hs) v)
theorem flatMap_take {α : Type} (cs : α → List Value) (size : Nat) (hs : ∀ x, (cs x).length = size) (l : List α) (i : Nat) : (l.flatMap cs).take (i * size) = (l.take i).flatMap cs := by
  induction l generalizing i with
  | nil => simp
  | cons y l ih =>
    cases i with
    | zero => simp
    | succ i =>
      rw [List.flatMap_cons, List.take_succ_cons, List.flatMap_cons, ← ih i, Nat.add_mul, Nat.one_mul, Nat.add_comm, List.take_append, hs]
      congr 1
      · exact List.take_of_length_le (by rw [hs]; omega)
      · congr 1; omega
theorem set8 (L : List InsR) (i : Nat) (r : InsR) (hi : i < L.length) :
    ((((((((L.flatMap insC).set (i * 8) (.int .i64 r.d.op)).set (i * 8 + 1) (.int .i64 r.d.dst)).set (i * 8 + 2) (.int .i64 r.d.a)).set (i * 8 + 3) (.int .i64 r.d.b)).set (i * 8 + 4) (.int .i64 r.d.imm)).set (i * 8 + 5) (.int .i64 r.d.callee)).set (i * 8 + 6) (.slice r.aa r.na r.ca)).set (i * 8 + 7) (.int .i64 r.d.many)
      = (L.set i r).flatMap insC := by
  have hl := flatMap_len insC 8 insC_len L
  refine flatMap_set insC 8 insC_len L i r hi _ (by simpa using hl) (fun j hj => ?_) (fun k j y hk hy hj => ?_)
  · have h8 : i * 8 + 7 < (L.flatMap insC).length := by omega
    generalize L.flatMap insC = X at h8 ⊢
    clear hl
    match j, hj with
    | 0, _ => rw [List.getElem?_set_ne (by omega), List.getElem?_set_ne (by omega), List.getElem?_set_ne (by omega), List.getElem?_set_ne (by omega), List.getElem?_set_ne (by omega), List.getElem?_set_ne (by omega), List.getElem?_set_ne (by omega), show i * 8 + 0 = i * 8 from rfl, List.getElem?_set_self (by omega)]; rfl
    | 1, _ => rw [List.getElem?_set_ne (by omega), List.getElem?_set_ne (by omega), List.getElem?_set_ne (by omega), List.getElem?_set_ne (by omega), List.getElem?_set_ne (by omega), List.getElem?_set_ne (by omega), List.getElem?_set_self (by simp; omega)]; rfl
    | 2, _ => rw [List.getElem?_set_ne (by omega), List.getElem?_set_ne (by omega), List.getElem?_set_ne (by omega), List.getElem?_set_ne (by omega), List.getElem?_set_ne (by omega), List.getElem?_set_self (by simp; omega)]; rfl
    | 3, _ => rw [List.getElem?_set_ne (by omega), List.getElem?_set_ne (by omega), List.getElem?_set_ne (by omega), List.getElem?_set_ne (by omega), List.getElem?_set_self (by simp; omega)]; rfl
    | 4, _ => rw [List.getElem?_set_ne (by omega), List.getElem?_set_ne (by omega), List.getElem?_set_ne (by omega), List.getElem?_set_self (by simp; omega)]; rfl
    | 5, _ => rw [List.getElem?_set_ne (by omega), List.getElem?_set_ne (by omega), List.getElem?_set_self (by simp; omega)]; rfl
    | 6, _ => rw [List.getElem?_set_ne (by omega), List.getElem?_set_self (by simp; omega)]; rfl
    | 7, _ => rw [List.getElem?_set_self (by simp; omega)]; rfl
  · rw [List.getElem?_set_ne (by omega), List.getElem?_set_ne (by omega), List.getElem?_set_ne (by omega), List.getElem?_set_ne (by omega), List.getElem?_set_ne (by omega), List.getElem?_set_ne (by omega), List.getElem?_set_ne (by omega), List.getElem?_set_ne (by omega)]
    exact flatMap_at insC 8 insC_len L k j hj y hy
abbrev InsRow (w : World) (B : Nat) (v : Value) (rs : List InsR) : Prop := w.ownsRow B 52 8 v rs.length (rs.flatMap insC)
theorem insRow_cells {w : World} {B g c : Nat} {rs : List InsR} (h : InsRow w B (.slice (some ⟨g, 0, none⟩) rs.length c) rs) {k : Nat} {r : InsR} (hk : rs[k]? = some r) :
    w.cell? ⟨g, k * 8, none⟩ = some (.int .i64 r.d.op) ∧ w.cell? ⟨g, k * 8 + 1, none⟩ = some (.int .i64 r.d.dst) ∧ w.cell? ⟨g, k * 8 + 2, none⟩ = some (.int .i64 r.d.a) ∧ w.cell? ⟨g, k * 8 + 3, none⟩ = some (.int .i64 r.d.b) ∧
    w.cell? ⟨g, k * 8 + 4, none⟩ = some (.int .i64 r.d.imm) ∧ w.cell? ⟨g, k * 8 + 5, none⟩ = some (.int .i64 r.d.callee) ∧ w.cell? ⟨g, k * 8 + 6, none⟩ = some (.slice r.aa r.na r.ca) ∧ w.cell? ⟨g, k * 8 + 7, none⟩ = some (.int .i64 r.d.many) := by
  have hlt := (List.getElem?_eq_some_iff.1 hk).1
  have hc : ∀ j, j < 8 → w.cell? ⟨g, k * 8 + j, none⟩ = (insC r)[j]? := fun j hj => by
    rw [World.ownsRow.cellAt h (k * 8 + j) (by omega)]
    exact flatMap_at insC 8 insC_len rs k j hj r hk
  exact ⟨hc 0 (by omega), hc 1 (by omega), hc 2 (by omega), hc 3 (by omega), hc 4 (by omega), hc 5 (by omega), hc 6 (by omega), hc 7 (by omega)⟩
theorem insRow_set {w : World} {B g c : Nat} {rs : List InsR} (h : InsRow w B (.slice (some ⟨g, 0, none⟩) rs.length c) rs) (i : Nat) (r : InsR) (hi : i < rs.length) :
    InsRow ((((((((w.setCell ⟨g, i * 8, none⟩ (.int .i64 r.d.op)).setCell ⟨g, i * 8 + 1, none⟩ (.int .i64 r.d.dst)).setCell ⟨g, i * 8 + 2, none⟩ (.int .i64 r.d.a)).setCell ⟨g, i * 8 + 3, none⟩ (.int .i64 r.d.b)).setCell ⟨g, i * 8 + 4, none⟩ (.int .i64 r.d.imm)).setCell ⟨g, i * 8 + 5, none⟩ (.int .i64 r.d.callee)).setCell ⟨g, i * 8 + 6, none⟩ (.slice r.aa r.na r.ca)).setCell ⟨g, i * 8 + 7, none⟩ (.int .i64 r.d.many)) B (.slice (some ⟨g, 0, none⟩) rs.length c) (rs.set i r) := by
  have h8 := ((((((((h.stored (i * 8) (.int .i64 r.d.op)).1.stored (i * 8 + 1) (.int .i64 r.d.dst)).1.stored (i * 8 + 2) (.int .i64 r.d.a)).1.stored (i * 8 + 3) (.int .i64 r.d.b)).1.stored (i * 8 + 4) (.int .i64 r.d.imm)).1.stored (i * 8 + 5) (.int .i64 r.d.callee)).1.stored (i * 8 + 6) (.slice r.aa r.na r.ca)).1.stored (i * 8 + 7) (.int .i64 r.d.many)).1
  rw [set8 rs i r hi] at h8
  unfold InsRow
  rw [List.length_set]
  exact h8
theorem zero_ins (w : World) : (zeroValue 52).run Tryz.prog w = .ok (.agg #[.int .i64 0, .int .i64 0, .int .i64 0, .int .i64 0, .int .i64 0, .int .i64 0, .slice none 0 0, .int .i64 0]) w := by kernel_rfl
theorem run_clear_rows {P : Program} (w : World) (t e ty : TypeId) (z : Value) (ht : P.underlying t = some (.slice e)) (hv : ∀ w, (zeroValue e).run P w = .ok z w) (size : Nat) (hz : z.cells.size = size) (h1 : ∀ u ∈ z.cells.toList, u.oneCell' = true) (b o n c : Nat) (hn : 0 < n)
    (hc : ∀ j, j < n * size → (w.cell? ⟨b, o + j, none⟩).isSome = true) (hf : ∀ j, j < n * size → w.frozen? ⟨b, o + j, none⟩ = false) :
    ∃ vs : List Value, (Builtin.clear_ #[t] ty #[.slice (some ⟨b, o, none⟩) n c]).run P w = .ok (.tuple #[]) (w.setCells b o vs) := by
  refine ⟨(Builtin.zeroCells z.cells n).toList, ?_⟩
  have hl : (Builtin.zeroCells z.cells n).toList.length = n * size := by simp [Builtin.zeroCells, hz]
  have hst := run_storeCells_cells (P := P) b o (Builtin.zeroCells z.cells n).toList 0 w (by simpa [hl] using hc) (by simpa [hl] using hf) (by
    intro v hv'
    simp only [Builtin.zeroCells, Array.toList_map, List.mem_map, Array.toList_range, List.mem_range] at hv'
    obtain ⟨q, hq, rfl⟩ := hv'
    have hpos : 0 < z.cells.size := by
      rcases Nat.eq_zero_or_pos z.cells.size with h0 | h0
      · rw [h0] at hq; omega
      · exact h0
    have hlt := Nat.mod_lt q hpos
    rw [getElem!_pos z.cells _ hlt]
    exact h1 _ (by simp))
  simp only [Nat.add_zero] at hst
  obtain ⟨m, rfl⟩ : ∃ m, n = m + 1 := ⟨n - 1, by omega⟩
  simp [Builtin.clear_, run_underlying ht, hv, hst]
def DelPost (B : Nat) (rs : List InsR) (p : InsR → Bool) (v : Value) (w : World) (e : Ending) (w' : World) : Prop :=
  ∃ v', e = .returned v' ∧ v'.ownBlock = v.ownBlock ∧ InsRow w' B v' (rs.filter fun x => !p x) ∧ Chg (fun k => v.ownBlock = some k) w w'
theorem deleteIns_some (B : Nat) (F : Nat) (caps : Array Value) (eF : ∀ args w, (callFunc F args).run Tryz.prog w = .ok (.enter F args) w) (p : InsR → Bool) (g c : Nat) (rs : List InsR) (w : World)
    (hown : InsRow w B (.slice (some ⟨g, 0, none⟩) rs.length c) rs) (hn : rs.length ≤ 1000000) (hok : ∀ r ∈ rs, InsOK w r) (hB : B ≤ w.heap.size)
    (hp : ∀ (r : InsR) (W : World), r ∈ rs → Below B w W → Calls Tryz.prog F (#[insVR r] ++ caps) W fun e W' => e = .returned (.bool (p r)) ∧ Below W.heap.size W W') :
    Calls Tryz.prog 22 #[.slice (some ⟨g, 0, none⟩) rs.length c, .func (.func F) #[] caps] w (DelPost B rs p (.slice (some ⟨g, 0, none⟩) rs.length c) w) := by
  have hgB : B ≤ g ∧ g < w.heap.size := hown.lt g rfl
  have hS : InsS w (some ⟨g, 0, none⟩) rs.length rs := by
    obtain ⟨a, c', e, hr, _⟩ := recs_of_own insC_len hown (by omega)
    simp only [Value.slice.injEq] at e
    obtain ⟨rfl, _, rfl⟩ := e
    exact ⟨hr, hok⟩
  have hI := indexIns_any F caps eF p (some ⟨g, 0, none⟩) rs.length c rs w (fun r W hr hb => hp r W hr (hb.mono hB)) hS
  have HI := Lib.hid hI
  have HO := Lib.hid hown
  have HP := Lib.hid hp
  have HOK := Lib.hid hok
  clear hI hS hown hp hok
  obtain ⟨n, HN⟩ : ∃ n, Hid (rs.length = n) := ⟨_, rfl⟩
  rcases idxF_spec p rs with ⟨hx, hall⟩ | ⟨k, x, hx, hk, hpx, hno⟩
  · have HE : Hid (rs.filter (fun x => !p x) = rs) := by
      rw [Hid, List.filter_eq_self]
      intro y hy
      simp [hall y hy]
    have HX := Lib.hid hx
    clear hx hall
    go_enter Tryz.func22, Tryz.ntmps22
    go_wp2_with (go_at_call 44; refine HI.out.mono ?_; rw [HX.out]; rintro e w1 ⟨rfl, hb1⟩; have HB1 := Lib.hid hb1; clear hb1)
    go_ret
    refine ⟨_, rfl, rfl, ?_, (Chg.refl _ _).of_ext HB1.out⟩
    rw [HE.out]
    exact ownsRow_chg HO.out ((Chg.refl (fun _ => False) w).of_ext HB1.out) (fun _ _ h => h)
  · have HX := Lib.hid hx
    have HK := Lib.hid (KeptAt.start hk hpx hno)
    have hkl := (List.getElem?_eq_some_iff.1 hk).1
    clear hx hk hpx hno
    have hne1 : ((k : Int) == -1) = false := beq_eq_false_iff_ne.2 (by omega)
    obtain ⟨n, hnn⟩ : ∃ n, rs.length = n := ⟨_, rfl⟩
    have HN := Lib.hid hnn
    have hnc : rs.length ≤ c := ownsRow_cap HO.out
    rw [hnn] at hn hkl hnc
    have hI2 := HI.out
    rw [hnn] at hI2
    have HI := Lib.hid hI2
    rw [hnn]
    clear hnn hI2
    go_enter Tryz.func22, Tryz.ntmps22
    go_wp2_with (go_at_call 44; refine HI.out.mono ?_; rw [HX.out]; rintro e w1 ⟨rfl, hb1⟩; have HB1 := Lib.hid hb1; clear hb1)
    go_loopg [5, 6, 7] n (fun gg s5 s6 _ wr => ∃ (i j : Nat) (L : List InsR), s5 = .int .i64 i ∧ s6 = .int .i64 j ∧ j ≤ n ∧ i < j ∧ n - j ≤ gg ∧ Hid (InsRow wr B (.slice (some ⟨g, 0, none⟩) L.length c) L) ∧ Hid (KeptAt p rs i j L) ∧ Hid (Chg (fun k => k = g) w wr))
    case atStart =>
      refine ⟨k, k + 1, rs, rfl, by go_num, by omega, by omega, by omega, ?_, HK, (Chg.refl _ _).of_ext HB1.out⟩
      exact ownsRow_chg HO.out ((Chg.refl (fun _ => False) w).of_ext HB1.out) (fun _ _ h => h)
    case round =>
      obtain ⟨i, j, L, rfl, rfl, hj, hij, hgg, HR, HA, HC⟩ := hrel
      have HLn : Hid (L.length = n) := HA.out.2.2.1.trans HN.out
      by_cases hlt : j < n
      · have hjr : j < rs.length := by rw [HN.out]; exact hlt
        obtain ⟨x, hx⟩ : ∃ x, rs[j]? = some x := ⟨rs[j], List.getElem?_eq_getElem hjr⟩
        have hxL : L[j]? = some x := (HA.out.2.2.2.2 j (Nat.le_refl _)).trans hx
        obtain ⟨y, hy⟩ : ∃ y, L[i]? = some y := ⟨L[i]'(by rw [HLn.out]; omega), List.getElem?_eq_getElem _⟩
        obtain ⟨c0, c1, c2, c3, c4, c5, c6, c7⟩ := insRow_cells HR.out hxL
        have HX := Lib.hid hx
        have HM := Lib.hid (List.mem_of_getElem? hx)
        have HY := Lib.hid hy
        have hwlt : w.heap.size ≤ wr.heap.size := HC.out.size
        clear hx hxL hy
        cases hq : p x with
        | true =>
          go_wp2
          refine (HP.out x _ HM.out (by exact (HC.out.alloc _).below hB (fun k hk => by rw [hk]; exact hgB.1))).mono ?_
          rintro e w2 ⟨rfl, hb2⟩
          rw [hq]
          have HB2 := Lib.hid (ext_trans (ext_alloc _ _) hb2)
          clear hb2
          go_wp2
          go_roundg (n - (j + 1))
          case measure => omega
          case rel => exact ⟨i, j + 1, L, rfl, by go_num, by omega, by omega, Nat.le_refl _, ownsRow_chg HR.out ((Chg.refl (fun _ => False) _).of_ext HB2.out) (fun _ _ h => h), HA.out.skip HX.out hq, HC.out.of_ext HB2.out⟩
        | false =>
          go_wp2
          refine (HP.out x _ HM.out (by exact (HC.out.alloc _).below hB (fun k hk => by rw [hk]; exact hgB.1))).mono ?_
          rintro e w2 ⟨rfl, hb2⟩
          rw [hq]
          have hx := hb2.block wr.heap.size (by simp)
          rw [heap_alloc_new wr _] at hx
          have d0 : w2.cell? ⟨wr.heap.size, 0, none⟩ = some (.int .i64 x.d.op) := by rw [cell_of_row _ _ _ _ _ _ hx]; rfl
          have d1 : w2.cell? ⟨wr.heap.size, 1, none⟩ = some (.int .i64 x.d.dst) := by rw [cell_of_row _ _ _ _ _ _ hx]; rfl
          have d2 : w2.cell? ⟨wr.heap.size, 2, none⟩ = some (.int .i64 x.d.a) := by rw [cell_of_row _ _ _ _ _ _ hx]; rfl
          have d3 : w2.cell? ⟨wr.heap.size, 3, none⟩ = some (.int .i64 x.d.b) := by rw [cell_of_row _ _ _ _ _ _ hx]; rfl
          have d4 : w2.cell? ⟨wr.heap.size, 4, none⟩ = some (.int .i64 x.d.imm) := by rw [cell_of_row _ _ _ _ _ _ hx]; rfl
          have d5 : w2.cell? ⟨wr.heap.size, 5, none⟩ = some (.int .i64 x.d.callee) := by rw [cell_of_row _ _ _ _ _ _ hx]; rfl
          have d6 : w2.cell? ⟨wr.heap.size, 6, none⟩ = some (.slice x.aa x.na x.ca) := by rw [cell_of_row _ _ _ _ _ _ hx]; rfl
          have d7 : w2.cell? ⟨wr.heap.size, 7, none⟩ = some (.int .i64 x.d.many) := by rw [cell_of_row _ _ _ _ _ _ hx]; rfl
          have HB2 := Lib.hid (ext_trans (ext_alloc _ _) hb2)
          have HR2 : Hid (InsRow w2 B (.slice (some ⟨g, 0, none⟩) L.length c) L) := ownsRow_chg HR.out ((Chg.refl (fun _ => False) _).of_ext HB2.out) (fun _ _ h => h)
          obtain ⟨e0, e1, e2, e3, e4, e5, e6, e7⟩ := insRow_cells HR2.out HY.out
          have f0 := HR2.out.frozenAt (i * 8)
          have f1 := HR2.out.frozenAt (i * 8 + 1)
          have f2 := HR2.out.frozenAt (i * 8 + 2)
          have f3 := HR2.out.frozenAt (i * 8 + 3)
          have f4 := HR2.out.frozenAt (i * 8 + 4)
          have f5 := HR2.out.frozenAt (i * 8 + 5)
          have f6 := HR2.out.frozenAt (i * 8 + 6)
          have f7 := HR2.out.frozenAt (i * 8 + 7)
          clear hb2 hx c0 c1 c2 c3 c4 c5 c6 c7
          go_wp2
          go_roundg (n - (j + 1))
          case measure => omega
          case rel =>
            have hset := insRow_set HR2.out i x (by rw [HLn.out]; omega)
            refine ⟨i + 1, j + 1, L.set i x, by go_num, by go_num, by omega, by omega, Nat.le_refl _, ?_, HA.out.keep HX.out hq, ?_⟩
            · rw [Hid, List.length_set]; exact hset
            · exact (((((((((HC.out.of_ext HB2.out).setCell (Or.inl rfl) _).setCell (Or.inl rfl) _).setCell (Or.inl rfl) _).setCell (Or.inl rfl) _).setCell (Or.inl rfl) _).setCell (Or.inl rfl) _).setCell (Or.inl rfl) _).setCell (Or.inl rfl) _)
      · obtain rfl : j = n := by omega
        obtain ⟨vs, hcl⟩ := run_clear_rows (P := Tryz.prog) wr 25 52 0 _ Tryz.underlying25 zero_ins 8 rfl (by simp [Value.cells, Value.oneCell']) g (i * 8) (j - i) (c - i) (by omega) (fun q hq => by
          rw [World.ownsRow.cellAt HR.out (i * 8 + q) (by rw [HLn.out]; omega)]
          rw [List.getElem?_eq_getElem (by rw [flatMap_len insC 8 insC_len, HLn.out]; omega)]
          rfl) (fun q _ => HR.out.frozenAt _)
        go_wp2
        go_ret
        have ht := ownsRow_take HR.out i (by rw [HLn.out]; omega) vs
        have hA := HA.out
        rw [← HN.out] at hA
        have hd := hA.done
        have hli : (L.take i).length = i := by rw [List.length_take, HLn.out]; omega
        rw [flatMap_take insC 8 insC_len] at ht
        rw [hd] at ht
        refine ⟨_, rfl, rfl, ?_, (chg_setCells (S := fun k => k = g) rfl vs _ _ HC.out).mono (fun k hk => by rw [hk]; rfl)⟩
        rw [hd] at hli
        unfold InsRow
        rw [hli]
        exact ht
end
end Go.Proofs.YtfpbfdkjcmlimaaGreat
