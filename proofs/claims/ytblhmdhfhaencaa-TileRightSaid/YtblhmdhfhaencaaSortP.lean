/-
  Building tiles, plain: what Build's own two loops lay. No program in sight.
-/
import Derived.Test.YtblhmdhfhaencaaBW
import Derived.Test.YtblhmdhfhaencaaEP
namespace Go.Proofs.Ytblhmdhfhaencaa
set_option linter.unusedSimpArgs false
set_option linter.unusedVariables false
set_option linter.unusedSectionVars false
section
theorem getD_range_map {α : Type} (f : Nat → α) (n k : Nat) (z : α) (h : k < n) : ((List.range n).map f).getD k z = f k := by
  simp [List.getD_eq_getElem?_getD, h]
theorem parts_len {ts : List TermD} (hf : fitsB ts = true) : (partsP ts).length + 1 ≤ ts.length := by
  have hP := parts_ok hf
  have hl := (fits_facts hf).2.1.2
  obtain ⟨ms, hp, ho⟩ : ∃ ms : List PartD, ms.Perm (partsP ts) ∧ OrderOK ms := by
    refine ⟨(partsP ts).mergeSort (fun p q => decide (aroundP (partsP ts) p ≤ aroundP (partsP ts) q)), List.mergeSort_perm _ _, ?_⟩
    have hs : ((partsP ts).mergeSort (fun p q => decide (aroundP (partsP ts) p ≤ aroundP (partsP ts) q))).Pairwise (fun a b => decide (aroundP (partsP ts) a ≤ aroundP (partsP ts) b) = true) := by
      refine List.pairwise_mergeSort ?_ ?_ _
      · intro a b c h1 h2
        simp only [decide_eq_true_eq] at *
        omega
      · intro a b
        simp only [Bool.or_eq_true, decide_eq_true_eq]
        omega
    have hp := List.mergeSort_perm (partsP ts) (fun p q => decide (aroundP (partsP ts) p ≤ aroundP (partsP ts) q))
    generalize (partsP ts).mergeSort (fun p q => decide (aroundP (partsP ts) p ≤ aroundP (partsP ts) q)) = ms at *
    intro i j hij hj
    have hi : i < ms.length := by omega
    have h1 := (List.pairwise_iff_getElem.1 hs) i j hi hj hij
    simp only [decide_eq_true_eq] at h1
    rw [around_perm hp, around_perm hp, List.getD_eq_getElem?_getD, List.getD_eq_getElem?_getD, List.getElem?_eq_getElem hi, List.getElem?_eq_getElem hj]
    exact h1
  have hP2 := hP.perm hp.symm
  have := len_tiles hf hP2 (order_ok hl hP2 ho)
  rw [hp.length_eq] at this
  exact this
theorem loops_le {ts : List TermD} (hf : fitsB ts = true) : (loopsP ts 201 (wholeS ts.length)).length ≤ 200 := by
  have h1 := parts_len hf
  have h2 := (fits_facts hf).2.1.2
  rw [partsP, List.length_append] at h1
  omega
theorem loops_canon {ts : List TermD} (hf : fitsB ts = true) : ∀ p ∈ loopsP ts 201 (wholeS ts.length), Canon p.s := by
  have hl := (fits_facts hf).2.1.2
  have F := loopsP_ok hf 201 (wholeS ts.length) (whole_canon hl) (fun y hy => by simpa [wholeS] using hy) (by
    have : (listS (wholeS ts.length)).length ≤ 200 := by
      have := List.length_filter_le (wholeS ts.length) (List.range 200)
      simpa [listS] using this
    omega)
  exact fun p hp y hy => by have := (F.ok p hp).low y hy; omega
theorem parts_listS {ts : List TermD} {qs : List PartD} (hl : ts.length ≤ 200) (P : PartsOK ts qs) : ∀ p ∈ qs, listS p.s ≠ [] ∧ firstP p < 200 ∧ p.s (firstP p) = true ∧ firstP p < ts.length ∧ Canon p.s := by
  intro p hp
  have hc : Canon p.s := fun y hy => by have := P.low p hp y hy; omega
  obtain ⟨y, hy⟩ := P.some p hp
  have h1 := (mem_listS hc y).2 hy
  have h2 : listS p.s ≠ [] := fun e => by rw [e] at h1; cases h1
  have h3 : firstP p ∈ listS p.s := by
    unfold firstP
    cases e : listS p.s with
    | nil => exact absurd e h2
    | cons b r => simp
  have h4 := (mem_listS hc _).1 h3
  have h5 := P.low p hp _ h4
  exact ⟨h2, by omega, h4, h5.2, hc⟩

/-! ### whose own each block is -/
def ownK (n : Nat) (qs : List PartD) (k : Nat) : List Int := (List.range n).map fun x => ((lastP qs x k : Nat) : Int)
def ownKd (n : Nat) (qs : List PartD) (k : Nat) (dn : List Nat) : List Int := (List.range n).map fun x => if dn.contains x then ((k + 1 : Nat) : Int) else ((lastP qs x k : Nat) : Int)
theorem ownK_len (n : Nat) (qs : List PartD) (k : Nat) : (ownK n qs k).length = n := by simp [ownK]
theorem ownKd_len (n : Nat) (qs : List PartD) (k : Nat) (dn : List Nat) : (ownKd n qs k dn).length = n := by simp [ownKd]
theorem ownK_zero (n : Nat) (qs : List PartD) : ownK n qs 0 = List.replicate n 0 := by
  apply List.ext_getElem?
  intro i
  simp only [ownK, lastP, List.getElem?_map, List.getElem?_range', List.getElem?_replicate]
  by_cases h : i < n
  · simp [h]
  · simp [h, Nat.not_lt.1 h]
theorem ownK_at (n : Nat) (qs : List PartD) (k x : Nat) (h : x < n) : (ownK n qs k).getD x 0 = (lastP qs x k : Int) := getD_range_map _ _ _ _ h
theorem ownKd_nil (n : Nat) (qs : List PartD) (k : Nat) : ownKd n qs k [] = ownK n qs k := by simp [ownKd, ownK]
theorem ownKd_snoc (n : Nat) (qs : List PartD) (k : Nat) (dn : List Nat) (x : Nat) (h : x < n) : (ownKd n qs k dn).set x ((k + 1 : Nat) : Int) = ownKd n qs k (dn ++ [x]) := by
  apply List.ext_getElem?
  intro i
  by_cases hi : i < n
  · rw [List.getElem?_set]
    by_cases e : x = i
    · subst e
      simp [ownKd, h]
    · have e' : ¬ i = x := fun h => e h.symm
      simp [ownKd, hi, e, e']
  · simp [ownKd, hi, Nat.not_lt.1 hi]
theorem ownKd_end (n : Nat) (qs : List PartD) (k : Nat) (hc : Canon (qs.getD k zPart).s) : ownKd n qs k (listS (qs.getD k zPart).s) = ownK n qs (k + 1) := by
  unfold ownKd ownK
  apply List.map_congr_left
  intro x _
  simp only [List.contains_eq_mem, mem_listS hc, lastP]
  cases (qs.getD k zPart).s x <;> simp
/-! ### the tiles on the way -/
def tileK (qs : List PartD) (k : Nat) (bs : List Int) : TileD := ⟨(qs.getD k zPart).kind, (lastP qs (firstP (qs.getD k zPart)) k : Nat), bs⟩
/-- the first k tiles behind the root, no blocks yet -/
def tilesK (qs : List PartD) (k : Nat) : List TileD := ⟨1, -1, []⟩ :: (List.range k).map fun i => tileK qs i []
theorem tilesK_len (qs : List PartD) (k : Nat) : (tilesK qs k).length = k + 1 := by simp [tilesK]
theorem tilesK_succ (qs : List PartD) (k : Nat) : tilesK qs (k + 1) = tilesK qs k ++ [tileK qs k []] := by
  simp [tilesK, List.range_succ]
/-- all tiles, with their blocks below j -/
def obJ (qs : List PartD) (j m : Nat) : List Int := intsN ((List.range j).filter fun x => lastP qs x qs.length == m)
def tilesJ (qs : List PartD) (j : Nat) : List TileD := ⟨1, -1, obJ qs j 0⟩ :: (List.range qs.length).map fun i => tileK qs i (obJ qs j (i + 1))
theorem tilesJ_zero (qs : List PartD) : tilesJ qs 0 = tilesK qs qs.length := rfl
theorem tilesJ_end (n : Nat) (qs : List PartD) : tilesJ qs n = tilesP n qs := rfl
theorem tilesJ_len (qs : List PartD) (j : Nat) : (tilesJ qs j).length = qs.length + 1 := by simp [tilesJ]
theorem obJ_succ (qs : List PartD) (j m : Nat) : obJ qs (j + 1) m = obJ qs j m ++ if lastP qs j qs.length = m then [(j : Int)] else [] := by
  unfold obJ intsN
  rw [List.range_succ, List.filter_append, List.map_append]
  congr 1
  by_cases h : lastP qs j qs.length = m <;> simp [h]
theorem tilesJ_at (qs : List PartD) (j k : Nat) (hk : k ≤ qs.length) : (tilesJ qs j)[k]? = some (if k = 0 then ⟨1, -1, obJ qs j 0⟩ else tileK qs (k - 1) (obJ qs j k)) := by
  cases k with
  | zero => rfl
  | succ k =>
    have : k < qs.length := by omega
    simp [tilesJ, this]
theorem tilesJ_succ (qs : List PartD) (j : Nat) (t : TileD) (h : (tilesJ qs j)[lastP qs j qs.length]? = some t) : (tilesJ qs j).set (lastP qs j qs.length) ⟨t.kind, t.parent, t.blocks ++ [(j : Int)]⟩ = tilesJ qs (j + 1) := by
  have hle := lastP_le qs j qs.length
  apply List.ext_getElem?
  intro i
  rw [List.getElem?_set]
  by_cases hi : i ≤ qs.length
  · by_cases e : lastP qs j qs.length = i
    · subst e
      rw [if_pos rfl, if_pos (by rw [tilesJ_len]; omega)]
      rw [tilesJ_at _ _ _ hle] at h
      rw [tilesJ_at _ _ _ hle]
      injection h with h
      subst h
      congr 1
      by_cases h0 : lastP qs j qs.length = 0
      · rw [if_pos h0, if_pos h0, obJ_succ, if_pos h0]
      · rw [if_neg h0, if_neg h0, obJ_succ, if_pos rfl]
        rfl
    · rw [if_neg e, tilesJ_at _ _ _ hi, tilesJ_at _ _ _ hi]
      congr 1
      by_cases h0 : i = 0
      · subst h0
        rw [if_pos rfl, if_pos rfl, obJ_succ, if_neg e, List.append_nil]
      · rw [if_neg h0, if_neg h0, obJ_succ, if_neg e, List.append_nil]
  · have h1 : (tilesJ qs j)[i]? = none := List.getElem?_eq_none (by rw [tilesJ_len]; omega)
    have h2 : (tilesJ qs (j + 1))[i]? = none := List.getElem?_eq_none (by rw [tilesJ_len]; omega)
    rw [h1, h2]
    rw [if_neg (by omega)]
theorem tilesJ_blocks (qs : List PartD) (j k : Nat) (t : TileD) (h : (tilesJ qs j)[k]? = some t) : t.blocks.length ≤ j := by
  have hl : ∀ m, (obJ qs j m).length ≤ j := fun m => by
    have := List.length_filter_le (fun x => lastP qs x qs.length == m) (List.range j)
    rw [List.length_range] at this
    simpa [obJ, intsN] using this
  have hk : k ≤ qs.length := by have := (List.getElem?_eq_some_iff.1 h).1; rw [tilesJ_len] at this; omega
  rw [tilesJ_at _ _ _ hk] at h
  injection h with h
  subst h
  by_cases h0 : k = 0
  · rw [if_pos h0]; exact hl 0
  · rw [if_neg h0]; exact hl k
end

section
theorem right_facts {ts : List TermD} {l : List TileD} (h : rightB ts l = true) : fitsB ts = true ∧ l.length ≤ 200 ∧ parentsB l = true ∧ ownB l ts.length = true ∧ ownF l 0 = 0 ∧ ∀ k, k < l.length → standsB ts.length l k = true ∧ holdsB ts (l.getD k zTile) (setK l k) = true := by
  simp only [rightB, Bool.and_eq_true, decide_eq_true_eq, beq_iff_eq, List.all_eq_true, List.mem_range] at h
  obtain ⟨⟨⟨⟨⟨h1, h2⟩, h3⟩, h4⟩, h5⟩, h6⟩ := h
  exact ⟨h1, h2, h3, h4, h5, h6⟩
theorem stands_all5 {n : Nat} {l : List TileD} {k : Nat} (h : standsB n l k = true) : (k = 0 ↔ (l.getD k zTile).kind = 1) ∧ (k = 0 ↔ (l.getD k zTile).parent = -1) ∧ (l.getD k zTile).blocks ≠ [] ∧ (0 < k → (l.getD (l.getD k zTile).parent.toNat zTile).kind ≠ 3) ∧ risingB n (l.getD k zTile).blocks = true := by
  simp only [standsB, Bool.and_eq_true, Bool.not_eq_true', Bool.or_eq_false_iff] at h
  obtain ⟨⟨⟨⟨h1, h2⟩, h3⟩, h4⟩, h5⟩ := h
  refine ⟨?_, ?_, ?_, ?_, h5⟩
  · have h6 : (k == 0) = ((l.getD k zTile).kind == 1) := by simpa using h1
    rw [Bool.eq_iff_iff] at h6
    simpa using h6
  · have h6 : (k == 0) = ((l.getD k zTile).parent == -1) := by simpa using h2
    rw [Bool.eq_iff_iff] at h6
    simpa using h6
  · intro e
    rw [e] at h3
    simp at h3
  · intro hk e
    rw [e] at h4
    simp [hk] at h4
theorem rising_at {n : Nat} {bs : List Int} (h : risingB n bs = true) {i : Nat} (hi : i < bs.length) : 0 ≤ bs.getD i 0 ∧ bs.getD i 0 < n := by
  simp only [risingB, List.all_eq_true, List.mem_range, Bool.and_eq_true, decide_eq_true_eq] at h
  exact (h i hi).1
theorem rising_mem {n : Nat} {bs : List Int} (h : risingB n bs = true) {x : Int} (hx : x ∈ bs) : 0 ≤ x ∧ x < n := by
  obtain ⟨i, hi, rfl⟩ := List.mem_iff_getElem.1 hx
  have := rising_at h hi
  rwa [List.getD_eq_getElem?_getD, List.getElem?_eq_getElem hi] at this
theorem rising_lt {n : Nat} {bs : List Int} (h : risingB n bs = true) {i : Nat} (h1 : 1 ≤ i) (hi : i < bs.length) : bs.getD (i - 1) 0 < bs.getD i 0 := by
  simp only [risingB, List.all_eq_true, List.mem_range, Bool.and_eq_true, decide_eq_true_eq, Bool.or_eq_true, beq_iff_eq] at h
  rcases (h i hi).2 with h | h
  · omega
  · exact h
theorem rising_two {n : Nat} {bs : List Int} (h : risingB n bs = true) : ∀ (d i : Nat), i + d + 1 < bs.length → bs.getD i 0 < bs.getD (i + d + 1) 0
  | 0, i, hi => by have := rising_lt h (i := i + 1) (by omega) hi; simpa using this
  | d + 1, i, hi => by
    have h1 := rising_two h d i (by omega)
    have h2 := rising_lt h (i := i + d + 2) (by omega) (by omega)
    have e : i + d + 2 - 1 = i + d + 1 := by omega
    rw [e] at h2
    have e2 : i + (d + 1) + 1 = i + d + 2 := by omega
    rw [e2]
    omega
theorem desc_root {ts : List TermD} {l : List TileD} (h : rightB ts l = true) : ∀ n, n < l.length → descB l 0 n = true := by
  obtain ⟨_, _, hp, _, _, hs⟩ := right_facts h
  intro n
  induction n using Nat.strongRecOn with
  | _ n ih =>
    intro hn
    rw [descB_eq hp 0 n hn]
    by_cases h0 : n = 0
    · subst h0; rfl
    · have h1 := (parentsB_iff l).1 hp n hn
      have h2 := (stands_all5 (hs n hn).1).2.1
      have h3 : parL l n ≠ -1 := fun e => h0 (h2.2 e)
      have h4 : 0 ≤ parL l n := by omega
      rw [ih _ (by omega) (by omega)]
      simp [h4]
theorem own_lt2 {l : List TileD} {n b : Nat} (h : ownB l n = true) (hb : b < n) : ownF l b < l.length ∧ (b : Int) ∈ blkL l (ownF l b) := (own_iff h hb _).2 rfl
theorem own_has {l : List TileD} {n b k : Nat} (h : ownB l n = true) (hb : b < n) (hk : k < l.length) : (blkL l k).contains (b : Int) = (((ownF l b : Nat) : Int) == (k : Int)) := by
  rw [Bool.eq_iff_iff, List.contains_iff_mem]
  constructor
  · intro hm
    have := (own_iff h hb k).1 ⟨hk, hm⟩
    simp [this]
  · intro e
    have e2 : ownF l b = k := by have e3 : ((ownF l b : Nat) : Int) = (k : Int) := (by simpa using e); omega
    exact ((own_iff h hb k).2 e2).2
theorem all_root {ts : List TermD} {l : List TileD} (h : rightB ts l = true) : allL l 0 = (List.range ts.length).map Int.ofNat := by
  have hr := right_facts h
  obtain ⟨hf, _, hp, ho, h0, hs⟩ := hr
  have hn1 := (fits_facts hf).2.1.1
  have hlen : 0 < l.length := by have := (own_lt2 ho (b := 0) (by omega)).1; omega
  refine sorted_eq _ _ ?_ ?_ ?_
  · have : allL l (0 : Int) = sortD (rawL l 0 l.length) := by unfold allL; rw [if_pos ⟨by omega, by omega, hp⟩]; rfl
    rw [this]
    exact sorted_sortD _
  · rw [List.pairwise_map]
    refine List.Pairwise.imp ?_ (List.pairwise_lt_range (n := ts.length))
    intro a b hab
    simpa using hab
  · intro x
    have hm := mem_allL l 0 hlen hp x
    refine Iff.trans hm ?_
    constructor
    · rintro ⟨k, hk, _, hx⟩
      have := rising_mem (stands_all5 (hs k hk).1).2.2.2.2 hx
      rw [List.mem_map]
      exact ⟨x.toNat, List.mem_range.2 (by omega), by simp; omega⟩
    · intro hx
      obtain ⟨b, hb, rfl⟩ := List.mem_map.1 hx
      have := own_lt2 ho (List.mem_range.1 hb)
      exact ⟨ownF l b, this.1, desc_root h _ this.1, this.2⟩
theorem par_lt {ts : List TermD} {l : List TileD} (h : rightB ts l = true) {k : Nat} (h1 : 1 ≤ k) (hk : k < l.length) : 0 ≤ parL l k ∧ parL l k < k := by
  obtain ⟨_, _, hp, _, _, hs⟩ := right_facts h
  have h3 := (parentsB_iff l).1 hp k hk
  have h2 := (stands_all5 (hs k hk).1).2.1
  have h4 : parL l k ≠ -1 := fun e => by have := h2.2 e; omega
  omega
theorem all_sub {ts : List TermD} {l : List TileD} (h : rightB ts l = true) {k : Nat} (h1 : 1 ≤ k) (hk : k < l.length) {x : Int} (hx : x ∈ allL l (k : Int)) : x ∈ allL l (parL l k) := by
  have hp := (right_facts h).2.2.1
  have hq := par_lt h h1 hk
  obtain ⟨q, hq2⟩ : ∃ q : Nat, parL l k = q := ⟨(parL l k).toNat, by omega⟩
  rw [hq2] at hq ⊢
  rw [mem_allL l q (by omega) hp]
  obtain ⟨n, hn, hd, hb⟩ := (mem_allL l k hk hp x).1 hx
  refine ⟨n, hn, descB_trans hp q k ?_ n hn hd, hb⟩
  rw [descB_eq hp q k hk, hq2]
  simp [descB_self]
/-! ### how many homes -/
def cntH (l : List TileD) (b : Nat) : Nat := (l.map fun t => t.blocks.countP fun x => x == (b : Int)).sum
theorem homes_cnt (l : List TileD) (b : Nat) : (homes l b).length = cntH l b := by
  have key : ∀ (m : Nat) (l : List TileD), ((List.range l.length).flatMap fun k => ((blkL l k).filter fun x => x == (b : Int)).map fun _ => k + m).length = cntH l b := by
    intro m l
    induction l generalizing m with
    | nil => rfl
    | cons t l ih =>
      rw [List.length_cons, List.range_succ_eq_map, List.flatMap_cons, List.length_append, List.flatMap_map]
      have := ih (m + 1)
      have e : ((List.range l.length).flatMap fun k => ((blkL (t :: l) (k + 1)).filter fun x => x == (b : Int)).map fun _ => k + 1 + m).length = cntH l b := by
        rw [← this]
        congr 2
        funext k
        rw [show k + 1 + m = k + (m + 1) by omega]
        rfl
      simp only [Nat.succ_eq_add_one] at e ⊢
      rw [e, cntH, cntH, List.map_cons, List.sum_cons, List.length_map, List.countP_eq_length_filter]
      rfl
  have := key 0 l
  simpa [homes] using this
theorem sum_set : ∀ (L : List Nat) (k v : Nat), k < L.length → (L.set k v).sum + L.getD k 0 = L.sum + v
  | x :: L, 0, v, _ => by simp; omega
  | x :: L, k + 1, v, h => by
    have := sum_set L k v (by simpa using h)
    simp only [List.set_cons_succ, List.sum_cons, List.getD_cons_succ] at *
    omega
theorem turn_not {ts : List TermD} {l : List TileD} (h : rightB ts l = true) {k : Nat} (hk : k < l.length) {t' : TileD} {b : Nat} (hb : b < ts.length) (hc : t'.blocks.countP (fun x => x == (b : Int)) ≠ (blkL l k).countP fun x => x == (b : Int)) : rightB ts (l.set k t') = false := by
  have ho := (right_facts h).2.2.2.1
  have h1 : (homes l b).length = 1 := by rw [own_home ho hb]; rfl
  have h2 : (homes (l.set k t') b).length ≠ 1 := by
    rw [homes_cnt] at h1 ⊢
    unfold cntH at *
    rw [List.map_set]
    have := sum_set (l.map fun t => t.blocks.countP fun x => x == (b : Int)) k (t'.blocks.countP fun x => x == (b : Int)) (by simpa using hk)
    have e : (l.map fun t => t.blocks.countP fun x => x == (b : Int)).getD k 0 = (blkL l k).countP fun x => x == (b : Int) := by simp [blkL, List.getD_eq_getElem?_getD, hk]
    rw [e] at this
    omega
  cases hr : rightB ts (l.set k t') with
  | false => rfl
  | true =>
    have h3 := (right_facts hr).2.2.2.1
    exact absurd (by rw [own_home h3 hb]; rfl) h2
theorem less_not {ts : List TermD} {l : List TileD} (h : rightB ts l = true) {k : Nat} (hk : k < l.length) {t' : TileD} (ht : t'.blocks = (blkL l k).drop 1) : rightB ts (l.set k t') = false := by
  have hs := stands_all5 ((right_facts h).2.2.2.2.2 k hk).1
  cases e : blkL l k with
  | nil => exact absurd e hs.2.2.1
  | cons x r =>
    have hx := rising_mem hs.2.2.2.2 (x := x) (by rw [show (l.getD k zTile).blocks = x :: r from e]; simp)
    refine turn_not h hk (b := x.toNat) (by omega) ?_
    have e2 : ((x.toNat : Nat) : Int) = x := by omega
    rw [ht, e, e2, List.countP_cons_of_pos (by simp)]
    simp
theorem twice_not {ts : List TermD} {l : List TileD} (h : rightB ts l = true) {k : Nat} (hk : k < l.length) {t' : TileD} (ht : t'.blocks = blkL l k ++ [(blkL l k).getD 0 0]) : rightB ts (l.set k t') = false := by
  have hs := stands_all5 ((right_facts h).2.2.2.2.2 k hk).1
  cases e : blkL l k with
  | nil => exact absurd e hs.2.2.1
  | cons x r =>
    have hx := rising_mem hs.2.2.2.2 (x := x) (by rw [show (l.getD k zTile).blocks = x :: r from e]; simp)
    refine turn_not h hk (b := x.toNat) (by omega) ?_
    have e2 : ((x.toNat : Nat) : Int) = x := by omega
    rw [ht, e, e2, List.countP_append]
    simp
theorem blocks_some {ts : List TermD} {l : List TileD} (h : rightB ts l = true) {k : Nat} (hk : k < l.length) : 1 ≤ (blkL l k).length := by
  have hs := (stands_all5 ((right_facts h).2.2.2.2.2 k hk).1).2.2.1
  cases e : blkL l k with
  | nil => exact absurd e hs
  | cons x r => simp
end

section
section
variable {α : Type} (z : α) (key : α → Nat)
def swapL (L : List α) (i j : Nat) : List α := (L.set i (L.getD j z)).set j (L.getD i z)
theorem getD_set (L : List α) (i : Nat) (x : α) (k : Nat) (hi : i < L.length) : (L.set i x).getD k z = if k = i then x else L.getD k z := by
  rw [List.getD_eq_getElem?_getD, List.getElem?_set, List.getD_eq_getElem?_getD]
  by_cases e : i = k
  · subst e; simp [hi]
  · rw [if_neg e, if_neg (fun h => e h.symm)]
theorem swapL_len (L : List α) (i j : Nat) : (swapL z L i j).length = L.length := by simp [swapL]
theorem swapL_at (L : List α) {i j : Nat} (hi : i < L.length) (hj : j < L.length) (k : Nat) : (swapL z L i j).getD k z = if k = j then L.getD i z else if k = i then L.getD j z else L.getD k z := by
  rw [swapL, getD_set z _ j _ k (by simpa using hj), getD_set z _ i _ k hi]
theorem swap_perm1 (A B C : List α) (x y : α) : (A ++ y :: (B ++ x :: C)).Perm (A ++ x :: (B ++ y :: C)) := by
  refine List.Perm.append_left A ?_
  have h1 : (y :: (B ++ x :: C)).Perm (x :: (y :: (B ++ C))) := ((List.perm_middle (a := x) (l₁ := B) (l₂ := C)).cons y).trans (List.Perm.swap x y _)
  exact h1.trans ((List.perm_middle (a := y) (l₁ := B) (l₂ := C)).symm.cons x)
theorem swapL_perm_lt (L : List α) {i j : Nat} (hij : i < j) (hj : j < L.length) : (swapL z L i j).Perm L ∧ (swapL z L j i).Perm L := by
  obtain ⟨A, x, L1, rfl, hA⟩ : ∃ A x L1, L = A ++ x :: L1 ∧ A.length = i := ⟨L.take i, L[i]'(by omega), L.drop (i + 1), by rw [← List.drop_eq_getElem_cons, List.take_append_drop], by simp; omega⟩
  obtain ⟨B, y, C, rfl, hB⟩ : ∃ B y C, L1 = B ++ y :: C ∧ B.length = j - i - 1 := by
    have hl : j - i - 1 < L1.length := by simp at hj; omega
    exact ⟨L1.take (j - i - 1), L1[j - i - 1]'hl, L1.drop (j - i - 1 + 1), by rw [← List.drop_eq_getElem_cons, List.take_append_drop], by simp; omega⟩
  have ei : (A ++ x :: (B ++ y :: C)).getD i z = x := by rw [← hA]; simp [List.getD_eq_getElem?_getD]
  have ej : (A ++ x :: (B ++ y :: C)).getD j z = y := by
    have : j = A.length + (B.length + 1) := by omega
    rw [this]; simp [List.getD_eq_getElem?_getD]
  have e1 : swapL z (A ++ x :: (B ++ y :: C)) i j = A ++ y :: (B ++ x :: C) := by
    rw [swapL, ei, ej]
    have h1 : (A ++ x :: (B ++ y :: C)).set i y = A ++ y :: (B ++ y :: C) := by rw [← hA]; simp
    have h2 : j = A.length + (B.length + 1) := by omega
    rw [h1, h2]
    simp
  have e2 : swapL z (A ++ x :: (B ++ y :: C)) j i = A ++ y :: (B ++ x :: C) := by
    rw [swapL, ei, ej]
    have h2 : j = A.length + (B.length + 1) := by omega
    have h1 : (A ++ x :: (B ++ y :: C)).set j x = A ++ x :: (B ++ x :: C) := by rw [h2]; simp
    rw [h1, ← hA]
    simp
  rw [e1, e2]
  exact ⟨swap_perm1 A B C x y, swap_perm1 A B C x y⟩
theorem swapL_perm (L : List α) {i j : Nat} (hi : i < L.length) (hj : j < L.length) : (swapL z L i j).Perm L := by
  rcases Nat.lt_trichotomy i j with h | h | h
  · exact (swapL_perm_lt z L h hj).1
  · subst h
    have : swapL z L i i = L := by
      rw [swapL, List.set_set]
      apply List.ext_getElem?
      intro k
      rw [List.getElem?_set]
      by_cases e : i = k
      · subst e; simp [List.getD_eq_getElem?_getD, hi]
      · rw [if_neg e]
    rw [this]
  · exact (swapL_perm_lt z L h hi).2

/-- shuffled within [a, b) -/
structure Sh (L L' : List α) (a b : Nat) : Prop where
  len : L'.length = L.length
  perm : L'.Perm L
  out : ∀ k, k < a ∨ b ≤ k → L'.getD k z = L.getD k z
  inn : ∀ k, a ≤ k → k < b → ∃ k', a ≤ k' ∧ k' < b ∧ L'.getD k z = L.getD k' z
variable {z}
theorem Sh.refl (L : List α) (a b : Nat) : Sh z L L a b := ⟨rfl, List.Perm.refl _, fun _ _ => rfl, fun k h1 h2 => ⟨k, h1, h2, rfl⟩⟩
theorem Sh.trans {L1 L2 L3 : List α} {a b : Nat} (h : Sh z L1 L2 a b) (k : Sh z L2 L3 a b) : Sh z L1 L3 a b where
  len := k.len.trans h.len
  perm := k.perm.trans h.perm
  out := fun j hj => (k.out j hj).trans (h.out j hj)
  inn := fun j h1 h2 => by
    obtain ⟨j', h3, h4, e⟩ := k.inn j h1 h2
    obtain ⟨j'', h5, h6, e2⟩ := h.inn j' h3 h4
    exact ⟨j'', h5, h6, e.trans e2⟩
theorem Sh.mono {L L' : List α} {a b a' b' : Nat} (h : Sh z L L' a b) (ha : a' ≤ a) (hb : b ≤ b') : Sh z L L' a' b' where
  len := h.len
  perm := h.perm
  out := fun k hk => h.out k (by omega)
  inn := fun k h1 h2 => by
    by_cases hk : a ≤ k ∧ k < b
    · obtain ⟨k', h3, h4, e⟩ := h.inn k hk.1 hk.2
      exact ⟨k', by omega, by omega, e⟩
    · exact ⟨k, h1, h2, h.out k (by omega)⟩
theorem Sh.swap (L : List α) {i j a b : Nat} (hi : a ≤ i ∧ i < b) (hj : a ≤ j ∧ j < b) (hb : b ≤ L.length) : Sh z L (swapL z L i j) a b where
  len := swapL_len z L i j
  perm := swapL_perm z L (by omega) (by omega)
  out := fun k hk => by rw [swapL_at z L (by omega) (by omega), if_neg (by omega), if_neg (by omega)]
  inn := fun k h1 h2 => by
    rw [swapL_at z L (by omega) (by omega)]
    by_cases e : k = j
    · exact ⟨i, hi.1, hi.2, by rw [if_pos e]⟩
    · by_cases e2 : k = i
      · exact ⟨j, hj.1, hj.2, by rw [if_neg e, if_pos e2]⟩
      · exact ⟨k, h1, h2, by rw [if_neg e, if_neg e2]⟩
abbrev kAt (z : α) (key : α → Nat) (L : List α) (k : Nat) : Nat := key (L.getD k z)
/-- sorted in [a, b) -/
def Srt (z : α) (key : α → Nat) (L : List α) (a b : Nat) : Prop := ∀ i j, a ≤ i → i < j → j < b → kAt z key L i ≤ kAt z key L j
theorem Srt.le {L : List α} {a b : Nat} (h : Srt z key L a b) {i j : Nat} (ha : a ≤ i) (hij : i ≤ j) (hb : j < b) : kAt z key L i ≤ kAt z key L j := by
  rcases Nat.lt_or_eq_of_le hij with h1 | h1
  · exact h i j ha h1 hb
  · subst h1; exact Nat.le_refl _
theorem Srt.one (L : List α) {a b : Nat} (h : b ≤ a + 1) : Srt z key L a b := fun i j _ _ _ => by omega
theorem Srt.sub {L : List α} {a b a' b' : Nat} (h : Srt z key L a b) (ha : a ≤ a') (hb : b' ≤ b) : Srt z key L a' b' := fun i j h1 h2 h3 => h i j (by omega) h2 (by omega)
theorem Srt.out {L L' : List α} {a b c d : Nat} (h : Srt z key L c d) (hs : Sh z L L' a b) (hd : d ≤ a ∨ b ≤ c) : Srt z key L' c d := fun i j h1 h2 h3 => by
  rw [kAt, kAt, hs.out i (by omega), hs.out j (by omega)]
  exact h i j h1 h2 h3

/-! ### insertion -/
/-- all of [a, i] sorted but for the one at j, which goes down -/
structure InsJ (z : α) (key : α → Nat) (L : List α) (a i j : Nat) : Prop where
  low : a ≤ j ∧ j ≤ i
  rest : ∀ x y, a ≤ x → x < y → y ≤ i → x ≠ j → y ≠ j → kAt z key L x ≤ kAt z key L y
  up : ∀ y, j < y → y ≤ i → kAt z key L j ≤ kAt z key L y
theorem InsJ.start {L : List α} {a i : Nat} (h : Srt z key L a i) (ha : a ≤ i) : InsJ z key L a i i := ⟨⟨ha, Nat.le_refl _⟩, fun x y h1 h2 h3 _ h5 => h x y h1 h2 (by omega), fun y h1 h2 => by omega⟩
theorem InsJ.step {L : List α} {a i j : Nat} (h : InsJ z key L a i j) (hj : a < j) (hi : i < L.length) (hc : kAt z key L j ≤ kAt z key L (j - 1)) : InsJ z key (swapL z L j (j - 1)) a i (j - 1) := by
  obtain ⟨⟨h1, h2⟩, h3, h4⟩ := h
  have hat := swapL_at z L (i := j) (j := j - 1) (by omega) (by omega)
  refine ⟨⟨by omega, by omega⟩, fun x y hx hxy hy hxj hyj => ?_, fun y hy1 hy2 => ?_⟩
  · simp only [kAt, hat]
    rw [if_neg hxj, if_neg hyj]
    by_cases ex : x = j
    · rw [if_pos ex, if_neg (by omega)]
      exact h3 (j - 1) y (by omega) (by omega) hy (by omega) (by omega)
    · rw [if_neg ex]
      by_cases ey : y = j
      · rw [if_pos ey]
        exact h3 x (j - 1) hx (by omega) (by omega) ex (by omega)
      · rw [if_neg ey]
        exact h3 x y hx hxy hy ex ey
  · simp only [kAt, hat]
    rw [if_pos True.intro, if_neg (by omega)]
    by_cases ey : y = j
    · rw [if_pos ey]; exact hc
    · rw [if_neg ey]; exact h4 y (by omega) hy2
theorem InsJ.fin {L : List α} {a i j : Nat} (h : InsJ z key L a i j) (hc : j = a ∨ kAt z key L (j - 1) ≤ kAt z key L j) : Srt z key L a (i + 1) := by
  obtain ⟨⟨h1, h2⟩, h3, h4⟩ := h
  intro x y hx hxy hy
  by_cases ex : x = j
  · subst ex; exact h4 y hxy (by omega)
  · by_cases ey : y = j
    · subst ey
      have hc2 := hc.resolve_left (by omega)
      by_cases e : x = y - 1
      · subst e; exact hc2
      · exact Nat.le_trans (h3 x (y - 1) hx (by omega) (by omega) ex (by omega)) hc2
    · exact h3 x y hx hxy (by omega) ex ey
end

/-! ### rotation -/
section
variable {β : Type}
def swapR (f : Nat → β) (a b n : Nat) (k : Nat) : β := if a ≤ k ∧ k < a + n then f (k + (b - a)) else if b ≤ k ∧ k < b + n then f (k - (b - a)) else f k
def rotR (f : Nat → β) (a m b : Nat) (k : Nat) : β := if a ≤ k ∧ k < a + (b - m) then f (k + (m - a)) else if a + (b - m) ≤ k ∧ k < b then f (k - (b - m)) else f k
theorem rot_step1 (f : Nat → β) {m i j : Nat} (hi : i ≤ m) (hij : j < i) : rotR (swapR f (m - i) m j) (m - (i - j)) m (m + j) = rotR f (m - i) m (m + j) := by
  obtain ⟨p, rfl⟩ : ∃ p, m = p + i := ⟨m - i, by omega⟩
  obtain ⟨d, rfl⟩ : ∃ d, i = j + d := ⟨i - j, by omega⟩
  have e1 : p + (j + d) - (j + d) = p := by omega
  have e2 : p + (j + d) - (j + d - j) = p + j := by omega
  have e3 : p + (j + d) + j - (p + (j + d)) = j := by omega
  have e4 : p + (j + d) - p = j + d := by omega
  have e5 : p + (j + d) - (p + j) = d := by omega
  funext k
  simp only [rotR, swapR, e1, e2, e3, e4, e5]
  repeat' split
  all_goals first
    | omega
    | rfl
    | (congr 1 <;> omega)
theorem rot_step2 (f : Nat → β) {m i j : Nat} (hi : i ≤ m) (hij : i < j) : rotR (swapR f (m - i) (m + j - i) i) (m - i) m (m + (j - i)) = rotR f (m - i) m (m + j) := by
  obtain ⟨p, rfl⟩ : ∃ p, m = p + i := ⟨m - i, by omega⟩
  obtain ⟨d, rfl⟩ : ∃ d, j = i + d := ⟨j - i, by omega⟩
  have e1 : p + i - i = p := by omega
  have e2 : p + i + (i + d) - i = p + i + d := by omega
  have e3 : p + i + (i + d - i) = p + i + d := by omega
  have e4 : p + i + d - (p + i) = d := by omega
  have e5 : p + i - p = i := by omega
  have e6 : p + i + (i + d) - (p + i) = i + d := by omega
  have e7 : p + i + d - p = i + d := by omega
  funext k
  simp only [rotR, swapR, e1, e2, e3, e4, e5, e6, e7]
  repeat' split
  all_goals first
    | omega
    | rfl
    | (congr 1 <;> omega)
theorem rot_last (f : Nat → β) {m i : Nat} (hi : i ≤ m) : swapR f (m - i) m i = rotR f (m - i) m (m + i) := by
  obtain ⟨p, rfl⟩ : ∃ p, m = p + i := ⟨m - i, by omega⟩
  have e1 : p + i - i = p := by omega
  have e2 : p + i + i - (p + i) = i := by omega
  have e3 : p + i - p = i := by omega
  funext k
  simp only [rotR, swapR, e1, e2, e3]
  repeat' split
  all_goals first
    | omega
    | rfl
    | (congr 1 <;> omega)
theorem swapR_step (f : Nat → β) (a b n : Nat) (hab : a + n < b) (k : Nat) : (if k = b + n then swapR f a b n (a + n) else if k = a + n then swapR f a b n (b + n) else swapR f a b n k) = swapR f a b (n + 1) k := by
  simp only [swapR]
  repeat' split
  all_goals first
    | omega
    | rfl
    | (congr 1 <;> omega)
theorem swapR_zero (f : Nat → β) (a b : Nat) (k : Nat) : swapR f a b 0 k = f k := by
  simp only [swapR]
  repeat' split
  all_goals first
    | omega
    | rfl
    | (congr 1 <;> omega)
end

/-! ### SymMerge -/
section
variable {α : Type} {z : α} {key : α → Nat}
/-- what the search finds -/
structure Found (z : α) (key : α → Nat) (L : List α) (a m b st : Nat) : Prop where
  low : a ≤ st ∧ st ≤ m ∧ st ≤ (a + b) / 2
  high : m ≤ (a + b) / 2 + m - st ∧ (a + b) / 2 + m - st ≤ b
  one : ∀ x y, a ≤ x → x < st → (a + b) / 2 + m - st ≤ y → y < b → kAt z key L x ≤ kAt z key L y
  two : ∀ x y, m ≤ x → x < (a + b) / 2 + m - st → st ≤ y → y < m → kAt z key L x ≤ kAt z key L y
def s0 (a m b : Nat) : Nat := if (a + b) / 2 < m then (a + b) / 2 + m - b else a
def r0 (a m b : Nat) : Nat := if (a + b) / 2 < m then (a + b) / 2 else m
theorem found_bounds {a m b : Nat} (ham : a < m) (hmb : m < b) : a ≤ s0 a m b ∧ s0 a m b ≤ r0 a m b ∧ r0 a m b ≤ m ∧ (∀ c, s0 a m b ≤ c → c < r0 a m b → m ≤ (a + b) / 2 + m - 1 - c ∧ (a + b) / 2 + m - 1 - c < b ∧ c < m) := by
  unfold s0 r0
  split
  all_goals refine ⟨by omega, by omega, by omega, fun c h1 h2 => ⟨by omega, by omega, by omega⟩⟩
theorem found_of {L : List α} {a m b st : Nat} (ham : a < m) (hmb : m < b) (h1 : Srt z key L a m) (h2 : Srt z key L m b) (hlo : s0 a m b ≤ st) (hhi : st ≤ r0 a m b)
    (hl : st = s0 a m b ∨ kAt z key L (st - 1) ≤ kAt z key L ((a + b) / 2 + m - 1 - (st - 1))) (hr : st = r0 a m b ∨ kAt z key L ((a + b) / 2 + m - 1 - st) ≤ kAt z key L st) : Found z key L a m b st := by
  have hb := found_bounds ham hmb
  obtain ⟨b1, b2, b3, b4⟩ := hb
  have hs : a ≤ st ∧ st ≤ m ∧ st ≤ (a + b) / 2 := by
    unfold s0 at hlo; unfold r0 at hhi
    split at hlo <;> (first | (rw [if_pos (by assumption)] at hhi) | (rw [if_neg (by assumption)] at hhi)) <;> omega
  have hs2 : m ≤ (a + b) / 2 + m - st ∧ (a + b) / 2 + m - st ≤ b := by
    unfold s0 at hlo; unfold r0 at hhi
    split at hlo <;> (first | (rw [if_pos (by assumption)] at hhi) | (rw [if_neg (by assumption)] at hhi)) <;> omega
  refine ⟨hs, hs2, fun x y hx1 hx2 hy1 hy2 => ?_, fun x y hx1 hx2 hy1 hy2 => ?_⟩
  · rcases hl with hl | hl
    · exfalso
      rw [hl] at hx2 hy1
      unfold s0 at hx2 hy1
      split at hx2 <;> (first | (rw [if_pos (by assumption)] at hy1) | (rw [if_neg (by assumption)] at hy1)) <;> omega
    · have e : (a + b) / 2 + m - 1 - (st - 1) = (a + b) / 2 + m - st := by omega
      rw [e] at hl
      exact Nat.le_trans (h1.le key hx1 (by omega) (by omega)) (Nat.le_trans hl (h2.le key (by omega) hy1 hy2))
  · rcases hr with hr | hr
    · exfalso
      rw [hr] at hx2 hy1
      unfold r0 at hx2 hy1
      split at hx2 <;> (first | (rw [if_pos (by assumption)] at hy1) | (rw [if_neg (by assumption)] at hy1)) <;> omega
    · have e : (a + b) / 2 + m - 1 - st = (a + b) / 2 + m - st - 1 := by omega
      rw [e] at hr
      exact Nat.le_trans (h2.le key hx1 (by omega) (by omega)) (Nat.le_trans hr (h1.le key (by omega) hy1 hy2))
/-- what holds behind the rotation -/
structure MidJ (z : α) (key : α → Nat) (L : List α) (a st mid en b : Nat) : Prop where
  s1 : Srt z key L a st
  s2 : Srt z key L st mid
  s3 : Srt z key L mid en
  s4 : Srt z key L en b
  cross : ∀ x y, a ≤ x → x < mid → mid ≤ y → y < b → kAt z key L x ≤ kAt z key L y
theorem mid_of {L L' : List α} {a m b st : Nat} (h1 : Srt z key L a m) (h2 : Srt z key L m b) (hf : Found z key L a m b st) (hr : ∀ k, L'.getD k z = rotR (fun k => L.getD k z) st m ((a + b) / 2 + m - st) k) :
    MidJ z key L' a st ((a + b) / 2) ((a + b) / 2 + m - st) b := by
  obtain ⟨⟨f1, f2, f5⟩, ⟨f3, f4⟩, g1, g2⟩ := hf
  generalize hmid : (a + b) / 2 = mid at *
  have e1 : ∀ k, k < st → L'.getD k z = L.getD k z := fun k hk => by rw [hr]; unfold rotR; rw [if_neg (by omega), if_neg (by omega)]
  have e2 : ∀ k, st ≤ k → k < mid → L'.getD k z = L.getD (k + (m - st)) z := fun k hk hk2 => by rw [hr]; unfold rotR; rw [if_pos (by omega)]
  have e3 : ∀ k, mid ≤ k → k < mid + m - st → L'.getD k z = L.getD (k - (mid - st)) z := fun k hk hk2 => by
    rw [hr]; unfold rotR; rw [if_neg (by omega), if_pos (by omega)]
    congr 1; omega
  have e4 : ∀ k, mid + m - st ≤ k → L'.getD k z = L.getD k z := fun k hk => by rw [hr]; unfold rotR; rw [if_neg (by omega), if_neg (by omega)]
  refine ⟨fun i j hi hij hj => ?_, fun i j hi hij hj => ?_, fun i j hi hij hj => ?_, fun i j hi hij hj => ?_, fun x y hx1 hx2 hy1 hy2 => ?_⟩
  · rw [kAt, kAt, e1 i (by omega), e1 j hj]; exact h1 i j hi hij (by omega)
  · rw [kAt, kAt, e2 i hi (by omega), e2 j (by omega) hj]; exact h2 _ _ (by omega) (by omega) (by omega)
  · rw [kAt, kAt, e3 i hi (by omega), e3 j (by omega) hj]; exact h1 _ _ (by omega) (by omega) (by omega)
  · rw [kAt, kAt, e4 i hi, e4 j (by omega)]; exact h2 i j (by omega) hij hj
  · by_cases hx : x < st
    · by_cases hy : y < mid + m - st
      · rw [kAt, kAt, e1 x hx, e3 y hy1 hy]; exact h1 _ _ hx1 (by omega) (by omega)
      · rw [kAt, kAt, e1 x hx, e4 y (by omega)]; exact g1 x y hx1 hx (by omega) hy2
    · by_cases hy : y < mid + m - st
      · rw [kAt, kAt, e2 x (by omega) hx2, e3 y hy1 hy]; exact g2 _ _ (by omega) (by omega) (by omega) (by omega)
      · rw [kAt, kAt, e2 x (by omega) hx2, e4 y (by omega)]; exact h2 _ _ (by omega) (by omega) hy2
/-- both halves sorted, all of the first at most all of the second: sorted -/
theorem Srt.join {L L1 L2 : List α} {a mid b : Nat} (hc : ∀ x y, a ≤ x → x < mid → mid ≤ y → y < b → kAt z key L x ≤ kAt z key L y) (hs1 : Sh z L L1 a mid) (hs2 : Sh z L1 L2 mid b) (h1 : Srt z key L1 a mid) (h2 : Srt z key L2 mid b) : Srt z key L2 a b := by
  intro i j hi hij hj
  by_cases hj2 : j < mid
  · rw [kAt, kAt, hs2.out i (by omega), hs2.out j (by omega)]; exact h1 i j hi hij hj2
  · by_cases hi2 : mid ≤ i
    · exact h2 i j hi2 hij hj
    · obtain ⟨j', h3, h4, e⟩ := hs2.inn j (by omega) hj
      obtain ⟨i', h5, h6, e2⟩ := hs1.inn i hi (by omega)
      rw [kAt, kAt, hs2.out i (by omega), e, e2, hs1.out j' (by omega)]
      exact hc i' j' h5 h6 h3 h4
end
/-! ### one put into a run -/
section
variable {β : Type}
theorem bub_zero (f : Nat → β) (a k : Nat) : rotR f a (a + 1) (a + 1) k = f k := by
  simp only [rotR]
  repeat' split
  all_goals first
    | omega
    | rfl
    | (congr 1 <;> omega)
theorem bub_up (f : Nat → β) {a k : Nat} (h : a ≤ k) (x : Nat) : (if x = k + 1 then rotR f a (a + 1) (k + 1) k else if x = k then rotR f a (a + 1) (k + 1) (k + 1) else rotR f a (a + 1) (k + 1) x) = rotR f a (a + 1) (k + 1 + 1) x := by
  simp only [rotR]
  repeat' split
  all_goals first
    | omega
    | rfl
    | (congr 1 <;> omega)
theorem bub_zero2 (f : Nat → β) (m k : Nat) : rotR f m m (m + 1) k = f k := by
  simp only [rotR]
  repeat' split
  all_goals first
    | omega
    | rfl
    | (congr 1 <;> omega)
theorem bub_down (f : Nat → β) {m k : Nat} (h : k + 1 ≤ m) (x : Nat) : (if x = k then rotR f (k + 1) m (m + 1) (k + 1) else if x = k + 1 then rotR f (k + 1) m (m + 1) k else rotR f (k + 1) m (m + 1) x) = rotR f k m (m + 1) x := by
  simp only [rotR]
  repeat' split
  all_goals first
    | omega
    | rfl
    | (congr 1 <;> omega)
end
section
variable {α : Type} {z : α} {key : α → Nat}
theorem put_left {L L' : List α} {a b i : Nat} (h2 : Srt z key L (a + 1) b) (hi : a + 1 ≤ i) (hib : i ≤ b) (hl : i = a + 1 ∨ kAt z key L (i - 1) ≤ kAt z key L a) (hr : i = b ∨ kAt z key L a ≤ kAt z key L i)
    (he : ∀ k, L'.getD k z = rotR (fun k => L.getD k z) a (a + 1) i k) : Srt z key L' a b := by
  have e1 : ∀ k, a ≤ k → k < i - 1 → L'.getD k z = L.getD (k + 1) z := fun k h1 h2 => by
    rw [he]; unfold rotR; rw [if_pos (by omega)]; congr 1; omega
  have e2 : L'.getD (i - 1) z = L.getD a z := by
    rw [he]; unfold rotR; rw [if_neg (by omega), if_pos (by omega)]; congr 1; omega
  have e3 : ∀ k, i ≤ k → L'.getD k z = L.getD k z := fun k h1 => by
    rw [he]; unfold rotR; rw [if_neg (by omega), if_neg (by omega)]
  intro x y hx hxy hy
  by_cases hy1 : y < i - 1
  · rw [kAt, kAt, e1 x hx (by omega), e1 y (by omega) hy1]; exact h2 _ _ (by omega) (by omega) (by omega)
  · by_cases hy2 : y = i - 1
    · rw [kAt, kAt, hy2, e2, e1 x hx (by omega)]
      exact Nat.le_trans (h2.le key (by omega) (show x + 1 ≤ i - 1 by omega) (by omega)) (hl.resolve_left (by omega))
    · rw [kAt, kAt, e3 y (by omega)]
      by_cases hx1 : x < i - 1
      · rw [e1 x hx hx1]; exact h2.le key (by omega) (by omega) hy
      · by_cases hx2 : x = i - 1
        · rw [hx2, e2]
          exact Nat.le_trans (hr.resolve_left (by omega)) (h2.le key hi (by omega) hy)
        · rw [e3 x (by omega)]; exact h2 x y (by omega) hxy hy
theorem put_right {L L' : List α} {a m i : Nat} (h1 : Srt z key L a m) (hi : a ≤ i) (him : i ≤ m) (hl : i = a ∨ kAt z key L (i - 1) ≤ kAt z key L m) (hr : i = m ∨ kAt z key L m ≤ kAt z key L i)
    (he : ∀ k, L'.getD k z = rotR (fun k => L.getD k z) i m (m + 1) k) : Srt z key L' a (m + 1) := by
  have e1 : ∀ k, k < i → L'.getD k z = L.getD k z := fun k h1 => by
    rw [he]; unfold rotR; rw [if_neg (by omega), if_neg (by omega)]
  have e2 : L'.getD i z = L.getD m z := by
    rw [he]; unfold rotR; rw [if_pos (by omega)]; congr 1; omega
  have e3 : ∀ k, i < k → k < m + 1 → L'.getD k z = L.getD (k - 1) z := fun k h1 h2 => by
    rw [he]; unfold rotR; rw [if_neg (by omega), if_pos (by omega)]; congr 1; omega
  intro x y hx hxy hy
  by_cases hx1 : x < i
  · rw [kAt, kAt, e1 x hx1]
    by_cases hy1 : y < i
    · rw [e1 y hy1]; exact h1 x y hx hxy (by omega)
    · by_cases hy2 : y = i
      · rw [hy2, e2]
        exact Nat.le_trans (h1.le key hx (show x ≤ i - 1 by omega) (by omega)) (hl.resolve_left (by omega))
      · rw [e3 y (by omega) hy]; exact h1.le key hx (by omega) (by omega)
  · by_cases hx2 : x = i
    · rw [kAt, kAt, hx2, e2, e3 y (by omega) hy]
      exact Nat.le_trans (hr.resolve_left (by omega)) (h1.le key hi (by omega) (by omega))
    · rw [kAt, kAt, e3 x (by omega) (by omega), e3 y (by omega) hy]; exact h1.le key (by omega) (by omega) (by omega)
end
end
end Go.Proofs.Ytblhmdhfhaencaa
