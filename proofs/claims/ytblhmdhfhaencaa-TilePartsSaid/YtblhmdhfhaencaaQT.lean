/-
 Building tiles, plain: the tiles out of the parts, in order, are right. No program in sight.
-/
import Derived.Test.YtblhmdhfhaencaaBS
namespace Go.Proofs.Ytblhmdhfhaencaa
set_option linter.unusedSimpArgs false
set_option linter.unusedVariables false
set_option linter.unusedSectionVars false
set_option maxRecDepth 100000
set_option maxHeartbeats 40000000
section
def zPart : PartD := ⟨fun _ => false, 0, 0⟩
/-- one above the place of the last of the first k parts that hold x; 0: none -/
def lastP (qs : List PartD) (x : Nat) : Nat → Nat
 | 0 => 0
 | k + 1 => if (qs.getD k zPart).s x then k + 1 else lastP qs x k
def firstP (p : PartD) : Nat := (listS p.s).headD 0
def ownBl (n : Nat) (qs : List PartD) (j : Nat) : List Int := intsN ((List.range n).filter fun x => lastP qs x qs.length == j)
def tileP (n : Nat) (qs : List PartD) (k : Nat) : TileD := ⟨(qs.getD k zPart).kind, (lastP qs (firstP (qs.getD k zPart)) k : Nat), ownBl n qs (k + 1)⟩
def tilesP (n : Nat) (qs : List PartD) : List TileD := ⟨1, -1, ownBl n qs 0⟩ :: (List.range qs.length).map (tileP n qs)

theorem lastP_le (qs : List PartD) (x : Nat) : ∀ k, lastP qs x k ≤ k
 | 0 => by simp [lastP]
 | k + 1 => by
   have := lastP_le qs x k
   simp only [lastP]
   split <;> omega
theorem lastP_has (qs : List PartD) (x : Nat) : ∀ k j, lastP qs x k = j + 1 → (qs.getD j zPart).s x = true ∧ j < k
 | 0, j, h => by simp [lastP] at h
 | k + 1, j, h => by
   simp only [lastP] at h
   split at h
   · rename_i hx
     obtain rfl : k = j := by omega
     exact ⟨hx, by omega⟩
   · have := lastP_has qs x k j h
     exact ⟨this.1, by omega⟩
theorem lastP_max (qs : List PartD) (x : Nat) : ∀ k i, i < k → (qs.getD i zPart).s x = true → i + 1 ≤ lastP qs x k
 | 0, i, h, _ => by omega
 | k + 1, i, h, hx => by
   simp only [lastP]
   split
   · omega
   · rename_i hn
     have : i ≠ k := fun e => by subst e; exact hn hx
     exact lastP_max qs x k i (by omega) hx
section
variable {ts : List TermD} {qs : List PartD} (hf : fitsB ts = true) (P : PartsOK ts qs) (hord : ∀ i j, i < j → j < qs.length → ¬ Strict (qs.getD i zPart).s (qs.getD j zPart).s)
theorem getD_memP {i : Nat} (h : i < qs.length) : qs.getD i zPart ∈ qs := by
 rw [List.getD_eq_getElem?_getD, List.getElem?_eq_getElem h]; exact List.getElem_mem _
include P hord
/-- of two that have a block in common the one behind lies in the one ahead -/
theorem part_in {i j x : Nat} (hij : i < j) (hj : j < qs.length) (hi : (qs.getD i zPart).s x = true) (hx : (qs.getD j zPart).s x = true) : Strict (qs.getD j zPart).s (qs.getD i zPart).s := by
 have hpw := List.pairwise_iff_getElem.1 P.pw i j (by omega) hj hij
 have e1 : qs.getD i zPart = qs[i] := by simp [List.getD_eq_getElem?_getD, show i < qs.length by omega]
 have e2 : qs.getD j zPart = qs[j] := by simp [List.getD_eq_getElem?_getD, hj]
 rw [e1] at hi ⊢
 rw [e2] at hx ⊢
 have ho := hord i j hij hj
 rw [e1, e2] at ho
 rcases hpw with h | h | h
 · rw [h x hi] at hx; cases hx
 · exact absurd h ho
 · exact h
theorem own_in {i j x : Nat} (ho : lastP qs x qs.length = j + 1) (hi : i < qs.length) (hx : (qs.getD i zPart).s x = true) : i = j ∨ Strict (qs.getD j zPart).s (qs.getD i zPart).s := by
 obtain ⟨h1, h2⟩ := lastP_has qs x _ j ho
 have h3 := lastP_max qs x _ i hi hx
 by_cases e : i = j
 · exact .inl e
 · exact .inr (part_in P hord (by omega) h2 hx h1)
include hf
omit hord in
theorem first_in {j : Nat} (hj : j < qs.length) : (qs.getD j zPart).s (firstP (qs.getD j zPart)) = true := by
 have hl := (fits_facts hf).2.1
 have hm := getD_memP hj
 have hc : Canon (qs.getD j zPart).s := fun y hy => by have := P.low _ hm y hy; omega
 obtain ⟨y, hy⟩ := P.some _ hm
 have h1 := (mem_listS hc y).2 hy
 unfold firstP
 cases e : listS (qs.getD j zPart).s with
 | nil => rw [e] at h1; cases h1
 | cons b r =>
   simp only [List.headD_cons]
   exact (mem_listS hc b).1 (by rw [e]; simp)
omit P hord hf in
theorem tilesP_len (n : Nat) : (tilesP n qs).length = qs.length + 1 := by simp [tilesP]
omit P hord hf in
theorem tilesP_zero (n : Nat) : (tilesP n qs).getD 0 zTile = ⟨1, -1, ownBl n qs 0⟩ := rfl
omit P hord hf in
theorem tilesP_at (n : Nat) {j : Nat} (hj : j < qs.length) : (tilesP n qs).getD (j + 1) zTile = tileP n qs j := by
 simp [tilesP, List.getD_eq_getElem?_getD, hj]
omit P hord hf in
theorem tilesP_par (n : Nat) : parentsB (tilesP n qs) = true := by
 rw [parentsB_iff]
 intro k hk
 rw [tilesP_len] at hk
 cases k with
 | zero => rw [parL, tilesP_zero]; simp
 | succ k =>
   rw [parL, tilesP_at n (by omega)]
   simp only [tileP]
   have := lastP_le qs (firstP (qs.getD k zPart)) k
   omega
theorem desc_in (n : Nat) (j : Nat) (hj : j < qs.length) : ∀ i, i < qs.length → (descB (tilesP n qs) (j + 1) (i + 1) = true ↔ i = j ∨ Strict (qs.getD i zPart).s (qs.getD j zPart).s) := by
 have hp := tilesP_par (qs := qs) n
 intro i
 induction i using Nat.strongRecOn with
 | _ i ih =>
   intro hi
   have hfi := first_in hf P hi
   obtain ⟨v, e⟩ : ∃ v, v = lastP qs (firstP (qs.getD i zPart)) i := ⟨_, rfl⟩
   have hv : parL (tilesP n qs) (i + 1) = (v : Int) := by rw [parL, tilesP_at n hi, e]; rfl
   rw [descB_eq hp _ _ (by rw [tilesP_len]; omega), hv]
   have hd0 : (0 : Int) ≤ (v : Int) := by omega
   simp only [hd0, decide_true, Bool.true_and, Bool.or_eq_true, beq_iff_eq, Int.toNat_natCast]
   replace e := e.symm
   cases v with
   | zero =>
     constructor
     · rintro (h | h)
       · left; omega
       · have := descB_ge hp (j + 1) 0 (by rw [tilesP_len]; omega) h
         omega
     · rintro (h | h)
       · left; omega
       · exfalso
         have hji : j < i := by
          apply Classical.byContradiction
          intro hn
          by_cases e2 : i = j
          · subst e2; exact h.irrefl
          · exact hord i j (by omega) hj h
         have := lastP_max qs _ i j hji (h.1 _ hfi)
         omega
   | succ i' =>
     obtain ⟨h1, h2⟩ := lastP_has qs _ i i' e
     have h3 := part_in P hord h2 hi h1 hfi
     rw [ih i' h2 (by omega)]
     constructor
     · rintro (h | h | h)
       · left; omega
       · subst h; exact .inr h3
       · exact .inr (h3.trans h)
     · rintro (h | h)
       · left; omega
       · refine .inr ?_
         have hji : j < i := by
          apply Classical.byContradiction
          intro hn
          by_cases e2 : i = j
          · subst e2; exact h.irrefl
          · exact hord i j (by omega) hj h
         have hjf := h.1 _ hfi
         have := lastP_max qs _ i j hji hjf
         by_cases e2 : i' = j
         · exact .inl e2
         · exact .inr (part_in P hord (by omega) (by omega) hjf h1)
end
end

section
theorem mem_ownBl {n : Nat} {qs : List PartD} {j : Nat} {x : Nat} : (x : Int) ∈ ownBl n qs j ↔ x < n ∧ lastP qs x qs.length = j := by
 simp only [ownBl, intsN, List.mem_map, List.mem_filter, List.mem_range, beq_iff_eq]
 constructor
 · rintro ⟨y, ⟨h1, h2⟩, h3⟩
   obtain rfl : y = x := by omega
   exact ⟨h1, h2⟩
 · intro h; exact ⟨x, h, rfl⟩
theorem nat_ownBl {n : Nat} {qs : List PartD} {j : Nat} {z : Int} (h : z ∈ ownBl n qs j) : ∃ x : Nat, z = x := by
 simp only [ownBl, intsN, List.mem_map] at h
 obtain ⟨y, _, h3⟩ := h
 exact ⟨y, h3.symm⟩
theorem blk_at (n : Nat) {qs : List PartD} {k : Nat} (hk : k ≤ qs.length) : blkL (tilesP n qs) k = ownBl n qs k := by
 cases k with
 | zero => rfl
 | succ k => rw [blkL, tilesP_at n (by omega)]; rfl
theorem flat_one (v : Nat) : ∀ m, (List.range m).flatMap (fun k => if k = v then [k] else []) = if v < m then [v] else []
 | 0 => by simp
 | m + 1 => by
   rw [List.range_succ, List.flatMap_append, flat_one v m]
   by_cases h : m = v
   · subst h; simp
   · by_cases h2 : v < m
     · simp [h, h2, show v < m + 1 by omega]
     · simp [h, h2, show ¬ v < m + 1 by omega]
theorem filter_one (p : Nat → Bool) (b : Nat) (n : Nat) : ((intsN ((List.range n).filter p)).filter fun x => x == (b : Int)) = if b < n ∧ p b = true then [(b : Int)] else [] := by
 induction n with
 | zero => simp [intsN]
 | succ n ih =>
   unfold intsN at ih ⊢
   rw [List.range_succ, List.filter_append, List.map_append, List.filter_append, ih]
   by_cases hp : p n = true
   · by_cases hb : n = b
     · subst hb; simp [hp]
     · have h1 : ¬ ((n : Int) = (b : Int)) := by omega
       have h2 : (b < n + 1) = (b < n) := by apply propext; omega
       simp [hp, h1, h2]
   · by_cases hb : n = b
     · subst hb; simp [hp]
     · have h2 : (b < n + 1) = (b < n) := by apply propext; omega
       simp [hp, h2]
theorem homes_at (n : Nat) {qs : List PartD} {b : Nat} (hb : b < n) : homes (tilesP n qs) b = [lastP qs b qs.length] := by
 unfold homes
 rw [tilesP_len]
 have hl := lastP_le qs b qs.length
 have h : ∀ k ∈ List.range (qs.length + 1), ((blkL (tilesP n qs) k).filter fun x => x == (b : Int)).map (fun _ => k) = if k = lastP qs b qs.length then [k] else [] := by
  intro k hk
  rw [List.mem_range] at hk
  rw [blk_at n (by omega), ownBl, filter_one]
  by_cases e : k = lastP qs b qs.length
  · subst e; simp [hb]
  · have e' : ¬ lastP qs b qs.length = k := fun h => e h.symm
    simp [e, e']
 have h2 : ∀ (l : List Nat) (f g : Nat → List Nat), (∀ k ∈ l, f k = g k) → l.flatMap f = l.flatMap g := by
  intro l
  induction l with
  | nil => intros; rfl
  | cons a l ih => intro f g hfg; rw [List.flatMap_cons, List.flatMap_cons, hfg a (by simp), ih f g (fun k hk => hfg k (by simp [hk]))]
 rw [h2 _ _ _ h, flat_one, if_pos (by omega)]
theorem desc_zero (n : Nat) (qs : List PartD) : ∀ i, i < qs.length + 1 → descB (tilesP n qs) 0 i = true := by
 have hp := tilesP_par (qs := qs) n
 intro i
 induction i using Nat.strongRecOn with
 | _ i ih =>
   intro hi
   cases i with
   | zero => exact descB_self _ _
   | succ i =>
     rw [descB_eq hp _ _ (by rw [tilesP_len]; omega)]
     have hv : parL (tilesP n qs) (i + 1) = (lastP qs (firstP (qs.getD i zPart)) i : Nat) := by rw [parL, tilesP_at n (by omega)]; rfl
     have := lastP_le qs (firstP (qs.getD i zPart)) i
     rw [hv]
     simp only [Int.toNat_natCast]
     rw [ih _ (by omega) (by omega)]
     simp
theorem setK_zero {n : Nat} (hn : n ≤ 200) (qs : List PartD) : setK (tilesP n qs) 0 = wholeS n := by
 funext x
 rw [Bool.eq_iff_iff]
 simp only [setK, ofS, wholeS, Bool.and_eq_true, decide_eq_true_eq, List.contains_iff_mem]
 have h := mem_allL (tilesP n qs) 0 (by rw [tilesP_len]; omega) (tilesP_par n) (x : Int)
 rw [show ((0 : Nat) : Int) = 0 from rfl] at h
 constructor
 · rintro ⟨_, h2⟩
   obtain ⟨i, h3, _, h4⟩ := h.1 h2
   rw [tilesP_len] at h3
   rw [blk_at n (by omega)] at h4
   exact (mem_ownBl.1 h4).1
 · intro hx
   refine ⟨by omega, h.2 ⟨lastP qs x qs.length, ?_, ?_, ?_⟩⟩
   · rw [tilesP_len]; have := lastP_le qs x qs.length; omega
   · exact desc_zero n qs _ (by have := lastP_le qs x qs.length; omega)
   · rw [blk_at n (lastP_le _ _ _)]; exact mem_ownBl.2 ⟨hx, rfl⟩
section
variable {ts : List TermD} {qs : List PartD} (hf : fitsB ts = true) (P : PartsOK ts qs) (hord : ∀ i j, i < j → j < qs.length → ¬ Strict (qs.getD i zPart).s (qs.getD j zPart).s)
include hf P hord
theorem setK_at {j : Nat} (hj : j < qs.length) : setK (tilesP ts.length qs) (j + 1) = (qs.getD j zPart).s := by
 have hl := (fits_facts hf).2.1
 funext x
 rw [Bool.eq_iff_iff]
 simp only [setK, ofS, Bool.and_eq_true, decide_eq_true_eq, List.contains_iff_mem]
 have h := mem_allL (tilesP ts.length qs) (j + 1) (by rw [tilesP_len]; omega) (tilesP_par _) (x : Int)
 constructor
 · rintro ⟨_, h2⟩
   obtain ⟨i, h3, hd, h4⟩ := h.1 (by simpa using h2)
   rw [tilesP_len] at h3
   rw [blk_at _ (by omega)] at h4
   cases i with
   | zero => have := descB_ge (tilesP_par _) (j + 1) 0 (by rw [tilesP_len]; omega) hd; omega
   | succ i =>
     obtain ⟨h5, h6⟩ := mem_ownBl.1 h4
     have h7 := lastP_has qs x _ i h6
     rcases (desc_in hf P hord _ j hj i (by omega)).1 hd with e | e
     · subst e; exact h7.1
     · exact e.1 x h7.1
 · intro hx
   have hlow := P.low _ (getD_memP hj) x hx
   refine ⟨by omega, ?_⟩
   have hm := lastP_max qs x qs.length j hj hx
   have hle := lastP_le qs x qs.length
   obtain ⟨i, hi⟩ : ∃ i, lastP qs x qs.length = i + 1 := ⟨lastP qs x qs.length - 1, by omega⟩
   have h2 := own_in P hord hi hj hx
   have := h.2 ⟨i + 1, by rw [tilesP_len]; omega, (desc_in hf P hord _ j hj i (by omega)).2 (h2.imp (fun e => e.symm) id), by rw [blk_at _ (by omega)]; exact mem_ownBl.2 ⟨by omega, hi⟩⟩
   simpa using this
omit hf in
/-- the blocks that are a part's own: in it and in none that lies in it -/
theorem ownP_at {j x : Nat} (hj : j < qs.length) : (x : Int) ∈ ownBl ts.length qs (j + 1) ↔ (qs.getD j zPart).s x = true ∧ ∀ q ∈ qs, Strict q.s (qs.getD j zPart).s → q.s x = false := by
 rw [mem_ownBl]
 constructor
 · rintro ⟨_, h⟩
   obtain ⟨h1, h2⟩ := lastP_has qs x _ j h
   refine ⟨h1, fun q hq hs => ?_⟩
   cases e : q.s x with
   | false => rfl
   | true =>
     exfalso
     obtain ⟨i, hi, rfl⟩ := List.mem_iff_getElem.1 hq
     have e1 : qs.getD i zPart = qs[i] := by simp [List.getD_eq_getElem?_getD, hi]
     rw [← e1] at e hs
     rcases own_in P hord h hi e with h3 | h3
     · subst h3; exact hs.irrefl
     · exact hs.asymm h3
 · rintro ⟨h1, h2⟩
   have hlow := P.low _ (getD_memP hj) x h1
   refine ⟨by omega, ?_⟩
   have hm := lastP_max qs x qs.length j hj h1
   obtain ⟨i, hi⟩ : ∃ i, lastP qs x qs.length = i + 1 := ⟨lastP qs x qs.length - 1, by omega⟩
   rcases own_in P hord hi hj h1 with h3 | h3
   · omega
   · have h4 := lastP_has qs x _ i hi
     have := h2 _ (getD_memP h4.2) h3
     rw [h4.1] at this; cases this
omit hf P hord in
theorem zero_at {x : Nat} : (x : Int) ∈ ownBl ts.length qs 0 ↔ x < ts.length ∧ ∀ q ∈ qs, q.s x = false := by
 rw [mem_ownBl]
 refine and_congr_right fun _ => ⟨fun h q hq => ?_, fun h => ?_⟩
 · cases e : q.s x with
   | false => rfl
   | true =>
     obtain ⟨i, hi, rfl⟩ := List.mem_iff_getElem.1 hq
     have e1 : qs.getD i zPart = qs[i] := by simp [List.getD_eq_getElem?_getD, hi]
     rw [← e1] at e
     have := lastP_max qs x qs.length i hi e
     omega
 · apply Classical.byContradiction
   intro hn
   obtain ⟨i, hi⟩ : ∃ i, lastP qs x qs.length = i + 1 := ⟨lastP qs x qs.length - 1, by omega⟩
   have h4 := lastP_has qs x _ i hi
   rw [h _ (getD_memP h4.2)] at h4
   cases h4.1
omit hf in
theorem own_some {j : Nat} (hj : j < qs.length) : ∃ x : Nat, (x : Int) ∈ ownBl ts.length qs (j + 1) := by
 have hm := getD_memP hj
 by_cases h3 : (qs.getD j zPart).kind = 3
 · obtain ⟨y, hy⟩ := P.some _ hm
   exact ⟨y, (ownP_at P hord hj).2 ⟨hy, fun q hq hs => absurd hs (P.noreg _ hm h3 q hq)⟩⟩
 · obtain ⟨_, _, h1, h2⟩ := P.ent _ hm h3
   exact ⟨_, (ownP_at P hord hj).2 ⟨h1, h2⟩⟩
end
end

section
theorem rising_own (n : Nat) (qs : List PartD) (j : Nat) : risingB n (ownBl n qs j) = true := by
 have hpw : (ownBl n qs j).Pairwise (· < ·) := by
  unfold ownBl intsN
  rw [List.pairwise_map]
  exact (List.pairwise_lt_range.filter _).imp (fun h => by omega)
 simp only [risingB, List.all_eq_true, List.mem_range, Bool.and_eq_true, Bool.or_eq_true, beq_iff_eq, decide_eq_true_eq]
 intro i hi
 have e : (ownBl n qs j).getD i 0 = (ownBl n qs j)[i] := by rw [List.getD_eq_getElem?_getD, List.getElem?_eq_getElem hi]; rfl
 have hm : (ownBl n qs j)[i] ∈ ownBl n qs j := List.getElem_mem _
 obtain ⟨x, hx⟩ := nat_ownBl hm
 rw [hx] at hm
 have hb := (mem_ownBl.1 hm).1
 rw [e]
 refine ⟨by omega, ?_⟩
 by_cases h0 : i = 0
 · exact .inl h0
 · refine .inr ?_
   have e2 : (ownBl n qs j).getD (i - 1) 0 = (ownBl n qs j)[i - 1] := by rw [List.getD_eq_getElem?_getD, List.getElem?_eq_getElem (by omega)]; rfl
   rw [e2]
   exact List.pairwise_iff_getElem.1 hpw (i - 1) i (by omega) hi (by omega)
theorem rings_false {ts : List TermD} {bs : List Int} {inn : Nat → Bool} (hc : Canon inn) (h : ∀ z ∈ bs, ¬ Reach (nx ts) inn z.toNat z.toNat) : ringsB ts bs inn = false := by
 rw [ringsB, List.any_eq_false]
 intro z hz e
 rw [ring_iff hc, walkF_iff hc] at e
 exact h z hz e.2
section
variable {ts : List TermD} {qs : List PartD} (hf : fitsB ts = true) (P : PartsOK ts qs) (hord : ∀ i j, i < j → j < qs.length → ¬ Strict (qs.getD i zPart).s (qs.getD j zPart).s)
include hf P hord
omit hord in
theorem zero_in : (0 : Int) ∈ ownBl ts.length qs 0 := by
 have hl := (fits_facts hf).2.1
 have := (zero_at (ts := ts) (qs := qs) (x := 0)).2 ⟨by omega, fun q hq => by
  cases e : q.s 0 with
  | false => rfl
  | true => have := P.low q hq 0 e; omega⟩
 exact this
theorem len_tiles : qs.length + 1 ≤ ts.length := by
 have hl := (fits_facts hf).2.1
 have h : ∀ j, j < qs.length + 1 → ∃ x : Nat, (x : Int) ∈ ownBl ts.length qs j := by
  intro j hj
  cases j with
  | zero => exact ⟨0, zero_in hf P⟩
  | succ j => exact own_some P hord (by omega)
 have hc : ∀ j, ∃ x : Nat, j < qs.length + 1 → (x : Int) ∈ ownBl ts.length qs j := by
  intro j
  by_cases hj : j < qs.length + 1
  · obtain ⟨x, hx⟩ := h j hj; exact ⟨x, fun _ => hx⟩
  · exact ⟨0, fun e => absurd e hj⟩
 obtain ⟨f, hfn⟩ := Classical.axiomOfChoice hc
 have hn : ((List.range (qs.length + 1)).map f).Nodup := by
  rw [List.Nodup, List.pairwise_map]
  refine List.Pairwise.imp_of_mem ?_ List.pairwise_lt_range
  intro a b ha hb hab e
  rw [List.mem_range] at ha hb
  have h1 := mem_ownBl.1 (hfn a ha)
  have h2 := mem_ownBl.1 (hfn b hb)
  rw [e] at h1
  omega
 have := nodup_len ts.length _ hn (by
  intro y hy
  obtain ⟨j, hj, rfl⟩ := List.mem_map.1 hy
  rw [List.mem_range] at hj
  exact (mem_ownBl.1 (hfn j hj)).1)
 simpa using this
theorem stands_tiles {k : Nat} (hk : k < qs.length + 1) : standsB ts.length (tilesP ts.length qs) k = true := by
 have hne : ∀ j, j < qs.length + 1 → (ownBl ts.length qs j).length ≠ 0 := by
  intro j hj e
  have e' := List.length_eq_zero_iff.1 e
  cases j with
  | zero => have := zero_in hf P; rw [e'] at this; cases this
  | succ j => obtain ⟨x, hx⟩ := own_some P hord (j := j) (by omega); rw [e'] at hx; cases hx
 cases k with
 | zero =>
   have h0 := hne 0 (by omega)
   simp only [standsB, tilesP_zero, rising_own]
   simp [h0]
 | succ j =>
   have hj : j < qs.length := by omega
   have h0 := hne (j + 1) (by omega)
   have hkd := P.kind _ (getD_memP hj)
   have hk1 : ((tileP ts.length qs j).kind == 1) = false := by
    simp only [tileP, beq_eq_false_iff_ne, ne_eq]; omega
   have hp1 : ((tileP ts.length qs j).parent == -1) = false := by
    simp only [tileP, beq_eq_false_iff_ne, ne_eq]; omega
   have hb : (tileP ts.length qs j).blocks = ownBl ts.length qs (j + 1) := rfl
   have hk3 : (((tilesP ts.length qs).getD (tileP ts.length qs j).parent.toNat zTile).kind == 3) = false := by
    simp only [beq_eq_false_iff_ne, ne_eq]
    have hpe : (tileP ts.length qs j).parent.toNat = lastP qs (firstP (qs.getD j zPart)) j := by simp [tileP]
    rw [hpe]
    cases e : lastP qs (firstP (qs.getD j zPart)) j with
    | zero => rw [tilesP_zero]; simp
    | succ i =>
      obtain ⟨h1, h2⟩ := lastP_has qs _ j i e
      rw [tilesP_at _ (by omega)]
      intro h3
      exact P.noreg _ (getD_memP (show i < qs.length by omega)) h3 _ (getD_memP hj) (part_in P hord h2 hj h1 (first_in hf P hj))
   simp only [standsB, tilesP_at _ hj, hk1, hp1, hb, hk3, rising_own]
   simp [h0]
theorem holds_tiles {k : Nat} (hk : k < qs.length + 1) : holdsB ts ((tilesP ts.length qs).getD k zTile) (setK (tilesP ts.length qs) k) = true := by
 have hl := (fits_facts hf).2.1
 cases k with
 | zero =>
   rw [setK_zero hl.2, tilesP_zero]
   have hr := rings_false (ts := ts) (bs := ownBl ts.length qs 0) (whole_canon hl.2) (by
    intro z hz
    obtain ⟨x, rfl⟩ := nat_ownBl hz
    exact P.ring1 x (zero_at.1 hz).2)
   simp [holdsB, hr]
 | succ j =>
   have hj : j < qs.length := by omega
   have hm := getD_memP hj
   rw [setK_at hf P hord hj, tilesP_at _ hj]
   have hc : Canon (qs.getD j zPart).s := fun y hy => by have := P.low _ hm y hy; omega
   have hk : (tileP ts.length qs j).kind = (qs.getD j zPart).kind := rfl
   have hb : (tileP ts.length qs j).blocks = ownBl ts.length qs (j + 1) := rfl
   have hone : (qs.getD j zPart).kind ≠ 3 → oneB (tileP ts.length qs j) (entriesS ts (qs.getD j zPart).s) = true ∧ (entriesS ts (qs.getD j zPart).s).headD 0 = (qs.getD j zPart).entry.toNat := by
    intro h3
    obtain ⟨_, h4, h5, h6⟩ := P.ent _ hm h3
    have h7 := (ownP_at P hord hj).2 ⟨h5, h6⟩
    rw [h4]
    refine ⟨?_, rfl⟩
    simp only [oneB, hb, List.length_singleton, List.headD_cons, Bool.and_eq_true, List.contains_iff_mem]
    exact ⟨rfl, h7⟩
   have htog : (qs.getD j zPart).kind ≠ 4 → togetherB ts (qs.getD j zPart).s = true := fun h4 => (together_iff hc).2 (P.tog _ hm h4)
   rcases P.kind _ hm with h | h | h
   · obtain ⟨h1, h2⟩ := hone (by omega)
     have hr := rings_false (ts := ts) (bs := ownBl ts.length qs (j + 1)) (less_canon hc (qs.getD j zPart).entry.toNat) (by
      intro z hz
      obtain ⟨x, rfl⟩ := nat_ownBl hz
      have h5 := (ownP_at P hord hj).1 hz
      exact P.ring2 _ hm h x h5.1 h5.2)
     simp only [holdsB, hk, h, hb, h1, h2, htog (by omega), hr]
     rfl
   · have h1 := P.ent3 _ hm h
     simp only [holdsB, hk, h, htog (by omega), h1]
     rfl
   · obtain ⟨h1, h2⟩ := hone (by omega)
     have hr := rings_false (ts := ts) (bs := ownBl ts.length qs (j + 1)) hc (by
      intro z hz
      obtain ⟨x, rfl⟩ := nat_ownBl hz
      have h5 := (ownP_at P hord hj).1 hz
      exact P.ring4 _ hm h x h5.1 h5.2)
     simp only [holdsB, hk, h, hb, h1, hr]
     rfl
/-- what Build lays is right -/
theorem right_tiles : rightB ts (tilesP ts.length qs) = true := by
 have hl := (fits_facts hf).2.1
 have hlen := len_tiles hf P hord
 have hz := mem_ownBl.1 (zero_in hf P : ((0 : Nat) : Int) ∈ _)
 have hown : ownB (tilesP ts.length qs) ts.length = true := by
  simp only [ownB, List.all_eq_true, List.mem_range]
  intro b hb
  rw [homes_at _ hb]; rfl
 have h0 : (ownF (tilesP ts.length qs) 0 == 0) = true := by
  rw [ownF, homes_at _ (by omega), hz.2]; rfl
 simp only [rightB, hf, tilesP_par, hown, h0, Bool.and_eq_true, decide_eq_true_eq, List.all_eq_true, List.mem_range, Bool.true_and, Bool.and_true]
 rw [tilesP_len]
 exact ⟨by omega, fun k hk => ⟨stands_tiles hf P hord hk, holds_tiles hf P hord hk⟩⟩
end
end

section
/-- in how many parts one lies -/
def aroundP (ps : List PartD) (p : PartD) : Nat := (ps.filter fun x => withinB p.s x.s).length
theorem around_perm {ps qs : List PartD} (h : ps.Perm qs) (p : PartD) : aroundP ps p = aroundP qs p := (h.filter _).length_eq
theorem filter_sub {α : Type} {f g : α → Bool} : ∀ (l : List α), (∀ x ∈ l, f x = true → g x = true) → (l.filter f).length ≤ (l.filter g).length
 | [], _ => by simp
 | a :: l, h => by
   have ih := filter_sub l (fun x hx => h x (by simp [hx]))
   have ha := h a (by simp)
   cases e : f a with
   | true => simp [List.filter_cons, e, ha e, ih]
   | false =>
     cases e2 : g a with
     | true => simp [List.filter_cons, e, e2]; omega
     | false => simp [List.filter_cons, e, e2, ih]
theorem filter_lt {α : Type} {f g : α → Bool} : ∀ (l : List α), (∀ x ∈ l, f x = true → g x = true) → (∃ x ∈ l, g x = true ∧ f x = false) → (l.filter f).length < (l.filter g).length
 | [], _, h => by obtain ⟨x, hx, _⟩ := h; cases hx
 | a :: l, h, hw => by
   have hs := filter_sub l (fun x hx => h x (by simp [hx]))
   have ha := h a (by simp)
   obtain ⟨x, hx, h1, h2⟩ := hw
   rcases List.mem_cons.1 hx with rfl | hx
   · simp [List.filter_cons, h1, h2]; omega
   · have ih := filter_lt l (fun x hx => h x (by simp [hx])) ⟨x, hx, h1, h2⟩
     cases e : f a with
     | true => simp [List.filter_cons, e, ha e, ih]
     | false =>
       cases e2 : g a with
       | true => simp [List.filter_cons, e, e2]; omega
       | false => simp [List.filter_cons, e, e2, ih]
/-- an order of parts that Build may lay -/
def OrderOK (qs : List PartD) : Prop := ∀ i j, i < j → j < qs.length → aroundP qs (qs.getD i zPart) ≤ aroundP qs (qs.getD j zPart)
theorem order_ok {ts : List TermD} {qs : List PartD} (hl : ts.length ≤ 200) (P : PartsOK ts qs) (ho : OrderOK qs) : ∀ i j, i < j → j < qs.length → ¬ Strict (qs.getD i zPart).s (qs.getD j zPart).s := by
 intro i j hij hj hs
 have hcan : ∀ p ∈ qs, Canon p.s := fun p hp y hy => by have := P.low p hp y hy; omega
 have hi : i < qs.length := by omega
 have h1 := ho i j hij hj
 have h2 : aroundP qs (qs.getD j zPart) < aroundP qs (qs.getD i zPart) := by
  have cj := hcan _ (getD_memP hj)
  have ci := hcan _ (getD_memP hi)
  refine filter_lt qs ?_ ⟨qs.getD j zPart, getD_memP hj, (within_iff ci cj).2 hs, ?_⟩
  · intro x hx h
    exact (within_iff ci (hcan x hx)).2 (hs.trans ((within_iff cj (hcan x hx)).1 h))
  · cases e : withinB (qs.getD j zPart).s (qs.getD j zPart).s with
    | false => rfl
    | true => exact ((within_iff cj cj).1 e).irrefl.elim
 omega
/-- what Build tells of terms that fit: some order of the parts, laid as tiles -/
theorem build_right {ts : List TermD} (hf : fitsB ts = true) {qs : List PartD} (hp : (partsP ts).Perm qs) (ho : OrderOK qs) : rightB ts (tilesP ts.length qs) = true := by
 have P := (parts_ok hf).perm hp
 exact right_tiles hf P (order_ok (fits_facts hf).2.1.2 P ho)
end

section
theorem getD_range_map {α : Type} (f : Nat → α) (n k : Nat) (z : α) (h : k < n) : ((List.range n).map f).getD k z = f k := by
 simp [List.getD_eq_getElem?_getD, h]
theorem parts_len {ts : List TermD} (hf : fitsB ts = true) : (partsP ts).length + 1 ≤ ts.length := by
 have hP := parts_ok hf
 have hl := (fits_facts hf).2.1.2
 obtain ⟨ms, hp, ho⟩ : ∃ ms : List PartD, ms.Perm (partsP ts) ∧ OrderOK ms := by
  refine ⟨(partsP ts).mergeSort (fun p q => decide (aroundP (partsP ts) p ≤ aroundP (partsP ts) q)), List.mergeSort_perm _ _, ?_⟩
  have hs : ((partsP ts).mergeSort (fun p q => decide (aroundP (partsP ts) p ≤ aroundP (partsP ts) q))).Pairwise (fun a b => decide (aroundP (partsP ts) a ≤ aroundP (partsP ts) b) = true) := by
   refine List.pairwise_mergeSort ?_ ?_ _
   · intro a b c h1 h2
     simp only [decide_eq_true_eq] at *
     omega
   · intro a b
     simp only [Bool.or_eq_true, decide_eq_true_eq]
     omega
  have hp := List.mergeSort_perm (partsP ts) (fun p q => decide (aroundP (partsP ts) p ≤ aroundP (partsP ts) q))
  generalize (partsP ts).mergeSort (fun p q => decide (aroundP (partsP ts) p ≤ aroundP (partsP ts) q)) = ms at *
  intro i j hij hj
  have hi : i < ms.length := by omega
  have h1 := (List.pairwise_iff_getElem.1 hs) i j hi hj hij
  simp only [decide_eq_true_eq] at h1
  rw [around_perm hp, around_perm hp, List.getD_eq_getElem?_getD, List.getD_eq_getElem?_getD, List.getElem?_eq_getElem hi, List.getElem?_eq_getElem hj]
  exact h1
 have hP2 := hP.perm hp.symm
 have := len_tiles hf hP2 (order_ok hl hP2 ho)
 rw [hp.length_eq] at this
 exact this
theorem loops_le {ts : List TermD} (hf : fitsB ts = true) : (loopsP ts 201 (wholeS ts.length)).length ≤ 200 := by
 have h1 := parts_len hf
 have h2 := (fits_facts hf).2.1.2
 rw [partsP, List.length_append] at h1
 omega
theorem loops_canon {ts : List TermD} (hf : fitsB ts = true) : ∀ p ∈ loopsP ts 201 (wholeS ts.length), Canon p.s := by
 have hl := (fits_facts hf).2.1.2
 have F := loopsP_ok hf 201 (wholeS ts.length) (whole_canon hl) (fun y hy => by simpa [wholeS] using hy) (by
  have : (listS (wholeS ts.length)).length ≤ 200 := by
   have := List.length_filter_le (wholeS ts.length) (List.range 200)
   simpa [listS] using this
  omega)
 exact fun p hp y hy => by have := (F.ok p hp).low y hy; omega
theorem parts_listS {ts : List TermD} {qs : List PartD} (hl : ts.length ≤ 200) (P : PartsOK ts qs) : ∀ p ∈ qs, listS p.s ≠ [] ∧ firstP p < 200 ∧ p.s (firstP p) = true ∧ firstP p < ts.length ∧ Canon p.s := by
 intro p hp
 have hc : Canon p.s := fun y hy => by have := P.low p hp y hy; omega
 obtain ⟨y, hy⟩ := P.some p hp
 have h1 := (mem_listS hc y).2 hy
 have h2 : listS p.s ≠ [] := fun e => by rw [e] at h1; cases h1
 have h3 : firstP p ∈ listS p.s := by
  unfold firstP
  cases e : listS p.s with
  | nil => exact absurd e h2
  | cons b r => simp
 have h4 := (mem_listS hc _).1 h3
 have h5 := P.low p hp _ h4
 exact ⟨h2, by omega, h4, h5.2, hc⟩

/-! ### whose own each block is -/
def ownK (n : Nat) (qs : List PartD) (k : Nat) : List Int := (List.range n).map fun x => ((lastP qs x k : Nat) : Int)
def ownKd (n : Nat) (qs : List PartD) (k : Nat) (dn : List Nat) : List Int := (List.range n).map fun x => if dn.contains x then ((k + 1 : Nat) : Int) else ((lastP qs x k : Nat) : Int)
theorem ownK_len (n : Nat) (qs : List PartD) (k : Nat) : (ownK n qs k).length = n := by simp [ownK]
theorem ownKd_len (n : Nat) (qs : List PartD) (k : Nat) (dn : List Nat) : (ownKd n qs k dn).length = n := by simp [ownKd]
theorem ownK_zero (n : Nat) (qs : List PartD) : ownK n qs 0 = List.replicate n 0 := by
 apply List.ext_getElem?
 intro i
 simp only [ownK, lastP, List.getElem?_map, List.getElem?_range', List.getElem?_replicate]
 by_cases h : i < n
 · simp [h]
 · simp [h, Nat.not_lt.1 h]
theorem ownK_at (n : Nat) (qs : List PartD) (k x : Nat) (h : x < n) : (ownK n qs k).getD x 0 = (lastP qs x k : Int) := getD_range_map _ _ _ _ h
theorem ownKd_nil (n : Nat) (qs : List PartD) (k : Nat) : ownKd n qs k [] = ownK n qs k := by simp [ownKd, ownK]
theorem ownKd_snoc (n : Nat) (qs : List PartD) (k : Nat) (dn : List Nat) (x : Nat) (h : x < n) : (ownKd n qs k dn).set x ((k + 1 : Nat) : Int) = ownKd n qs k (dn ++ [x]) := by
 apply List.ext_getElem?
 intro i
 by_cases hi : i < n
 · rw [List.getElem?_set]
   by_cases e : x = i
   · subst e
     simp [ownKd, h]
   · have e' : ¬ i = x := fun h => e h.symm
     simp [ownKd, hi, e, e']
 · simp [ownKd, hi, Nat.not_lt.1 hi]
theorem ownKd_end (n : Nat) (qs : List PartD) (k : Nat) (hc : Canon (qs.getD k zPart).s) : ownKd n qs k (listS (qs.getD k zPart).s) = ownK n qs (k + 1) := by
 unfold ownKd ownK
 apply List.map_congr_left
 intro x _
 simp only [List.contains_eq_mem, mem_listS hc, lastP]
 cases (qs.getD k zPart).s x <;> simp
/-! ### the tiles on the way -/
def tileK (qs : List PartD) (k : Nat) (bs : List Int) : TileD := ⟨(qs.getD k zPart).kind, (lastP qs (firstP (qs.getD k zPart)) k : Nat), bs⟩
/-- the first k tiles behind the root, no blocks yet -/
def tilesK (qs : List PartD) (k : Nat) : List TileD := ⟨1, -1, []⟩ :: (List.range k).map fun i => tileK qs i []
theorem tilesK_len (qs : List PartD) (k : Nat) : (tilesK qs k).length = k + 1 := by simp [tilesK]
theorem tilesK_succ (qs : List PartD) (k : Nat) : tilesK qs (k + 1) = tilesK qs k ++ [tileK qs k []] := by
 simp [tilesK, List.range_succ]
/-- all tiles, with their blocks below j -/
def obJ (qs : List PartD) (j m : Nat) : List Int := intsN ((List.range j).filter fun x => lastP qs x qs.length == m)
def tilesJ (qs : List PartD) (j : Nat) : List TileD := ⟨1, -1, obJ qs j 0⟩ :: (List.range qs.length).map fun i => tileK qs i (obJ qs j (i + 1))
theorem tilesJ_zero (qs : List PartD) : tilesJ qs 0 = tilesK qs qs.length := rfl
theorem tilesJ_end (n : Nat) (qs : List PartD) : tilesJ qs n = tilesP n qs := rfl
theorem tilesJ_len (qs : List PartD) (j : Nat) : (tilesJ qs j).length = qs.length + 1 := by simp [tilesJ]
theorem obJ_succ (qs : List PartD) (j m : Nat) : obJ qs (j + 1) m = obJ qs j m ++ if lastP qs j qs.length = m then [(j : Int)] else [] := by
 unfold obJ intsN
 rw [List.range_succ, List.filter_append, List.map_append]
 congr 1
 by_cases h : lastP qs j qs.length = m <;> simp [h]
theorem tilesJ_at (qs : List PartD) (j k : Nat) (hk : k ≤ qs.length) : (tilesJ qs j)[k]? = some (if k = 0 then ⟨1, -1, obJ qs j 0⟩ else tileK qs (k - 1) (obJ qs j k)) := by
 cases k with
 | zero => rfl
 | succ k =>
   have : k < qs.length := by omega
   simp [tilesJ, this]
theorem tilesJ_succ (qs : List PartD) (j : Nat) (t : TileD) (h : (tilesJ qs j)[lastP qs j qs.length]? = some t) : (tilesJ qs j).set (lastP qs j qs.length) ⟨t.kind, t.parent, t.blocks ++ [(j : Int)]⟩ = tilesJ qs (j + 1) := by
 have hle := lastP_le qs j qs.length
 apply List.ext_getElem?
 intro i
 rw [List.getElem?_set]
 by_cases hi : i ≤ qs.length
 · by_cases e : lastP qs j qs.length = i
   · subst e
     rw [if_pos rfl, if_pos (by rw [tilesJ_len]; omega)]
     rw [tilesJ_at _ _ _ hle] at h
     rw [tilesJ_at _ _ _ hle]
     injection h with h
     subst h
     congr 1
     by_cases h0 : lastP qs j qs.length = 0
     · rw [if_pos h0, if_pos h0, obJ_succ, if_pos h0]
     · rw [if_neg h0, if_neg h0, obJ_succ, if_pos rfl]
       rfl
   · rw [if_neg e, tilesJ_at _ _ _ hi, tilesJ_at _ _ _ hi]
     congr 1
     by_cases h0 : i = 0
     · subst h0
       rw [if_pos rfl, if_pos rfl, obJ_succ, if_neg e, List.append_nil]
     · rw [if_neg h0, if_neg h0, obJ_succ, if_neg e, List.append_nil]
 · have h1 : (tilesJ qs j)[i]? = none := List.getElem?_eq_none (by rw [tilesJ_len]; omega)
   have h2 : (tilesJ qs (j + 1))[i]? = none := List.getElem?_eq_none (by rw [tilesJ_len]; omega)
   rw [h1, h2]
   rw [if_neg (by omega)]
theorem tilesJ_blocks (qs : List PartD) (j k : Nat) (t : TileD) (h : (tilesJ qs j)[k]? = some t) : t.blocks.length ≤ j := by
 have hl : ∀ m, (obJ qs j m).length ≤ j := fun m => by
  have := List.length_filter_le (fun x => lastP qs x qs.length == m) (List.range j)
  rw [List.length_range] at this
  simpa [obJ, intsN] using this
 have hk : k ≤ qs.length := by have := (List.getElem?_eq_some_iff.1 h).1; rw [tilesJ_len] at this; omega
 rw [tilesJ_at _ _ _ hk] at h
 injection h with h
 subst h
 by_cases h0 : k = 0
 · rw [if_pos h0]; exact hl 0
 · rw [if_neg h0]; exact hl k
end
end Go.Proofs.Ytblhmdhfhaencaa
