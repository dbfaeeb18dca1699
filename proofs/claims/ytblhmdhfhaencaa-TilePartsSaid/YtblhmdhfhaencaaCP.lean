/-
 Right tiles, plain: they part the blocks; with one block less, or told twice, they are not right. No program in sight.
-/
import Derived.Test.YtblhmdhfhaencaaQT
import Derived.Test.YtblhmdhfhaencaaRows
import Derived.Test.YtblhmdhfhaencaaEQ
namespace Go.Proofs.Ytblhmdhfhaencaa
set_option linter.unusedSimpArgs false
set_option linter.unusedVariables false
set_option linter.unusedSectionVars false
set_option maxRecDepth 100000
set_option maxHeartbeats 40000000
section
theorem right_facts {ts : List TermD} {l : List TileD} (h : rightB ts l = true) : fitsB ts = true ∧ l.length ≤ 200 ∧ parentsB l = true ∧ ownB l ts.length = true ∧ ownF l 0 = 0 ∧ ∀ k, k < l.length → standsB ts.length l k = true ∧ holdsB ts (l.getD k zTile) (setK l k) = true := by
 simp only [rightB, Bool.and_eq_true, decide_eq_true_eq, beq_iff_eq, List.all_eq_true, List.mem_range] at h
 obtain ⟨⟨⟨⟨⟨h1, h2⟩, h3⟩, h4⟩, h5⟩, h6⟩ := h
 exact ⟨h1, h2, h3, h4, h5, h6⟩
theorem stands_all5 {n : Nat} {l : List TileD} {k : Nat} (h : standsB n l k = true) : (k = 0 ↔ (l.getD k zTile).kind = 1) ∧ (k = 0 ↔ (l.getD k zTile).parent = -1) ∧ (l.getD k zTile).blocks ≠ [] ∧ (0 < k → (l.getD (l.getD k zTile).parent.toNat zTile).kind ≠ 3) ∧ risingB n (l.getD k zTile).blocks = true := by
 simp only [standsB, Bool.and_eq_true, Bool.not_eq_true', Bool.or_eq_false_iff] at h
 obtain ⟨⟨⟨⟨h1, h2⟩, h3⟩, h4⟩, h5⟩ := h
 refine ⟨?_, ?_, ?_, ?_, h5⟩
 · have h6 : (k == 0) = ((l.getD k zTile).kind == 1) := by simpa using h1
   rw [Bool.eq_iff_iff] at h6
   simpa using h6
 · have h6 : (k == 0) = ((l.getD k zTile).parent == -1) := by simpa using h2
   rw [Bool.eq_iff_iff] at h6
   simpa using h6
 · intro e
   rw [e] at h3
   simp at h3
 · intro hk e
   rw [e] at h4
   simp [hk] at h4
theorem rising_at {n : Nat} {bs : List Int} (h : risingB n bs = true) {i : Nat} (hi : i < bs.length) : 0 ≤ bs.getD i 0 ∧ bs.getD i 0 < n := by
 simp only [risingB, List.all_eq_true, List.mem_range, Bool.and_eq_true, decide_eq_true_eq] at h
 exact (h i hi).1
theorem rising_mem {n : Nat} {bs : List Int} (h : risingB n bs = true) {x : Int} (hx : x ∈ bs) : 0 ≤ x ∧ x < n := by
 obtain ⟨i, hi, rfl⟩ := List.mem_iff_getElem.1 hx
 have := rising_at h hi
 rwa [List.getD_eq_getElem?_getD, List.getElem?_eq_getElem hi] at this
theorem rising_lt {n : Nat} {bs : List Int} (h : risingB n bs = true) {i : Nat} (h1 : 1 ≤ i) (hi : i < bs.length) : bs.getD (i - 1) 0 < bs.getD i 0 := by
 simp only [risingB, List.all_eq_true, List.mem_range, Bool.and_eq_true, decide_eq_true_eq, Bool.or_eq_true, beq_iff_eq] at h
 rcases (h i hi).2 with h | h
 · omega
 · exact h
theorem rising_two {n : Nat} {bs : List Int} (h : risingB n bs = true) : ∀ (d i : Nat), i + d + 1 < bs.length → bs.getD i 0 < bs.getD (i + d + 1) 0
 | 0, i, hi => by have := rising_lt h (i := i + 1) (by omega) hi; simpa using this
 | d + 1, i, hi => by
   have h1 := rising_two h d i (by omega)
   have h2 := rising_lt h (i := i + d + 2) (by omega) (by omega)
   have e : i + d + 2 - 1 = i + d + 1 := by omega
   rw [e] at h2
   have e2 : i + (d + 1) + 1 = i + d + 2 := by omega
   rw [e2]
   omega
theorem desc_root {ts : List TermD} {l : List TileD} (h : rightB ts l = true) : ∀ n, n < l.length → descB l 0 n = true := by
 obtain ⟨_, _, hp, _, _, hs⟩ := right_facts h
 intro n
 induction n using Nat.strongRecOn with
 | _ n ih =>
   intro hn
   rw [descB_eq hp 0 n hn]
   by_cases h0 : n = 0
   · subst h0; rfl
   · have h1 := (parentsB_iff l).1 hp n hn
     have h2 := (stands_all5 (hs n hn).1).2.1
     have h3 : parL l n ≠ -1 := fun e => h0 (h2.2 e)
     have h4 : 0 ≤ parL l n := by omega
     rw [ih _ (by omega) (by omega)]
     simp [h4]
theorem own_lt2 {l : List TileD} {n b : Nat} (h : ownB l n = true) (hb : b < n) : ownF l b < l.length ∧ (b : Int) ∈ blkL l (ownF l b) := (own_iff h hb _).2 rfl
theorem own_has {l : List TileD} {n b k : Nat} (h : ownB l n = true) (hb : b < n) (hk : k < l.length) : (blkL l k).contains (b : Int) = (((ownF l b : Nat) : Int) == (k : Int)) := by
 rw [Bool.eq_iff_iff, List.contains_iff_mem]
 constructor
 · intro hm
   have := (own_iff h hb k).1 ⟨hk, hm⟩
   simp [this]
 · intro e
   have e2 : ownF l b = k := by have e3 : ((ownF l b : Nat) : Int) = (k : Int) := (by simpa using e); omega
   exact ((own_iff h hb k).2 e2).2
theorem all_root {ts : List TermD} {l : List TileD} (h : rightB ts l = true) : allL l 0 = (List.range ts.length).map Int.ofNat := by
 have hr := right_facts h
 obtain ⟨hf, _, hp, ho, h0, hs⟩ := hr
 have hn1 := (fits_facts hf).2.1.1
 have hlen : 0 < l.length := by have := (own_lt2 ho (b := 0) (by omega)).1; omega
 refine sorted_eq _ _ ?_ ?_ ?_
 · have : allL l (0 : Int) = sortD (rawL l 0 l.length) := by unfold allL; rw [if_pos ⟨by omega, by omega, hp⟩]; rfl
   rw [this]
   exact sorted_sortD _
 · rw [List.pairwise_map]
   refine List.Pairwise.imp ?_ (List.pairwise_lt_range (n := ts.length))
   intro a b hab
   simpa using hab
 · intro x
   have hm := mem_allL l 0 hlen hp x
   refine Iff.trans hm ?_
   constructor
   · rintro ⟨k, hk, _, hx⟩
     have := rising_mem (stands_all5 (hs k hk).1).2.2.2.2 hx
     rw [List.mem_map]
     exact ⟨x.toNat, List.mem_range.2 (by omega), by simp; omega⟩
   · intro hx
     obtain ⟨b, hb, rfl⟩ := List.mem_map.1 hx
     have := own_lt2 ho (List.mem_range.1 hb)
     exact ⟨ownF l b, this.1, desc_root h _ this.1, this.2⟩
theorem par_lt {ts : List TermD} {l : List TileD} (h : rightB ts l = true) {k : Nat} (h1 : 1 ≤ k) (hk : k < l.length) : 0 ≤ parL l k ∧ parL l k < k := by
 obtain ⟨_, _, hp, _, _, hs⟩ := right_facts h
 have h3 := (parentsB_iff l).1 hp k hk
 have h2 := (stands_all5 (hs k hk).1).2.1
 have h4 : parL l k ≠ -1 := fun e => by have := h2.2 e; omega
 omega
theorem all_sub {ts : List TermD} {l : List TileD} (h : rightB ts l = true) {k : Nat} (h1 : 1 ≤ k) (hk : k < l.length) {x : Int} (hx : x ∈ allL l (k : Int)) : x ∈ allL l (parL l k) := by
 have hp := (right_facts h).2.2.1
 have hq := par_lt h h1 hk
 obtain ⟨q, hq2⟩ : ∃ q : Nat, parL l k = q := ⟨(parL l k).toNat, by omega⟩
 rw [hq2] at hq ⊢
 rw [mem_allL l q (by omega) hp]
 obtain ⟨n, hn, hd, hb⟩ := (mem_allL l k hk hp x).1 hx
 refine ⟨n, hn, descB_trans hp q k ?_ n hn hd, hb⟩
 rw [descB_eq hp q k hk, hq2]
 simp [descB_self]
/-! ### how many homes -/
def cntH (l : List TileD) (b : Nat) : Nat := (l.map fun t => t.blocks.countP fun x => x == (b : Int)).sum
theorem homes_cnt (l : List TileD) (b : Nat) : (homes l b).length = cntH l b := by
 have key : ∀ (m : Nat) (l : List TileD), ((List.range l.length).flatMap fun k => ((blkL l k).filter fun x => x == (b : Int)).map fun _ => k + m).length = cntH l b := by
  intro m l
  induction l generalizing m with
  | nil => rfl
  | cons t l ih =>
    rw [List.length_cons, List.range_succ_eq_map, List.flatMap_cons, List.length_append, List.flatMap_map]
    have := ih (m + 1)
    have e : ((List.range l.length).flatMap fun k => ((blkL (t :: l) (k + 1)).filter fun x => x == (b : Int)).map fun _ => k + 1 + m).length = cntH l b := by
     rw [← this]
     congr 2
     funext k
     rw [show k + 1 + m = k + (m + 1) by omega]
     rfl
    simp only [Nat.succ_eq_add_one] at e ⊢
    rw [e, cntH, cntH, List.map_cons, List.sum_cons, List.length_map, List.countP_eq_length_filter]
    rfl
 have := key 0 l
 simpa [homes] using this
theorem sum_set : ∀ (L : List Nat) (k v : Nat), k < L.length → (L.set k v).sum + L.getD k 0 = L.sum + v
 | x :: L, 0, v, _ => by simp; omega
 | x :: L, k + 1, v, h => by
   have := sum_set L k v (by simpa using h)
   simp only [List.set_cons_succ, List.sum_cons, List.getD_cons_succ] at *
   omega
theorem turn_not {ts : List TermD} {l : List TileD} (h : rightB ts l = true) {k : Nat} (hk : k < l.length) {t' : TileD} {b : Nat} (hb : b < ts.length) (hc : t'.blocks.countP (fun x => x == (b : Int)) ≠ (blkL l k).countP fun x => x == (b : Int)) : rightB ts (l.set k t') = false := by
 have ho := (right_facts h).2.2.2.1
 have h1 : (homes l b).length = 1 := by rw [own_home ho hb]; rfl
 have h2 : (homes (l.set k t') b).length ≠ 1 := by
  rw [homes_cnt] at h1 ⊢
  unfold cntH at *
  rw [List.map_set]
  have := sum_set (l.map fun t => t.blocks.countP fun x => x == (b : Int)) k (t'.blocks.countP fun x => x == (b : Int)) (by simpa using hk)
  have e : (l.map fun t => t.blocks.countP fun x => x == (b : Int)).getD k 0 = (blkL l k).countP fun x => x == (b : Int) := by simp [blkL, List.getD_eq_getElem?_getD, hk]
  rw [e] at this
  omega
 cases hr : rightB ts (l.set k t') with
 | false => rfl
 | true =>
   have h3 := (right_facts hr).2.2.2.1
   exact absurd (by rw [own_home h3 hb]; rfl) h2
theorem less_not {ts : List TermD} {l : List TileD} (h : rightB ts l = true) {k : Nat} (hk : k < l.length) {t' : TileD} (ht : t'.blocks = (blkL l k).drop 1) : rightB ts (l.set k t') = false := by
 have hs := stands_all5 ((right_facts h).2.2.2.2.2 k hk).1
 cases e : blkL l k with
 | nil => exact absurd e hs.2.2.1
 | cons x r =>
   have hx := rising_mem hs.2.2.2.2 (x := x) (by rw [show (l.getD k zTile).blocks = x :: r from e]; simp)
   refine turn_not h hk (b := x.toNat) (by omega) ?_
   have e2 : ((x.toNat : Nat) : Int) = x := by omega
   rw [ht, e, e2, List.countP_cons_of_pos (by simp)]
   simp
theorem twice_not {ts : List TermD} {l : List TileD} (h : rightB ts l = true) {k : Nat} (hk : k < l.length) {t' : TileD} (ht : t'.blocks = blkL l k ++ [(blkL l k).getD 0 0]) : rightB ts (l.set k t') = false := by
 have hs := stands_all5 ((right_facts h).2.2.2.2.2 k hk).1
 cases e : blkL l k with
 | nil => exact absurd e hs.2.2.1
 | cons x r =>
   have hx := rising_mem hs.2.2.2.2 (x := x) (by rw [show (l.getD k zTile).blocks = x :: r from e]; simp)
   refine turn_not h hk (b := x.toNat) (by omega) ?_
   have e2 : ((x.toNat : Nat) : Int) = x := by omega
   rw [ht, e, e2, List.countP_append]
   simp
theorem blocks_some {ts : List TermD} {l : List TileD} (h : rightB ts l = true) {k : Nat} (hk : k < l.length) : 1 ≤ (blkL l k).length := by
 have hs := (stands_all5 ((right_facts h).2.2.2.2.2 k hk).1).2.2.1
 cases e : blkL l k with
 | nil => exact absurd e hs
 | cons x r => simp
end

section
open Go.RowKit

/-- the first place of which something is so; -1: none -/
def idxF {α : Type} (p : α → Bool) : List α → Int
 | [] => -1
 | y :: l => if p y then 0 else if idxF p l < 0 then -1 else idxF p l + 1
theorem idxF_ge {α : Type} (p : α → Bool) (l : List α) : -1 ≤ idxF p l ∧ idxF p l < l.length := by
 induction l with
 | nil => simp [idxF]
 | cons y l ih =>
   simp only [idxF, List.length_cons]
   split
   · omega
   · split <;> omega
theorem idxF_found {α : Type} (p : α → Bool) (l : List α) (k : Nat) (x : α) (hx : l[k]? = some x) (hp : p x = true) (hno : ∀ j y, j < k → l[j]? = some y → p y = false) : idxF p l = k := by
 induction l generalizing k with
 | nil => simp at hx
 | cons y l ih =>
   cases k with
   | zero => simp at hx; subst hx; simp [idxF, hp]
   | succ k =>
     have h0 := hno 0 y (by omega) rfl
     have := ih k (by simpa using hx) (fun j z hj hz => hno (j + 1) z (by omega) (by simpa using hz))
     simp only [idxF, h0, this]
     simp
     omega
theorem idxF_none {α : Type} (p : α → Bool) (l : List α) (hno : ∀ y ∈ l, p y = false) : idxF p l = -1 := by
 induction l with
 | nil => rfl
 | cons y l ih => simp [idxF, hno y (by simp), ih (fun z hz => hno z (by simp [hz]))]
theorem idxF_iff {α : Type} (p : α → Bool) (l : List α) : 0 ≤ idxF p l ↔ l.any p = true := by
 induction l with
 | nil => simp [idxF]
 | cons y l ih =>
   have hg := idxF_ge p l
   have e : idxF p (y :: l) = (if p y then 0 else if idxF p l < 0 then -1 else idxF p l + 1) := rfl
   rw [e, List.any_cons, Bool.or_eq_true, ← ih]
   by_cases hp : p y = true
   · simp [hp]
   · rw [if_neg hp]
     split
     · constructor
       · intro h; omega
       · rintro (h | h)
         · exact absurd h hp
         · omega
     · constructor
       · intro h; exact .inr (by omega)
       · intro h; omega
theorem idxF_any {α : Type} (p : α → Bool) (l : List α) : decide (0 ≤ idxF p l) = l.any p := by
 rw [Bool.eq_iff_iff, decide_eq_true_eq]
 exact idxF_iff p l

theorem ext_alloc (w : World) (o : Obj) : Below w.heap.size w (w.alloc o) := (Below.refl _ w).alloc (Nat.le_refl _) o
theorem indexFunc_any (F : Nat) (caps : Array Value) (eF : ∀ args w, (callFunc F args).run Try.prog w = .ok (.enter F args) w) (p : Int → Bool) (a : Option Addr) (n c : Nat) (xs : List Int) (w : World)
  (hp : ∀ (x : Int) (W : World), x ∈ xs → Below w.heap.size w W → Calls Try.prog F (#[.int .i64 x] ++ caps) W fun e W' => e = .returned (.bool (p x)) ∧ Below W.heap.size W W') (h : Ints w a n xs) :
  Calls Try.prog 113 #[.slice a n c, .func (.func F) #[] caps] w fun e w' => e = .returned (.int .i64 (idxF p xs)) ∧ Below w.heap.size w w' := by
 have HL := Lib.hid h.1
 have hn := h.2.1
 have H := Lib.hid h
 have HP := Lib.hid hp
 clear h hp
 go_enter Try.func113, Try.ntmps113
 go_wp2
 go_loopw [5, 8] (fun _ i wr => ∃ (k : Nat), k ≤ n ∧ i = .int .i64 k ∧ Hid (∀ j y, j < k → xs[j]? = some y → p y = false) ∧ Hid (Below w.heap.size w wr)) (fun _ i _ => n - (intOf i).toNat)
 case atStart => exact ⟨0, by omega, rfl, fun j y hj => absurd hj (by omega), Below.refl _ _⟩
 case round =>
  obtain ⟨k, hk, rfl, HR, HB⟩ := hrel
  by_cases hlt : k < n
  · obtain ⟨b, o, rfl, hcell, hw1, hw2⟩ := (H.out.ext HB.out).2.2 k hlt
    have hgk : xs[k]? = some (xs.getD k 0) := by
     have hk' : k < xs.length := by rw [HL.out]; exact hlt
     simp [List.getD_eq_getElem?_getD, hk']
    have HG := Lib.hid hgk
    have HM := Lib.hid (List.mem_of_getElem? hgk)
    clear hgk
    generalize xs.getD k 0 = r at *
    by_cases hy : p r = true
    · have HE : Hid (idxF p xs = k) := idxF_found p xs k r HG.out hy HR.out
      go_wp2
      refine (HP.out r wr HM.out HB.out).mono ?_
      rintro e w' ⟨rfl, hb'⟩
      have HB' := Lib.hid (ext_trans HB.out hb')
      clear hb'
      rw [hy]
      go_wp2
      go_ret
      exact ⟨by rw [HE.out]; rfl, HB'.out⟩
    · have hy' : p r = false := by simpa using hy
      have HE : Hid (∀ j z, j < k + 1 → xs[j]? = some z → p z = false) := fun j z hj hz => by
       by_cases e : j = k
       · subst e
         rw [HG.out] at hz
         injection hz with hz
         subst hz
         exact hy'
       · exact HR.out j z (by omega) hz
      go_wp2
      refine (HP.out r wr HM.out HB.out).mono ?_
      rintro e w' ⟨rfl, hb'⟩
      have HB' := Lib.hid (ext_trans HB.out hb')
      clear hb'
      rw [hy']
      go_wp2
      go_roundw
      case rel => exact ⟨k + 1, by omega, by go_num, HE, HB'⟩
      case measure => simp [intOf]; omega
  · obtain rfl : k = n := by omega
    have HE : Hid (idxF p xs = -1) := idxF_none p xs (fun z hz => by
     obtain ⟨j, hj, e⟩ := List.mem_iff_getElem.1 hz
     exact HR.out j z (by rw [HL.out] at hj; exact hj) (by rw [List.getElem?_eq_getElem hj, e]))
    go_wp2
    go_ret
    exact ⟨by rw [HE.out]; rfl, HB.out⟩
theorem containsFunc_any (F : Nat) (caps : Array Value) (eF : ∀ args w, (callFunc F args).run Try.prog w = .ok (.enter F args) w) (p : Int → Bool) (a : Option Addr) (n c : Nat) (xs : List Int) (w : World)
  (hp : ∀ (x : Int) (W : World), x ∈ xs → Below w.heap.size w W → Calls Try.prog F (#[.int .i64 x] ++ caps) W fun e W' => e = .returned (.bool (p x)) ∧ Below W.heap.size W W') (h : Ints w a n xs) :
  Calls Try.prog 90 #[.slice a n c, .func (.func F) #[] caps] w fun e w' => e = .returned (.bool (xs.any p)) ∧ Below w.heap.size w w' := by
 have HA := Lib.hid (idxF_any p xs)
 have hg := idxF_ge p xs
 have HP := Lib.hid hp
 have H := Lib.hid h
 clear hp h
 go_enter Try.func90, Try.ntmps90
 go_wp2_with (go_at_call 113; refine (indexFunc_any F caps eF p a n c xs w HP.out H.out).mono ?_; rintro e w' ⟨rfl, hb'⟩; have HB' := Lib.hid hb'; clear hb')
 go_ret
 exact ⟨by rw [← HA.out]; rfl, HB'.out⟩
end

section
open Go.RowKit

theorem sindex_any (a : Option Addr) (n cap : Nat) (xs : List Int) (x : Int) (w : World) (h : Ints w a n xs) :
  Calls Try.prog 96 #[.slice a n cap, .int .i64 x] w fun e w' => e = .returned (.int .i64 (idx xs x)) ∧ w = w' := by
 obtain ⟨hl, hn, hc⟩ := h
 have HL := Lib.hid hl
 have HC := Lib.hid hc
 clear hl hc
 go_enter Try.func96, Try.ntmps96
 go_wp2
 go_loop [5, 8] (fun _ i => ∃ (k : Nat), k ≤ n ∧ i = .int .i64 k ∧ Hid (∀ j, j < k → xs.getD j 0 ≠ x)) (fun _ i => n - (intOf i).toNat)
 case atStart => exact ⟨0, by omega, rfl, fun j hj => absurd hj (by omega)⟩
 case round =>
  obtain ⟨k, hk, rfl, HR⟩ := hrel
  by_cases hlt : k < n
  · obtain ⟨b, o, rfl, hcell, hw1, hw2⟩ := HC.out k hlt
    by_cases he : x = xs.getD k 0
    · have HE : Hid (idx xs x = k) := idx_found xs x k (by rw [HL.out]; exact hlt) he.symm HR.out
      have hb : (x == xs.getD k 0) = true := by simpa using he
      generalize xs.getD k 0 = y at *
      clear he
      go_wp2
      go_ret
      exact ⟨by rw [HE.out]; rfl, rfl⟩
    · have HE : Hid (∀ j, j < k + 1 → xs.getD j 0 ≠ x) := fun j hj => by
       by_cases hjk : j = k
       · subst hjk; exact fun e => he e.symm
       · exact HR.out j (by omega)
      have hb : (x == xs.getD k 0) = false := by simpa using he
      generalize xs.getD k 0 = y at *
      clear he
      go_wp2
      go_round
      case rel => exact ⟨k + 1, by omega, by go_num, HE⟩
      case measure => simp [intOf]; omega
  · go_wp2
    go_ret
    have : k = n := by omega
    subst this
    exact ⟨by rw [idx_none xs x (by rw [HL.out]; exact HR.out)]; rfl, rfl⟩

theorem scontains_any (a : Option Addr) (n cap : Nat) (xs : List Int) (x : Int) (w : World) (h : Ints w a n xs) :
  Calls Try.prog 70 #[.slice a n cap, .int .i64 x] w fun e w' => e = .returned (.bool (decide (0 ≤ idx xs x))) ∧ w = w' := by
 have hi := idx_ge xs x
 have H := Lib.hid h
 clear h
 go_enter Try.func70, Try.ntmps70
 go_wp2_with (go_at_call 96; refine (sindex_any a n cap xs x w H.out).mono ?_; rintro e w' ⟨rfl, rfl⟩)
 go_ret
 exact ⟨rfl, rfl⟩
end

section
section
variable {ts : List TermD} {l : List TileD} (h : rightB ts l = true) {k : Nat} (hk : k < l.length)
include h hk
theorem all_mem {x : Int} (hx : x ∈ allL l k) : 0 ≤ x ∧ x < ts.length := by
 obtain ⟨_, _, hp, _, _, hs⟩ := right_facts h
 obtain ⟨n, hn, _, hb⟩ := (mem_allL l k hk hp x).1 hx
 exact rising_mem (stands_all5 (hs n hn).1).2.2.2.2 hb
theorem set_iff (y : Nat) : setK l k y = true ↔ (y : Int) ∈ allL l k := by
 have hf := (right_facts h).1
 have hl := (fits_facts hf).2.1.2
 rw [setK, ofS]
 simp only [Bool.and_eq_true, decide_eq_true_eq, List.contains_iff_mem]
 constructor
 · exact fun e => e.2
 · intro e
   have := all_mem h hk e
   exact ⟨by omega, e⟩
theorem set_canon : Canon (setK l k) := fun y hy => by
 have hl := (fits_facts (right_facts h).1).2.1.2
 have := all_mem h hk ((set_iff h hk y).1 hy)
 omega
theorem set_low {y : Nat} (hy : setK l k y = true) : y < ts.length := by
 have := all_mem h hk ((set_iff h hk y).1 hy)
 omega
theorem all_list : allL l k = intsN (listS (setK l k)) := by
 have hp := (right_facts h).2.2.1
 refine sorted_eq _ _ ?_ ?_ ?_
 · unfold allL; rw [if_pos ⟨by omega, by omega, hp⟩]; exact sorted_sortD _
 · unfold intsN listS
   rw [List.pairwise_map]
   refine List.Pairwise.imp ?_ ((List.pairwise_lt_range (n := 200)).filter _)
   intro a b hab
   simpa using hab
 · intro x
   constructor
   · intro hx
     have := all_mem h hk hx
     obtain ⟨y, rfl⟩ : ∃ y : Nat, x = y := ⟨x.toNat, by omega⟩
     have := (set_iff h hk y).2 hx
     exact List.mem_map.2 ⟨y, (mem_listS (set_canon h hk) y).2 this, rfl⟩
   · intro hx
     obtain ⟨y, hy, rfl⟩ := List.mem_map.1 hx
     exact (set_iff h hk y).1 ((mem_listS (set_canon h hk) y).1 hy)
theorem all_len : (allL l k).length = (listS (setK l k)).length := by rw [all_list h hk]; simp [intsN]
theorem own_all {x : Int} (hx : x ∈ blkL l k) : x ∈ allL l k := (mem_allL l k hk (right_facts h).2.2.1 x).2 ⟨k, hk, descB_self l k, hx⟩
theorem own_of {b : Nat} (hx : (b : Int) ∈ blkL l k) : b < ts.length ∧ ownF l b = k := by
 have := all_mem h hk (own_all h hk hx)
 exact ⟨by omega, (own_iff (right_facts h).2.2.2.1 (by omega) k).1 ⟨hk, hx⟩⟩
theorem kind_four : (l.getD k zTile).kind = 1 ∨ (l.getD k zTile).kind = 2 ∨ (l.getD k zTile).kind = 3 ∨ (l.getD k zTile).kind = 4 := by
 have h1 := ((right_facts h).2.2.2.2.2 k hk).2
 unfold holdsB at h1
 by_cases e3 : (l.getD k zTile).kind = 3
 · exact .inr (.inr (.inl e3))
 · rw [if_neg e3] at h1
   by_cases e2 : (l.getD k zTile).kind = 2
   · exact .inr (.inl e2)
   · rw [if_neg e2] at h1
     by_cases e4 : (l.getD k zTile).kind = 4
     · exact .inr (.inr (.inr e4))
     · rw [if_neg e4] at h1
       by_cases e1 : (l.getD k zTile).kind = 1
       · exact .inl e1
       · rw [if_neg e1] at h1; cases h1
theorem rings_at {inn : Nat → Bool} (hc : Canon inn) (hr : ringsB ts (l.getD k zTile).blocks inn = false) {b : Nat} (hb : (b : Int) ∈ blkL l k) : walkF (nx ts) inn b b = false := by
 unfold ringsB at hr
 rw [List.any_eq_false] at hr
 have := hr _ hb
 rw [Int.toNat_natCast, ring_iff hc] at this
 simpa using this
theorem no_ring (h2 : (l.getD k zTile).kind ≠ 2) (h3 : (l.getD k zTile).kind ≠ 3) {b : Nat} (hb : (b : Int) ∈ blkL l k) : walkF (nx ts) (setK l k) b b = false := by
 have h1 := ((right_facts h).2.2.2.2.2 k hk).2
 unfold holdsB at h1
 rw [if_neg h3, if_neg h2] at h1
 by_cases h4 : (l.getD k zTile).kind = 4
 · rw [if_pos h4, Bool.and_eq_true, Bool.not_eq_true'] at h1
   exact rings_at h hk (set_canon h hk) h1.2 hb
 · rw [if_neg h4] at h1
   by_cases h5 : (l.getD k zTile).kind = 1
   · rw [if_pos h5, Bool.not_eq_true'] at h1
     exact rings_at h hk (set_canon h hk) h1 hb
   · rw [if_neg h5] at h1; cases h1
theorem ring_entry (h2 : (l.getD k zTile).kind = 2) {b : Nat} (hb : (b : Int) ∈ blkL l k) : walkF (nx ts) (lessS (setK l k) ((entriesS ts (setK l k)).headD 0)) b b = false := by
 have h1 := ((right_facts h).2.2.2.2.2 k hk).2
 have h3 : (l.getD k zTile).kind ≠ 3 := by omega
 unfold holdsB at h1
 rw [if_neg h3, if_pos h2, Bool.and_eq_true, Bool.not_eq_true'] at h1
 exact rings_at h hk (less_canon (set_canon h hk) _) h1.2 hb
theorem all_walk (h2 : (l.getD k zTile).kind = 2 ∨ (l.getD k zTile).kind = 3) {b : Nat} (hb : setK l k b = true) : walkF (nx ts) (setK l k) b = setK l k := by
 have h1 := ((right_facts h).2.2.2.2.2 k hk).2
 have ht : togetherB ts (setK l k) = true := by
  unfold holdsB at h1
  by_cases h3 : (l.getD k zTile).kind = 3
  · rw [if_pos h3, Bool.and_eq_true] at h1; exact h1.2
  · rw [if_neg h3, if_pos (h2.resolve_right h3), Bool.and_eq_true, Bool.and_eq_true] at h1; exact h1.1.2
 have hc := set_canon h hk
 rw [together_all hc, List.all_eq_true] at ht
 exact (eqS_iff (walkF_canon hc b) hc).1 (ht b ((mem_listS hc b).2 hb))
theorem one_entry (h2 : (l.getD k zTile).kind = 2 ∨ (l.getD k zTile).kind = 4) : ∃ e : Nat, entriesS ts (setK l k) = [e] ∧ (e : Int) ∈ blkL l k := by
 have h1 := ((right_facts h).2.2.2.2.2 k hk).2
 have ho : oneB (l.getD k zTile) (entriesS ts (setK l k)) = true := by
  unfold holdsB at h1
  by_cases h3 : (l.getD k zTile).kind = 3
  · omega
  · rw [if_neg h3] at h1
    by_cases h4 : (l.getD k zTile).kind = 2
    · rw [if_pos h4, Bool.and_eq_true, Bool.and_eq_true] at h1; exact h1.1.1
    · rw [if_neg h4, if_pos (h2.resolve_left h4), Bool.and_eq_true] at h1; exact h1.1
 simp only [oneB, Bool.and_eq_true, beq_iff_eq] at ho
 obtain ⟨e, he⟩ := List.length_eq_one_iff.1 ho.1
 rw [he] at ho
 exact ⟨e, he, List.contains_iff_mem.1 ho.2⟩
theorem two_entries (h3 : (l.getD k zTile).kind = 3) : 2 ≤ (entriesS ts (setK l k)).length := by
 have h1 := ((right_facts h).2.2.2.2.2 k hk).2
 unfold holdsB at h1
 rw [if_pos h3, Bool.and_eq_true, decide_eq_true_eq] at h1
 exact h1.1
omit hk in
theorem root_entries (hk : 0 < l.length) : entriesS ts (setK l 0) = [] := by
 have hc := set_canon h hk
 cases e : entriesS ts (setK l 0) with
 | nil => rfl
 | cons b r =>
   have hm : b ∈ entriesS ts (setK l 0) := by rw [e]; simp
   obtain ⟨_, hb, x, hx, hs⟩ := (mem_entries hc b).1 hm
   have hxn : x < ts.length := by
    apply Classical.byContradiction
    intro hge
    rw [nx_none ts x (by omega)] at hx
    cases hx
   have : setK l 0 x = true := by
    rw [set_iff h hk, show allL l ((0 : Nat) : Int) = allL l 0 from rfl, all_root h]
    exact List.mem_map.2 ⟨x, List.mem_range.2 hxn, rfl⟩
   rw [this] at hs; cases hs
theorem all_less (h1 : 1 ≤ k) : (allL l k).length < (allL l (parL l k)).length := by
 have hp := (right_facts h).2.2.1
 have hq := par_lt h h1 hk
 obtain ⟨q, hq2⟩ : ∃ q : Nat, parL l k = q := ⟨(parL l k).toNat, by omega⟩
 rw [hq2] at hq ⊢
 have hql : q < l.length := by omega
 rw [all_len h hk, all_len h hql]
 obtain ⟨b, hb⟩ : ∃ b : Nat, (b : Int) ∈ blkL l q := by
  have := blocks_some h hql
  cases e : blkL l q with
  | nil => rw [e] at this; simp at this
  | cons x r =>
    have hx : x ∈ blkL l q := by rw [e]; simp
    have := all_mem h hql (own_all h hql hx)
    exact ⟨x.toNat, by rw [show ((x.toNat : Nat) : Int) = x by omega]; simp⟩
 obtain ⟨hbn, hbo⟩ := own_of h hql hb
 have hl := (fits_facts (right_facts h).1).2.1.2
 refine filter_lt (List.range 200) (fun x _ hx => ?_) ⟨b, List.mem_range.2 (by omega), (set_iff h hql b).2 (own_all h hql hb), ?_⟩
 · have := all_sub h h1 hk ((set_iff h hk x).1 hx)
   rw [hq2] at this
   exact (set_iff h hql x).2 this
 · cases hx : setK l k b with
   | false => rfl
   | true =>
     have := (set_iff h hk b).1 hx
     rw [mem_all_own hp (right_facts h).2.2.2.1 hbn hk, hbo] at this
     have := descB_ge hp k q hql this
     omega
end
end
end Go.Proofs.Ytblhmdhfhaencaa
