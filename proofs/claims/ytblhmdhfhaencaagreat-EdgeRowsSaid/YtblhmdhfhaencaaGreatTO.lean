/-
  Tile: whose own each block is.
-/
import Derived.Test.YtblhmdhfhaencaaGreatTM
import Derived.Test.YtblhmdhfhaencaaGreatTN
import Derived.Test.YtblhmdhfhaencaaGreatSameI
namespace Go.Proofs.YtblhmdhfhaencaaGreat
set_option linter.unusedSimpArgs false
set_option linter.unusedVariables false
open Go.RowKit

/-! ### plain -/
/-- the tiles in which a block stands, as far as that has been gone through: all of the first k tiles, i numbers of the next one -/
def homesAt (l : List TileD) (k i b : Nat) : List Nat := ((List.range k).flatMap fun q => ((blkL l q).filter fun x => x == (b : Int)).map fun _ => q) ++ (((blkL l k).take i).filter fun x => x == (b : Int)).map fun _ => k
theorem homesAt_zero (l : List TileD) (b : Nat) : homesAt l 0 0 b = [] := by simp [homesAt]
theorem homesAt_next (l : List TileD) (k b : Nat) : homesAt l k (blkL l k).length b = homesAt l (k + 1) 0 b := by
  simp only [homesAt, List.take_length, List.range_succ, List.flatMap_append, List.flatMap_cons, List.flatMap_nil, List.append_nil, List.take_zero, List.filter_nil, List.map_nil]
theorem homesAt_end (l : List TileD) (b : Nat) : homesAt l l.length 0 b = homes l b := by simp [homesAt, homes]
theorem homesAt_step (l : List TileD) (k i : Nat) (x : Int) (h : (blkL l k)[i]? = some x) (b : Nat) : homesAt l k (i + 1) b = if (b : Int) = x then homesAt l k i b ++ [k] else homesAt l k i b := by
  have e : (blkL l k).take (i + 1) = (blkL l k).take i ++ [x] := by rw [List.take_add_one, h]; rfl
  simp only [homesAt, e, List.filter_append, List.map_append]
  by_cases hb : (b : Int) = x
  · rw [← hb]; simp
  · have : (x == (b : Int)) = false := by simpa using fun e => hb e.symm
    simp [hb, this]
/-- what has been gone through is the begin of it all -/
theorem homesAt_le (l : List TileD) (k i b : Nat) (hk : k < l.length) : ∃ r, homes l b = homesAt l k i b ++ r := by
  have h1 : ∃ r, homesAt l k (blkL l k).length b = homesAt l k i b ++ r := by
    refine ⟨(((blkL l k).drop i).filter fun x => x == (b : Int)).map fun _ => k, ?_⟩
    simp only [homesAt, List.take_length, List.append_assoc]
    congr 1
    rw [← List.map_append, ← List.filter_append, List.take_append_drop]
  obtain ⟨r, hr⟩ := h1
  have h2 : ∀ m, k + 1 ≤ m → ∃ r, homesAt l m 0 b = homesAt l (k + 1) 0 b ++ r := by
    intro m
    induction m with
    | zero => intro h; omega
    | succ m ih =>
      intro hm
      by_cases e : m = k
      · subst e; exact ⟨[], by simp⟩
      · obtain ⟨r, hr⟩ := ih (by omega)
        refine ⟨r ++ ((blkL l m).filter fun x => x == (b : Int)).map fun _ => m, ?_⟩
        rw [← List.append_assoc, ← hr]
        simp [homesAt, List.range_succ]
  obtain ⟨r2, hr2⟩ := h2 l.length (by omega)
  refine ⟨r ++ r2, ?_⟩
  rw [← homesAt_end, hr2, ← homesAt_next, hr, List.append_assoc]
def ownV : List Nat → Int
  | [] => -1
  | k :: _ => (k : Int)
theorem ownV_neg (h : List Nat) : ownV h < 0 ↔ h = [] := by cases h <;> simp [ownV]
def curL (l : List TileD) (n k i : Nat) : List Int := (List.range n).map fun b => ownV (homesAt l k i b)
theorem curL_len (l : List TileD) (n k i : Nat) : (curL l n k i).length = n := by simp [curL]
theorem curL_at (l : List TileD) (n k i b : Nat) (h : b < n) : (curL l n k i).getD b 0 = ownV (homesAt l k i b) := by simp [curL, List.getD_eq_getElem?_getD, h]
theorem curL_set (l : List TileD) (n k i b : Nat) (hx : (blkL l k)[i]? = some (b : Int)) (h0 : homesAt l k i b = []) : (curL l n k i).set b (k : Int) = curL l n k (i + 1) := by
  apply List.ext_getElem?
  intro j
  rw [List.getElem?_set]
  simp only [curL, List.length_map, List.length_range, List.getElem?_map]
  by_cases hj : j < n
  · rw [List.getElem?_range hj]
    by_cases e : b = j
    · subst e
      simp [hj, homesAt_step l k i (b : Int) hx b, h0, ownV]
    · rw [if_neg e]
      have e2 : ¬ (j : Int) = (b : Int) := by omega
      simp [homesAt_step l k i (b : Int) hx j, e2]
  · rw [List.getElem?_eq_none (by simpa using hj)]
    by_cases e : b = j
    · subst e; simp [hj]
    · simp [e]
theorem curL_skip (l : List TileD) (n k i : Nat) (x : Int) (hx : (blkL l k)[i]? = some x) (h : x < 0 ∨ (n : Int) ≤ x) : curL l n k i = curL l n k (i + 1) := by
  unfold curL
  refine List.map_congr_left fun b hb => ?_
  have := List.mem_range.1 hb
  rw [homesAt_step l k i x hx b, if_neg (by omega)]
theorem curL_next (l : List TileD) (n k : Nat) : curL l n k (blkL l k).length = curL l n (k + 1) 0 := by
  unfold curL
  exact List.map_congr_left fun b _ => by rw [homesAt_next]
theorem curL_zero (l : List TileD) (n : Nat) : curL l n 0 0 = List.replicate n (-1) := by
  apply List.ext_getElem?
  intro j
  by_cases hj : j < n <;> simp [curL, homesAt_zero, ownV, hj]
theorem curL_end (l : List TileD) (n : Nat) (h1 : ∀ b, b < n → (homes l b).length ≤ 1) (h2 : (-1 : Int) ∉ curL l n l.length 0) : ownB l n = true ∧ curL l n l.length 0 = ownL l n := by
  have h3 : ∀ b, b < n → homes l b ≠ [] := fun b hb e => by
    apply h2
    unfold curL
    rw [List.mem_map]
    exact ⟨b, List.mem_range.2 hb, by rw [homesAt_end, e]; rfl⟩
  constructor
  · simp only [ownB, List.all_eq_true, List.mem_range, beq_iff_eq]
    intro b hb
    have := h1 b hb
    have := List.length_pos_iff.2 (h3 b hb)
    omega
  · unfold curL ownL
    refine List.map_congr_left fun b hb => ?_
    rw [homesAt_end, ownF]
    cases e : homes l b with
    | nil => exact absurd e (h3 b (List.mem_range.1 hb))
    | cons k r => rfl
theorem own_no1 (l : List TileD) (n b : Nat) (hb : b < n) (h : (homes l b).length ≠ 1) : ownB l n = false := by
  rw [Bool.eq_false_iff]
  intro h2
  simp only [ownB, List.all_eq_true, List.mem_range, beq_iff_eq] at h2
  exact h (h2 b hb)
theorem curL_ok (l : List TileD) (n k i : Nat) (hk : k ≤ 20000000000000) : ∀ x ∈ curL l n k i, I64 x := by
  intro x hx
  unfold curL at hx
  rw [List.mem_map] at hx
  obtain ⟨b, _, rfl⟩ := hx
  have hq : ∀ q ∈ homesAt l k i b, q ≤ k := by
    intro q hq
    simp only [homesAt, List.mem_append, List.mem_flatMap, List.mem_range, List.mem_map] at hq
    rcases hq with ⟨p, hp, _, _, rfl⟩ | ⟨_, _, rfl⟩ <;> omega
  unfold I64
  cases e : homesAt l k i b with
  | nil => simp [ownV]
  | cons q r =>
    have := hq q (by rw [e]; simp)
    simp only [ownV]
    omega
/-! ### the walk -/
/-- what holds while tiles are gone through -/
def OwJ (w : World) (l : List TileD) (bn k i : Nat) (v : Value) (wr : World) : Prop := OwnI wr w.heap.size v (curL l bn k i) ∧ (∀ b, b < bn → (homesAt l k i b).length ≤ 1) ∧ Below w.heap.size w wr
def OwnPost (w : World) (l : List TileD) (n : Nat) (e : Ending) (w' : World) : Prop :=
  ∃ v, e = .returned v ∧ Below w.heap.size w w' ∧ (ownB l n = true → ∃ g c, v = .slice (some ⟨g, 0, none⟩) n c ∧ OwnI w' w.heap.size v (ownL l n)) ∧ (ownB l n = false → v = nilV)
set_option maxRecDepth 100000 in
set_option maxHeartbeats 4000000 in
theorem own_any (d : WalkD) (hd1 : 1 ≤ d.bn) (hd2 : d.bn ≤ 200) (a : Option Addr) (n c : Nat) (ls : List TileR) (w : World) (h : TilesOK w a n ls) :
    Calls Tryz.prog 91 #[walkV d, .slice a n c] w (OwnPost w (tdOf ls) d.bn) := by
  have hn := h.1.2.1
  have HL := Lib.hid h.1.1
  have H := Lib.hid h
  clear h
  go_enter Tryz.func91, Tryz.ntmps91
  go_wp2_with (
    (go_at_call 158
     refine (repeat_any d.bn (w.heap.size + 1) (-1) (by unfold I64; omega) hd1 (by omega) _ (by rw [cell_of_row _ _ _ _ _ _ (heap_at _ _ _ (by simp))]; rfl)).mono ?_
     rintro e w2 ⟨v, rfl, ho, hb⟩
     have HO := Lib.hid ho
     have HB := Lib.hid (ext_trans ((ext_alloc _ _).alloc (by simp) _) hb)
     clear ho hb))
  have hfm : ∃ g c, v = .slice (some ⟨g, 0, none⟩) d.bn c := by
    have := own_form HO.out.1 (by simp; omega)
    simpa using this
  obtain ⟨G, C, rfl⟩ := hfm
  have HO0 : Hid (OwnI w2 w.heap.size (.slice (some ⟨G, 0, none⟩) d.bn C) (curL (tdOf ls) d.bn 0 0)) := by rw [Hid, curL_zero]; exact HO.out.mono (by simp; omega)
  clear HO
  go_loopg [18] n (fun gg s wr => ∃ (k : Nat), s = .int .i64 (k : Int) ∧ k ≤ n ∧ n ≤ gg + k ∧ Hid (OwJ w (tdOf ls) d.bn k 0 (.slice (some ⟨G, 0, none⟩) d.bn C) wr))
  case atStart => exact ⟨0, rfl, Nat.zero_le _, Nat.le_refl _, HO0.out, fun b _ => by rw [homesAt_zero]; simp, HB.out⟩
  case round =>
    obtain ⟨k, rfl, hk, hgg, HJ⟩ := hrel
    clear HO0 HB
    by_cases hlt : k < n
    · have hkl : k < (tdOf ls).length := by rw [tdOf_len, HL.out]; exact hlt
      obtain ⟨t, b, o, hlk, hok, rfl, c0', c1', c2'⟩ := H.out.cells hlt
      have c0 := cell_ext HJ.out.2.2 c0'
      have c1 := cell_ext HJ.out.2.2 c1'
      have c2 := cell_ext HJ.out.2.2 c2'
      clear c0' c1' c2'
      have HTB : Hid (blkL (tdOf ls) k = t.d.blocks) := by rw [Hid, blkL, tdOf_at ls k t hlk]
      have HOK := Lib.hid hok.1
      have hbl : t.d.blocks.length = t.bn := hok.1.1
      have hbn : t.bn ≤ 17592186044416 := hok.1.2.1
      have HBL := Lib.hid hbl
      have HCW : Hid (∃ t', (tdOf ls).getD k zTile = t') := ⟨_, rfl⟩
      clear hlk hok hbl HCW
      generalize htba : t.ba = tba at *
      have HTBA := Lib.hid htba
      clear htba
      go_upto_region 5 with (fail)
      obtain ⟨W1, hW1⟩ : ∃ W1, W1 = wr.alloc (.cells #[.int .i64 t.d.kind, .int .i64 t.d.parent, .slice tba t.bn t.bc] 76) := ⟨_, rfl⟩
      rw [← hW1]
      have hB1 : Below wr.heap.size wr W1 := by rw [hW1]; exact ext_alloc _ _
      have hx1 : W1.heap[wr.heap.size]? = some (.cells #[.int .i64 t.d.kind, .int .i64 t.d.parent, .slice tba t.bn t.bc] 76 (0, 0)) := by rw [hW1, heap_alloc_new]
      have d2 : W1.cell? ⟨wr.heap.size, 2, none⟩ = some (.slice tba t.bn t.bc) := by rw [cell_of_row _ _ _ _ _ _ hx1]; rfl
      have HJ1 : Hid (OwJ w (tdOf ls) d.bn k 0 (.slice (some ⟨G, 0, none⟩) d.bn C) W1) := ⟨HJ.out.1.ext hB1, HJ.out.2.1, ext_trans HJ.out.2.2 hB1⟩
      have HGlt : G < wr.heap.size := (HJ.out.1.1.lt G rfl).2
      clear hW1 hx1 c0 c1 c2 HJ
      go_wp2
      obtain ⟨wo, rfl⟩ : ∃ wo : World, wo = wr := ⟨_, rfl⟩
      go_loopg [26] t.bn (fun g2 s wr => ∃ (i : Nat), s = .int .i64 (i : Int) ∧ i ≤ t.bn ∧ t.bn ≤ g2 + i ∧ Hid (OwJ w (tdOf ls) d.bn k i (.slice (some ⟨G, 0, none⟩) d.bn C) wr))
      case atStart => exact ⟨0, rfl, Nat.zero_le _, Nat.le_refl _, HJ1⟩
      case round =>
        obtain ⟨i, rfl, hi, hg2, HJ⟩ := hrel
        clear HJ1 d2
        by_cases hil : i < t.bn
        · obtain ⟨b3, o3, rfl, hcx, hx1, hx2⟩ := (HOK.out.ext HJ.out.2.2).2.2 i hil
          have HXI : Hid ((blkL (tdOf ls) k)[i]? = some (t.d.blocks.getD i 0)) := by
            rw [Hid, HTB.out, List.getD_eq_getElem?_getD, List.getElem?_eq_getElem (by rw [HBL.out]; exact hil)]
            rfl
          have hil' : (i : Int) < (t.bn : Int) := by omega
          generalize t.d.blocks.getD i 0 = x at *
          by_cases hxr : 0 ≤ x ∧ x < d.bn
          · obtain ⟨hxr1, hxr2⟩ := hxr
            obtain ⟨xn, rfl⟩ : ∃ xn : Nat, x = (xn : Int) := ⟨x.toNat, by omega⟩
            have hxn : xn < d.bn := by omega
            have hcw : wr.cell? ⟨G, xn, none⟩ = some (.int .i64 (ownV (homesAt (tdOf ls) k i xn))) := by
              obtain ⟨b4, o4, e4, h4, _⟩ := HJ.out.1.ints.2.2 xn hxn
              injection e4 with e4
              injection e4 with e5 e6
              subst e5 e6
              rw [Nat.zero_add, curL_at _ _ _ _ _ hxn] at h4
              exact h4
            by_cases hh : homesAt (tdOf ls) k i xn = []
            · have hown : wr.ownsRow w.heap.size 3 1 (.slice (some ⟨G, 0, none⟩) d.bn C) d.bn (intVals (curL (tdOf ls) d.bn k i)) := by have := HJ.out.1.1; rwa [curL_len] at this
              have hst := hown.stored xn (.int .i64 (k : Int))
              have hno : ownV (homesAt (tdOf ls) k i xn) = -1 := by rw [hh]; rfl
              rw [hno] at hcw
              have HJ2 : Hid (OwJ w (tdOf ls) d.bn k (i + 1) (.slice (some ⟨G, 0, none⟩) d.bn C) (wr.setCell ⟨G, xn, none⟩ (.int .i64 (k : Int)))) := by
                refine ⟨⟨?_, curL_ok _ _ _ _ (by omega), by rw [curL_len]; omega⟩, fun b hb => ?_, HJ.out.2.2.setCell (by have := (HJ.out.1.1.lt G rfl).1; exact this) _⟩
                · have h5 := hst.1
                  have e5 : (intVals (curL (tdOf ls) d.bn k i)).set xn (.int .i64 (k : Int)) = intVals (curL (tdOf ls) d.bn k (i + 1)) := by
                    rw [← curL_set (tdOf ls) d.bn k i xn HXI.out hh]
                    simp [intVals, List.map_set]
                  rw [e5] at h5
                  rw [curL_len]
                  exact h5
                · rw [homesAt_step _ _ _ _ HXI.out]
                  by_cases e : (b : Int) = (xn : Int)
                  · have : b = xn := by omega
                    subst this
                    rw [if_pos rfl, hh]; simp
                  · rw [if_neg e]; exact HJ.out.2.1 b hb
              have hfw := hown.frozenAt xn
              have hlw := (HJ.out.1.1.lt G rfl).2
              clear hst hno hh HJ hown
              go_wp2
              go_roundg (t.bn - (i + 1))
              case measure => omega
              case rel => exact ⟨i + 1, by go_num, by omega, by omega, HJ2⟩
            · have hge : 0 ≤ ownV (homesAt (tdOf ls) k i xn) := by
                have := mt (ownV_neg (homesAt (tdOf ls) k i xn)).1 hh
                omega
              have HE : Hid (ownB (tdOf ls) d.bn = false) := by
                refine own_no1 _ _ xn hxn ?_
                obtain ⟨r, hr⟩ := homesAt_le (tdOf ls) k (i + 1) xn hkl
                rw [hr, homesAt_step _ _ _ _ HXI.out, if_pos rfl]
                have := List.length_pos_iff.2 hh
                simp
                omega
              have HBW := Lib.hid HJ.out.2.2
              clear hh HJ
              generalize ownV (homesAt (tdOf ls) k i xn) = ov at *
              go_wp2
              go_ret
              exact ⟨_, rfl, HBW.out, fun h => by (rw [HE.out] at h; cases h), fun _ => rfl⟩
          · have HJ2 : Hid (OwJ w (tdOf ls) d.bn k (i + 1) (.slice (some ⟨G, 0, none⟩) d.bn C) wr) := by
              refine ⟨?_, fun b hb => ?_, HJ.out.2.2⟩
              · rw [← curL_skip (tdOf ls) d.bn k i x HXI.out (by omega)]; exact HJ.out.1
              · rw [homesAt_step _ _ _ _ HXI.out, if_neg (by omega)]; exact HJ.out.2.1 b hb
            clear HJ
            by_cases hx0 : x < 0
            all_goals
              go_wp2
              go_roundg (t.bn - (i + 1))
              case measure => omega
              case rel => exact ⟨i + 1, by go_num, by omega, by omega, HJ2⟩
        · obtain rfl : i = t.bn := by omega
          have HJ2 : Hid (OwJ w (tdOf ls) d.bn (k + 1) 0 (.slice (some ⟨G, 0, none⟩) d.bn C) wr) := by
            have e : t.bn = (blkL (tdOf ls) k).length := by rw [HTB.out, HBL.out]
            refine ⟨?_, fun b hb => ?_, HJ.out.2.2⟩
            · rw [← curL_next, ← e]; exact HJ.out.1
            · rw [← homesAt_next, ← e]; exact HJ.out.2.1 b hb
          clear HJ
          go_wp2
          go_roundg (n - (k + 1))
          case measure => omega
          case rel => exact ⟨k + 1, by go_num, by omega, by omega, HJ2⟩
    · obtain rfl : k = n := by omega
      have hlen : (tdOf ls).length = k := by rw [tdOf_len, HL.out]
      have HO := Lib.hid HJ.out.1
      have HI := Lib.hid (HJ.out.1.ints)
      have h1 := HJ.out.2.1
      have h1' : ∀ b, b < d.bn → (homes (tdOf ls) b).length ≤ 1 := fun b hb => by have := h1 b hb; rw [← hlen, homesAt_end] at this; exact this
      have HX := Lib.hid (idx_neg_iff (curL (tdOf ls) d.bn k 0) (-1))
      have HEND : Hid ((-1 : Int) ∉ curL (tdOf ls) d.bn k 0 → ownB (tdOf ls) d.bn = true ∧ curL (tdOf ls) d.bn k 0 = ownL (tdOf ls) d.bn) := fun h => by
        have := curL_end (tdOf ls) d.bn h1' (by rw [hlen]; exact h)
        rwa [hlen] at this
      have HNO : Hid ((-1 : Int) ∈ curL (tdOf ls) d.bn k 0 → ownB (tdOf ls) d.bn = false) := fun h => by
        unfold curL at h
        rw [List.mem_map] at h
        obtain ⟨b, hb, e⟩ := h
        refine own_no1 _ _ b (List.mem_range.1 hb) ?_
        have e2 := (ownV_neg (homesAt (tdOf ls) k 0 b)).1 (by omega)
        rw [← hlen, homesAt_end] at e2
        rw [e2]; simp
      have HBW := Lib.hid HJ.out.2.2
      clear h1 h1' hlen HJ
      by_cases hm : (-1 : Int) ∈ curL (tdOf ls) d.bn k 0
      · have HE := Lib.hid (HNO.out hm)
        have hd9 : decide (0 ≤ idx (curL (tdOf ls) d.bn k 0) (-1)) = true := by
          have := mt HX.out.1
          simp only [decide_eq_true_eq]
          apply Classical.byContradiction
          intro hh
          exact (HX.out.1 (by omega)) hm
        have HD9 := Lib.hid hd9
        clear hm hd9
        go_wp2_with (go_at_call 159; refine (scontains_any _ _ _ (curL (tdOf ls) d.bn k 0) (-1) wr HI.out).mono ?_; rintro e w' ⟨rfl, rfl⟩; rw [HD9.out])
        go_ret
        exact ⟨_, rfl, HBW.out, fun h => by (rw [HE.out] at h; cases h), fun _ => rfl⟩
      · have HE := Lib.hid (HEND.out hm)
        have hd9 : decide (0 ≤ idx (curL (tdOf ls) d.bn k 0) (-1)) = false := by
          have := HX.out.2 hm
          simp only [decide_eq_false_iff_not]
          omega
        have HD9 := Lib.hid hd9
        clear hm hd9
        go_wp2_with (go_at_call 159; refine (scontains_any _ _ _ (curL (tdOf ls) d.bn k 0) (-1) wr HI.out).mono ?_; rintro e w' ⟨rfl, rfl⟩; rw [HD9.out])
        go_ret
        refine ⟨_, rfl, HBW.out, fun _ => ⟨G, C, rfl, ?_⟩, fun h => by (rw [HE.out.1] at h; cases h)⟩
        have := HO.out
        rw [HE.out.2] at this
        exact this
end Go.Proofs.YtblhmdhfhaencaaGreat
