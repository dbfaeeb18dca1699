/-
  The document's way to whose own blocks are, to entries, to what an edge leaves, plain. No program in sight.
-/
import Derived.Test.YtblhmdhfhaencaaGreatRJ
import Derived.Test.YtblhmdhfhaencaaGreatTO
import Derived.Test.YtblhmdhfhaencaaGreatEU
import Derived.Test.YtblhmdhfhaencaaGreatTH
import Derived.Test.YtblhmdhfhaencaaGreatMix
import Derived.Test.YtblhmdhfhaencaaGreatOwnI
import Derived.Test.YtblhmdhfhaencaaGreatRowG
import Derived.Test.YtblhmdhfhaencaaGreatTT
namespace Go.Proofs.YtblhmdhfhaencaaGreat
set_option linter.unusedSimpArgs false
set_option linter.unusedVariables false

/-! ### whose own -/
theorem homes_len (l : List TileD) (b : Nat) : (homes l b).length ≤ totL l := by
  rw [← rangeSum, homes, List.length_flatMap]
  have : ∀ L : List Nat, (L.map fun k => (((blkL l k).filter fun x => x == (b : Int)).map fun _ => k).length).sum ≤ (L.map fun n => (blkL l n).length).sum := by
    intro L
    induction L with
    | nil => simp
    | cons x L ih =>
      simp only [List.map_cons, List.sum_cons, List.length_map] at ih ⊢
      have := List.length_filter_le (fun x => x == (b : Int)) (blkL l x)
      omega
  exact this _
theorem homesAt_len (l : List TileD) (k i b : Nat) (hk : k ≤ l.length) (hi : k = l.length → i = 0) : (homesAt l k i b).length ≤ totL l := by
  by_cases h : k < l.length
  · obtain ⟨r, hr⟩ := homesAt_le l k i b h
    have := homes_len l b
    rw [hr, List.length_append] at this
    omega
  · have e : k = l.length := by omega
    rw [hi e, e, homesAt_end]
    exact homes_len l b
theorem ownL_step {l : List TileD} {b : Nat} (h : (homes l b).length = 1) : ownL l (b + 1) = ownL l b ++ intsN (homes l b) := by
  have : intsN (homes l b) = [(ownF l b : Int)] := by
    match e : homes l b, h with
    | [x], _ => simp [intsN, ownF, e]
  rw [this, ownL, ownL, List.range_succ, List.map_append]
  rfl
theorem ownL_len (l : List TileD) (n : Nat) : (ownL l n).length = n := by simp [ownL]
theorem ownB_all {l : List TileD} {n : Nat} (h : ∀ b, b < n → (homes l b).length = 1) : ownB l n = true := by
  simp only [ownB, List.all_eq_true, List.mem_range, beq_iff_eq]
  exact h
/-! ### entries -/
def entTo (ts : List TermD) (s : Nat → Bool) (i k : Nat) : Nat → Bool := fun y => s y && (pvAt ts i k y).any fun x => !s x
theorem entTo_zero (ts : List TermD) (s : Nat → Bool) : entTo ts s 0 0 = fun _ => false := by
  funext y; simp [entTo, pvAt_zero]
theorem entTo_next (ts : List TermD) (s : Nat → Bool) (i k : Nat) (h : (nx ts i).length ≤ k) : entTo ts s i k = entTo ts s (i + 1) 0 := by
  funext y; rw [entTo, entTo, pvAt_next ts i k y h]
theorem entTo_in (ts : List TermD) (s : Nat → Bool) (i : Nat) (hi : s i = true) : entTo ts s i 0 = entTo ts s (i + 1) 0 := by
  rw [← entTo_next ts s i (nx ts i).length (Nat.le_refl _)]
  have : ∀ k, k ≤ (nx ts i).length → entTo ts s i 0 = entTo ts s i k := by
    intro k
    induction k with
    | zero => intro _; rfl
    | succ k ih =>
      intro hk
      rw [ih (by omega)]
      funext y
      rw [entTo, entTo, pvAt_step ts i k _ (List.getElem?_eq_getElem (by omega)) y]
      split
      · simp [hi]
      · rfl
  exact this _ (Nat.le_refl _)
theorem entTo_put (ts : List TermD) (s : Nat → Bool) (i k : Nat) (hk : k < (nx ts i).length) (hi : s i = false) (hs : s ((nx ts i).getD k 0) = true) : (fun y => if y = (nx ts i).getD k 0 then true else entTo ts s i k y) = entTo ts s i (k + 1) := by
  have hg : (nx ts i)[k]? = some ((nx ts i).getD k 0) := by simp [List.getD_eq_getElem?_getD, hk]
  funext y
  rw [entTo, entTo, pvAt_step ts i k _ hg y]
  by_cases e : y = (nx ts i).getD k 0
  · rw [if_pos e, if_pos e, e, hs]; simp [hi]
  · rw [if_neg e, if_neg e]
theorem entTo_skip (ts : List TermD) (s : Nat → Bool) (i k : Nat) (hk : k < (nx ts i).length) (hs : s ((nx ts i).getD k 0) = false) : entTo ts s i k = entTo ts s i (k + 1) := by
  have hg : (nx ts i)[k]? = some ((nx ts i).getD k 0) := by simp [List.getD_eq_getElem?_getD, hk]
  funext y
  rw [entTo, entTo, pvAt_step ts i k _ hg y]
  by_cases e : y = (nx ts i).getD k 0
  · rw [if_pos e, e, hs]; simp
  · rw [if_neg e]
theorem entTo_end {ts : List TermD} (hg : goodB ts = true) (s : Nat → Bool) : listS (entTo ts s ts.length 0) = entriesS ts s := by
  rw [entriesS, listS, listS, List.filter_filter]
  refine List.filter_congr fun y _ => ?_
  rw [entTo, pvAt_end]
  cases h : ((pv ts y).any fun x => !s x) with
  | false => simp
  | true =>
    obtain ⟨x, hx, _⟩ := List.any_eq_true.1 h
    have := good_nx hg ((mem_pv ts y x).1 hx)
    simp [this.2]
/-! ### what an edge leaves -/
def besF (l : List TileD) (k o : Int) : List Int := (chainL l k).filter fun m => !(allL l m).contains o
theorem besF_end (l : List TileD) {k : Int} (o : Int) (h : k < 0) : besF l k o = [] := by rw [besF, chainL_end l h]; rfl
section
variable {l : List TileD} (hp : parentsB l = true)
include hp
theorem all_up {k : Nat} {o : Int} (hk : k < l.length) (ho : o ∈ allL l k) {m : Int} (hm : m ∈ chainL l (k : Int)) : o ∈ allL l m := by
  obtain ⟨h0, hd⟩ := (mem_chainL hp m k hk).1 hm
  have hle := descB_ge hp m.toNat k hk hd
  obtain ⟨n, h1, h2, h3⟩ := (mem_allL l k hk hp o).1 ho
  have e : ((m.toNat : Nat) : Int) = m := by omega
  rw [← e]
  exact (mem_allL l m.toNat (by omega) hp o).2 ⟨n, h1, descB_trans hp m.toNat k hd n h1 h2, h3⟩
theorem besF_stop {k o : Int} (h0 : 0 ≤ k) (hk : k < l.length) (ho : (allL l k).contains o = true) : besF l k o = [] := by
  rw [besF, List.filter_eq_nil_iff]
  intro m hm
  have e : ((k.toNat : Nat) : Int) = k := by omega
  rw [← e] at hm
  have := all_up hp (k := k.toNat) (o := o) (by omega) (by rw [e]; simpa using ho) hm
  simpa using this
theorem besF_step {k o : Int} (h0 : 0 ≤ k) (hk : k < l.length) (ho : (allL l k).contains o = false) : besF l k o = k :: besF l (parL l k.toNat) o := by
  rw [besF, chainL_step hp h0 hk, List.filter_cons, ho]
  rfl
theorem besF_len {k o : Int} (hk : k < l.length) : (besF l k o).length ≤ l.length := Nat.le_trans (List.length_filter_le _ _) (chainL_len hp l.length k (by omega) (by omega))
theorem besL_F {n : Nat} (h : ownB l n = true) {b o : Int} (h0 : 0 ≤ b) (hb : b < n) (h1 : 0 ≤ o) (ho : o < n) : besL l b o = besF l (ownF l b.toNat : Int) o := by
  rw [besL, besF, inL]
  refine List.filter_congr fun m hm => ?_
  have hlt := own_lt h (b := b.toNat) (by omega)
  have hm2 := chain_mem hp _ _ (Int.lt_succ _) (by omega) m hm
  have e : ((m.toNat : Nat) : Int) = m := by omega
  have := mem_inL hp h h1 ho (k := m.toNat) (by omega)
  rw [e] at this
  congr 1
  rw [Bool.eq_iff_iff, List.contains_iff_mem, List.contains_iff_mem]
  exact this
end
/-! ### rows asked for -/
theorem rows_ask (ts : List TermD) (l : List TileD) (ask : EdgeD → Bool) : rowsL ts l ask = (rowsL ts l fun _ => true).filter fun r => ask r.e := by
  rw [rowsL, rowsL, List.filter_map, List.filter_filter]
  congr 1
  refine List.filter_congr fun x _ => ?_
  simp only [betwB, Function.comp, rowOf, Bool.and_true]
  rw [Bool.and_comm]

open Go.RowKit

theorem OwnI.low {w : World} {base k : Nat} {v : Value} {xs : List Int} (h : OwnI w base v xs) (hk : v.ownBlock = some k) : base ≤ k ∧ k < w.heap.size := ⟨(h.1.lt k hk).1, (h.1.lt k hk).2⟩
section
variable {P : Program} {Q : Exit → Act → World → Prop}
theorem wpList_append1I {ops : Array Oper} {rest : List Oper} {o : Oper} {a : Act} (hgd : o.guard = none) (w0 : World) (s x : Operand) (t : TypeId) (ho : o.op = .call { callee := .builtin .append, args := #[s, x], argTypes := #[t, t] })
    (base : Nat) (z : Value) (bytes : Nat) (ht : P.underlying t = some (.slice 3)) (hinfo : (P.info? 3).map (fun i => (i.zero, i.size, i.bytes)) = some (some z, 1, bytes)) (hzs : z.cells.size = 1)
    (v : Value) (xs : List Int) (hs : a.eval s = v) (hown : OwnI w0 base v xs) (y : Int) (hy : I64 y) (H : Nat) (hH : w0.heap.size = H) (hx : a.eval x = .slice (some ⟨H, 0, none⟩) 1 1) (hlen : xs.length ≤ 100000000) (hb8 : bytes ≤ 16) (hbase : base ≤ w0.heap.size)
    (h : ∀ g cap w', OwnI w' base (.slice (some ⟨g, 0, none⟩) (xs.length + 1) cap) (xs ++ [y]) → w0.grownBy w' v.ownBlock → (some g = v.ownBlock ∨ g = w0.heap.size + 1) → wpList P ops Q rest (a.put o.dst (.slice (some ⟨g, 0, none⟩) (xs.length + 1) cap)) w') :
    wpList P ops Q (o :: rest) a (w0.alloc (.cells #[.int .i64 y] 3)) := by
  subst hH
  refine wpList_append1 hgd w0 s x t 3 ho base z 1 bytes ht hinfo hzs (by omega) v xs.length _ [.int .i64 y] hs hown.1 w0.heap.size rfl hx rfl (by simp [Value.oneCell']) (by simp only [maxLen]; omega) (by
    have : (xs.length + 1) * bytes ≤ (xs.length + 1) * 16 := Nat.mul_le_mul_left _ hb8
    omega) hbase fun g cap w' h2 h3 h4 => h g cap w' ⟨?_, fun q hq => ?_, by simp; omega⟩ h3 h4
  · have e : intVals (xs ++ [y]) = intVals xs ++ [.int .i64 y] := by simp [intVals]
    rw [e, List.length_append]
    exact h2
  · rcases List.mem_append.1 hq with hq | hq
    · exact hown.2.1 q hq
    · simp at hq; subst hq; exact hy
end

open Go.RowKit

def ROwnPost (ts : List TermD) (l : List TileD) (n : Nat) (w : World) (e : Ending) (w' : World) : Prop :=
  ∃ v en, e = .returned (.tuple #[v, .int .i64 en]) ∧ Below w.heap.size w w' ∧ (fitsB ts = false → v = nilV ∧ en = 2) ∧ (fitsB ts = true → ownB l n = false → v = nilV ∧ en = 12) ∧
    (fitsB ts = true → ownB l n = true → en = 0 ∧ OwnI w' w.heap.size v (ownL l n))
set_option maxRecDepth 100000 in
set_option maxHeartbeats 4000000 in
theorem own17_any (pa : Option Addr) (pn pc : Nat) (ba : Option Addr) (bn bc : Nat) (bs : List BlkH) (a : Option Addr) (n c : Nat) (ls : List TileR) (w : World) (h : BlksOK w ba bn bs) (ht : TilesOK w a n ls) (hT : totL (tdOf ls) ≤ 1000000) :
    Calls Tryz.prog 38 #[funcV pa pn pc ba bn bc, .slice a n c] w (ROwnPost (tsOf bs) (tdOf ls) bn w) := by
  have hn := ht.1.2.1
  have hbn := h.1.2.1
  have HLN : Hid ((tdOf ls).length = n) := by rw [Hid, tdOf_len, ht.1.1]
  have HTL : Hid ((tsOf bs).length = bn) := by rw [Hid, tsOf_len, h.1.1]
  have H := Lib.hid h
  have HT := Lib.hid ht
  have HTOT := Lib.hid hT
  clear h ht hT
  go_enter Tryz.func38, Tryz.ntmps38
  go_upto_region 1 with (fail)
  obtain ⟨W, hW⟩ : ∃ W, W = w.alloc (funcO pa pn pc ba bn bc) := ⟨_, rfl⟩
  rw [← hW]
  have hk0 : W.heap[w.heap.size]? = some (funcO pa pn pc ba bn bc) := by rw [hW]; exact heap_alloc_new _ _
  have hB : Below w.heap.size w W := by rw [hW]; exact ext_alloc _ _
  have hWs : W.heap.size = w.heap.size + 1 := by rw [hW]; simp
  have HK := Lib.hid hk0
  have HB := Lib.hid hB
  clear hW hk0 hB
  cases hf : fitsB (tsOf bs) with
  | false =>
    have HF := Lib.hid hf
    clear hf
    go_wp2_with (first
      | (refine wpList_load_row (o := ⟨some 11, .load 25 _, _, _, _, _⟩) rfl 25 _ rfl w.heap.size rfl 25 _ (0, 0) _ HK.out Tryz.underlying25 rfl size_func ?_)
      | (go_at_call 41
         refine (fits17_any pa pn pc ba bn bc bs W (H.out.ext HB.out)).mono ?_
         rintro e w2 ⟨rfl, hb⟩
         rw [HF.out]
         have HB2 := Lib.hid (ext_trans HB.out hb)
         clear hb))
    exact bodyPost_ret (v := .tuple #[nilV, .int .i64 2]) (by simp [results, Tryz.results38, go_sem, Act.put]) rfl ⟨_, _, rfl, HB2.out, fun _ => ⟨rfl, rfl⟩, (fun h => by rw [HF.out] at h; cases h), (fun h => by rw [HF.out] at h; cases h)⟩
  | true =>
    have HF := Lib.hid hf
    have hbn2 : bn ≤ 200 := by rw [← HTL.out]; exact ((goodB_iff _).1 (fits_good hf)).1.2
    clear hf
    go_wp2_with (first
      | (refine wpList_load_row (o := ⟨some 11, .load 25 _, _, _, _, _⟩) rfl 25 _ rfl w.heap.size rfl 25 _ (0, 0) _ HK.out Tryz.underlying25 rfl size_func ?_)
      | (go_at_call 41
         refine (fits17_any pa pn pc ba bn bc bs W (H.out.ext HB.out)).mono ?_
         rintro e w2 ⟨rfl, hb⟩
         rw [HF.out]
         have HB2 := Lib.hid (ext_trans HB.out hb)
         have HK2 := Lib.hid (block_ext hb HK.out)
         have hW2 : w.heap.size + 1 ≤ w2.heap.size := by have := hb.size; omega
         clear hb))
    go_loopw [6, 7, 8, 9, 10] (fun s6 s7 _ _ _ wr => ∃ b : Nat, b ≤ bn ∧ s7 = .int .i64 (b : Int) ∧ Hid (∀ x, x < b → (homes (tdOf ls) x).length = 1) ∧ Hid (OwnI wr (w.heap.size + 1) s6 (ownL (tdOf ls) b)) ∧ Hid (wr.heap[w.heap.size]? = some (funcO pa pn pc ba bn bc)) ∧ Hid (Below w.heap.size w wr) ∧ w.heap.size + 1 ≤ wr.heap.size) (fun _ s7 _ _ _ _ => bn - (intOf s7).toNat)
    case atStart => exact ⟨0, by omega, by go_num, fun x hx => absurd hx (by omega), OwnI.nil _ _, HK2, HB2, hW2⟩
    case round =>
      obtain ⟨b, hb, rfl, HR, HO, HKb, HBb, hsb⟩ := hrel
      clear HK HB HK2 HB2 hWs hW2
      have kf := HKb.out
      have k1 : wr.cell? ⟨w.heap.size, 1, none⟩ = some (.slice ba bn bc) := by rw [cell_of_row _ _ _ _ _ _ kf]; rfl
      clear kf
      by_cases hlt : b < bn
      · have hlt' : (b : Int) < (bn : Int) := by omega
        obtain ⟨oa, oc, rfl⟩ := HO.out.form
        go_wp2
        go_loopw [6, 8, 9, 10] (fun s6 s8 s9 _ wi => ∃ k : Nat, k ≤ n ∧ s9 = .int .i64 (k : Int) ∧ s8 = .int .i64 ((homesAt (tdOf ls) k 0 b).length : Nat) ∧ Hid (OwnI wi (w.heap.size + 1) s6 (ownL (tdOf ls) b ++ intsN (homesAt (tdOf ls) k 0 b))) ∧ Hid (wi.heap[w.heap.size]? = some (funcO pa pn pc ba bn bc)) ∧ Hid (Below w.heap.size w wi) ∧ w.heap.size + 1 ≤ wi.heap.size) (fun _ _ s9 _ _ => n - (intOf s9).toNat)
        case atStart => exact ⟨0, by omega, by go_num, by rw [homesAt_zero]; go_num, by rw [homesAt_zero]; simpa [Hid, intsN] using HO.out, HKb, HBb, hsb⟩
        case round =>
          obtain ⟨k, hk, rfl, rfl, HO1, HK1, HB1, hs1⟩ := hrel
          clear HO HKb HBb k1 hsb
          obtain ⟨X, hX⟩ : ∃ X, X = ownL (tdOf ls) b ++ intsN (homesAt (tdOf ls) k 0 b) := ⟨_, rfl⟩
          rw [← hX] at HO1
          have HX := Lib.hid hX
          clear hX
          obtain ⟨va, vc, rfl⟩ := HO1.out.form
          have hlen := homesAt_len (tdOf ls) k 0 b (by rw [HLN.out]; exact hk) (fun _ => rfl)
          have hto := HTOT.out
          by_cases hkl : k < n
          · obtain ⟨t, b0, o0, hlk, hok, rfl, c0, c1, c2⟩ := (HT.out.ext HB1.out).cells hkl
            have HTK : Hid (blkL (tdOf ls) k = t.d.blocks) := by rw [Hid, blkL, tdOf_at ls k t hlk]
            have htl : t.bn = t.d.blocks.length := hok.1.1.symm
            have hkl' : (k : Int) < (n : Int) := by omega
            have hbl17 := hok.1.2.1
            have HLK := Lib.hid hlk
            clear hlk hok c0 c1 c2
            go_wp2
            go_loopw [6, 8, 10] (fun s6 s8 s10 wi => ∃ i : Nat, i ≤ t.bn ∧ s10 = .int .i64 (i : Int) ∧ s8 = .int .i64 ((homesAt (tdOf ls) k i b).length : Nat) ∧ Hid (OwnI wi (w.heap.size + 1) s6 (ownL (tdOf ls) b ++ intsN (homesAt (tdOf ls) k i b))) ∧ Hid (wi.heap[w.heap.size]? = some (funcO pa pn pc ba bn bc)) ∧ Hid (Below w.heap.size w wi) ∧ w.heap.size + 1 ≤ wi.heap.size) (fun _ _ s10 _ => t.bn - (intOf s10).toNat)
            case atStart => exact ⟨0, by omega, by go_num, rfl, by rw [← HX.out]; exact HO1, HK1, HB1, hs1⟩
            case round =>
              obtain ⟨i, hi, rfl, rfl, HO2, HK2, HB2, hs2⟩ := hrel
              clear HO1 HK1 HB1 hs1 hlen HX
              obtain ⟨X, hX⟩ : ∃ X, X = ownL (tdOf ls) b ++ intsN (homesAt (tdOf ls) k i b) := ⟨_, rfl⟩
              rw [← hX] at HO2
              have HX := Lib.hid hX
              have HXL : Hid (X.length = b + (homesAt (tdOf ls) k i b).length) := by rw [Hid, hX, List.length_append, ownL_len]; simp [intsN]
              clear hX
              obtain ⟨ua, uc, rfl⟩ := HO2.out.form
              obtain ⟨t', b1, o1, hlk, hok, e0, c0, c1, c2⟩ := (HT.out.ext HB2.out).cells hkl
              injection e0 with e0
              injection e0 with e0 e1
              subst e0 e1
              rw [HLK.out] at hlk
              injection hlk with hlk
              subst hlk
              have hlen2 := homesAt_len (tdOf ls) k i b (by rw [HLN.out]; omega) (fun e => by rw [HLN.out] at e; omega)
              clear c0 c1
              by_cases hil : i < t.bn
              · obtain ⟨b2, o2, e2, hc2, hx1, hx2⟩ := hok.1.2.2 i hil
                have hil' : (i : Int) < (t.bn : Int) := by omega
                have hxe : t.d.blocks[i]? = some (t.d.blocks.getD i 0) := by rw [List.getD_eq_getElem?_getD, List.getElem?_eq_getElem (by omega)]; rfl
                have HST := Lib.hid (homesAt_step (tdOf ls) k i (t.d.blocks.getD i 0) (by rw [HTK.out]; exact hxe) b)
                clear hxe hok
                generalize t.ba = ba2 at *
                subst e2
                generalize t.d.blocks.getD i 0 = x at *
                by_cases hxb : x = (b : Int)
                · subst hxb
                  have HST2 : Hid (homesAt (tdOf ls) k (i + 1) b = homesAt (tdOf ls) k i b ++ [k]) := by rw [Hid, HST.out, if_pos rfl]
                  have hl5 : X.length ≤ 100000000 := by have := HXL.out; omega
                  have HX2 : Hid (X ++ [(k : Int)] = ownL (tdOf ls) b ++ intsN (homesAt (tdOf ls) k (i + 1) b)) := by rw [Hid, HST2.out, HX.out]; simp [intsN]
                  clear HST HX HXL
                  generalize homesAt (tdOf ls) k i b = L at *
                  go_wp2_with (
                    (at_builtin
                     go_loud (
                       refine wpList_append1I rfl wr (.tmp 49) (.tmp 51) 22 rfl (w.heap.size + 1) _ 8 Tryz.underlying22 infoI rfl (.slice ua X.length uc) X rfl HO2.out (k : Int) (by unfold I64; omega) wr.heap.size rfl rfl hl5 (by omega) (by omega) ?_
                       intro g cap w5 ho5 hg5 _
                       have HO5 := Lib.hid ho5
                       have HK5 := Lib.hid (grown_row hg5 HK2.out (fun e => by have := (HO2.out.low e).1; omega))
                       have HB5 := Lib.hid (HB2.out.grown hg5 HB2.out.size (fun q e => by have := (HO2.out.low e).1; omega))
                       have hs5 : w.heap.size + 1 ≤ w5.heap.size := Nat.le_trans hs2 hg5.size
                       clear ho5 hg5)))
                  go_roundw
                  case rel => exact ⟨i + 1, by omega, by go_num, by rw [HST2.out]; simp, by rw [← HX2.out]; exact HO5, HK5, HB5, hs5⟩
                  case measure => simp [intOf]; omega
                · have HST2 : Hid (homesAt (tdOf ls) k (i + 1) b = homesAt (tdOf ls) k i b) := by rw [Hid, HST.out, if_neg (fun e => hxb e.symm)]
                  have dx : (x == (b : Int)) = false := by simpa using hxb
                  clear HST hxb
                  generalize homesAt (tdOf ls) k i b = L at *
                  go_wp2
                  go_roundw
                  case rel => exact ⟨i + 1, by omega, by go_num, by rw [HST2.out], by rw [HST2.out, ← HX.out]; exact HO2, HK2, HB2, hs2⟩
                  case measure => simp [intOf]; omega
              · obtain rfl : i = t.bn := by omega
                have HNX : Hid (homesAt (tdOf ls) k t.bn b = homesAt (tdOf ls) (k + 1) 0 b) := by rw [Hid, htl, ← HTK.out]; exact homesAt_next _ _ _
                clear hok
                go_wp2
                go_roundw
                case rel => exact ⟨k + 1, by omega, by go_num, by rw [HNX.out], by rw [← HNX.out, ← HX.out]; exact HO2, HK2, HB2, hs2⟩
                case measure => simp [intOf]; omega
          · obtain rfl : k = n := by omega
            have HNE : Hid (homesAt (tdOf ls) k 0 b = homes (tdOf ls) b) := by rw [Hid, ← HLN.out]; exact homesAt_end _ _
            rw [HNE.out] at hlen HX ⊢
            by_cases h1 : (homes (tdOf ls) b).length = 1
            · have d1 : ((((homes (tdOf ls) b).length : Nat) : Int) != 1) = false := by simp; omega
              have HR2 : Hid (∀ x, x < b + 1 → (homes (tdOf ls) x).length = 1) := fun x hx => by
                by_cases e : x = b
                · subst e; exact h1
                · exact HR.out x (by omega)
              have HS := Lib.hid (ownL_step h1)
              clear h1
              generalize homes (tdOf ls) b = L at *
              go_wp2
              go_roundw
              case rel => exact ⟨b + 1, by omega, by go_num, HR2, by rw [HS.out, ← HX.out]; exact HO1, HK1, HB1, hs1⟩
              case measure => simp [intOf]; omega
            · have d1 : ((((homes (tdOf ls) b).length : Nat) : Int) != 1) = true := by simp; omega
              have HE : Hid (ownB (tdOf ls) bn = false) := own_no1 (tdOf ls) bn b hlt h1
              clear h1
              generalize homes (tdOf ls) b = L at *
              go_wp2
              exact bodyPost_ret (v := .tuple #[nilV, .int .i64 12]) (by simp [results, Tryz.results38, go_sem, Act.put]) rfl ⟨_, _, rfl, HB1.out, (fun h => by rw [HF.out] at h; cases h), fun _ _ => ⟨rfl, rfl⟩, (fun _ h => by rw [HE.out] at h; cases h)⟩
      · obtain rfl : b = bn := by omega
        have HE : Hid (ownB (tdOf ls) b = true) := ownB_all HR.out
        obtain ⟨oa, oc, rfl⟩ := HO.out.form
        go_wp2
        exact bodyPost_ret (v := .tuple #[.slice oa (ownL (tdOf ls) b).length oc, .int .i64 0]) (by simp [results, Tryz.results38, go_sem, Act.put]) rfl ⟨_, _, rfl, HBb.out, (fun h => by rw [HF.out] at h; cases h), (fun _ h => by rw [HE.out] at h; cases h), fun _ _ => ⟨rfl, HO.out.mono (by omega)⟩⟩
set_option maxRecDepth 100000 in
set_option maxHeartbeats 4000000 in
theorem entries17_any (pa : Option Addr) (pn pc : Nat) (ba : Option Addr) (bn bc : Nat) (bs : List BlkH) (f : Nat → Bool) (w : World) (h : BlksOK w ba bn bs) (hg : goodB (tsOf bs) = true) :
    Calls Tryz.prog 107 #[funcV pa pn pc ba bn bc, .agg (setA f)] w (IntsPost w (intsN (entriesS (tsOf bs) f))) := by
  have hbn : bn ≤ 200 := by have := ((goodB_iff _).1 hg).1.2; rw [tsOf_len, h.1.1] at this; exact this
  have HTL : Hid ((tsOf bs).length = bn) := by rw [Hid, tsOf_len, h.1.1]
  have HX : Hid (∀ k y, y ∈ nx (tsOf bs) k → y < bn) := fun k y hy => by have := good_nx hg hy; rw [HTL.out] at this; omega
  have H := Lib.hid h
  have HG := Lib.hid hg
  clear h hg
  go_enter Tryz.func107, Tryz.ntmps107
  go_upto_region 2 with (fail)
  obtain ⟨W, hW⟩ : ∃ W, W = ((w.alloc (funcO pa pn pc ba bn bc)).alloc (rsetO f)).alloc (.cells Tryz.zeroCells107 107) := ⟨_, rfl⟩
  rw [← hW]
  have ho : W.heap[w.heap.size]? = some (funcO pa pn pc ba bn bc) := by rw [hW, Below.heap_alloc _ _ _ (by simp <;> omega), Below.heap_alloc _ _ _ (by simp)]; exact heap_alloc_new _ _
  have hi : W.heap[w.heap.size + 1]? = some (rsetO f) := by rw [hW, Below.heap_alloc _ _ _ (by simp), heap_at _ _ _ (by simp)]
  have hr : W.heap[w.heap.size + 1 + 1]? = some (rsetO (entTo (tsOf bs) f 0 0)) := by rw [hW, heap_at _ _ _ (by simp), zero_rset, entTo_zero]
  have hB : Below w.heap.size w W := by rw [hW]; exact ((ext_alloc _ _).alloc (by simp) _).alloc (by simp; omega) _
  have hWs : w.heap.size + 1 + 1 + 1 ≤ W.heap.size := by rw [hW]; simp
  have HO := Lib.hid ho
  have HI := Lib.hid hi
  have HR := Lib.hid hr
  have HB := Lib.hid hB
  clear hW ho hi hr hB
  go_wp2
  go_loopw [6, 7, 8] (fun s6 _ _ wr => ∃ i : Nat, i ≤ bn ∧ s6 = .int .i64 (i : Int) ∧ Hid (wr.heap[w.heap.size]? = some (funcO pa pn pc ba bn bc)) ∧ Hid (wr.heap[w.heap.size + 1]? = some (rsetO f)) ∧ Hid (wr.heap[w.heap.size + 1 + 1]? = some (rsetO (entTo (tsOf bs) f i 0))) ∧ Hid (Below w.heap.size w wr)) (fun s6 _ _ _ => bn - (intOf s6).toNat)
  case atStart => exact ⟨0, by omega, by go_num, HO, HI, HR, HB⟩
  case round =>
    obtain ⟨i, hi, rfl, HO1, HI1, HR1, HB1⟩ := hrel
    clear HO HI HR HB hWs
    have kf := HO1.out
    have k1 : wr.cell? ⟨w.heap.size, 1, none⟩ = some (.slice ba bn bc) := by rw [cell_of_row _ _ _ _ _ _ kf]; rfl
    clear kf
    by_cases hlt : i < bn
    · have hlt' : (i : Int) < (bn : Int) := by omega
      have hsz := lt_of_heap HR1.out
      go_wp2_with (first
        | (refine wpList_load_row (o := ⟨some 16, .load 25 _, _, _, _, _⟩) rfl 25 _ rfl w.heap.size rfl 25 _ (0, 0) _ HO1.out Tryz.underlying25 rfl size_func ?_)
        | (go_at_call 96
           refine (to17_any pa pn pc ba bn bc bs i wr (H.out.ext HB1.out) hlt).mono ?_
           rintro e w1 ⟨v, rfl, ho, hb⟩
           rw [toD_nx HG.out] at ho
           obtain ⟨va, vc, rfl⟩ := ho.form
           have HNX := Lib.hid (ho.mono (show w.heap.size + 1 + 1 + 1 ≤ wr.heap.size from hsz))
           have HO2 := Lib.hid (block_ext hb HO1.out)
           have HI2 := Lib.hid (block_ext hb HI1.out)
           have HR2 := Lib.hid (block_ext hb HR1.out)
           have HB2 := Lib.hid (ext_trans HB1.out hb)
           clear ho hb k1))
      have hnl : (intsN (nx (tsOf bs) i)).length = (nx (tsOf bs) i).length := by simp [intsN]
      have hnl2 : (nx (tsOf bs) i).length ≤ 2 := by simp only [nx, List.length_map]; exact toD_len _
      rw [hnl]
      rw [hnl] at HNX
      clear hnl HO1 HI1 HR1 HB1
      go_loopw [8] (fun s8 wi => ∃ k : Nat, k ≤ (nx (tsOf bs) i).length ∧ s8 = .int .i64 (k : Int) ∧ (f i = true → k = 0) ∧ Hid (OwnI wi (w.heap.size + 1 + 1 + 1) (.slice va (nx (tsOf bs) i).length vc) (intsN (nx (tsOf bs) i))) ∧ Hid (wi.heap[w.heap.size]? = some (funcO pa pn pc ba bn bc)) ∧ Hid (wi.heap[w.heap.size + 1]? = some (rsetO f)) ∧ Hid (wi.heap[w.heap.size + 1 + 1]? = some (rsetO (entTo (tsOf bs) f i k))) ∧ Hid (Below w.heap.size w wi)) (fun s8 _ => (nx (tsOf bs) i).length - (intOf s8).toNat)
      case atStart => exact ⟨0, by omega, by go_num, fun _ => rfl, HNX, HO2, HI2, HR2, HB2⟩
      case round =>
        obtain ⟨k, hk, rfl, hfk, HN, HO3, HI3, HR3, HB3⟩ := hrel
        clear HNX HO2 HI2 HR2 HB2
        have hci := rset_cell HI3.out i (by omega)
        by_cases hkl : k < (nx (tsOf bs) i).length
        · have hkl' : (k : Int) < ((nx (tsOf bs) i).length : Int) := by omega
          cases hfi : f i with
          | true =>
            obtain rfl := hfk hfi
            rw [hfi] at hci
            have HE : Hid (entTo (tsOf bs) f i 0 = entTo (tsOf bs) f (i + 1) 0) := entTo_in _ _ _ hfi
            clear hfi hfk
            go_wp2
            go_roundw
            case rel => exact ⟨i + 1, by omega, by go_num, HO3, HI3, by rw [← HE.out]; exact HR3, HB3⟩
            case measure => simp [intOf]; omega
          | false =>
            rw [hfi] at hci
            have hyx : (nx (tsOf bs) i).getD k 0 ∈ nx (tsOf bs) i := by rw [List.getD_eq_getElem?_getD, List.getElem?_eq_getElem hkl]; exact List.getElem_mem _
            have hyb := HX.out i _ hyx
            have hy : (nx (tsOf bs) i).getD k 0 < 200 := by omega
            obtain ⟨b3, o4, rfl, hcy, _⟩ := HN.out.ints.2.2 k hkl
            have hey : (intsN (nx (tsOf bs) i)).getD k 0 = (((nx (tsOf bs) i).getD k 0 : Nat) : Int) := by simp [intsN, List.getD_eq_getElem?_getD, hkl]
            rw [hey] at hcy
            have hcs := rset_cell HI3.out _ hy
            have hcr := rset_cell HR3.out _ hy
            have hfr := rset_free HR3.out ((nx (tsOf bs) i).getD k 0)
            have HFI := Lib.hid hfi
            clear hey hyx hfi hfk
            cases hfy : f ((nx (tsOf bs) i).getD k 0) with
            | true =>
              rw [hfy] at hcs
              have hgr := grown_setCell wr (w.heap.size + 1 + 1) ((nx (tsOf bs) i).getD k 0) (.bool true)
              have HR4 := Lib.hid (rset_to (b := true) HR3.out hy (entTo_put (tsOf bs) f i k hkl HFI.out hfy))
              have HO4 := Lib.hid (grown_row hgr HO3.out (by simp; omega))
              have HI4 := Lib.hid (grown_row hgr HI3.out (by simp))
              have HB4 := Lib.hid (HB3.out.setCell (p := ⟨w.heap.size + 1 + 1, (nx (tsOf bs) i).getD k 0, none⟩) (by simp; omega) (.bool true))
              have HN4 := Lib.hid (HN.out.kept hgr (.inr (by simp only [Value.ownBlock, ne_eq, Option.some.injEq]; have := (HN.out.1.lt b3 rfl).1; omega)))
              clear hgr hfy HN HO3 HI3 HR3 HB3
              generalize (nx (tsOf bs) i).getD k 0 = y at *
              go_wp2
              go_roundw
              case rel => exact ⟨k + 1, by omega, by go_num, fun h => absurd h (by simp), HN4, HO4, HI4, HR4, HB4⟩
              case measure => simp [intOf]; omega
            | false =>
              rw [hfy] at hcs
              have HR4 : Hid (wr.heap[w.heap.size + 1 + 1]? = some (rsetO (entTo (tsOf bs) f i (k + 1)))) := by rw [Hid, ← entTo_skip (tsOf bs) f i k hkl hfy]; exact HR3.out
              clear hfy hcr
              generalize (nx (tsOf bs) i).getD k 0 = y at *
              go_wp2
              go_roundw
              case rel => exact ⟨k + 1, by omega, by go_num, fun h => absurd h (by simp), HN, HO3, HI3, HR4, HB3⟩
              case measure => simp [intOf]; omega
        · have hk2 : k = (nx (tsOf bs) i).length := by omega
          have HE : Hid (entTo (tsOf bs) f i k = entTo (tsOf bs) f (i + 1) 0) := entTo_next _ _ _ _ (by omega)
          have hkl' : ¬ (k : Int) < ((nx (tsOf bs) i).length : Int) := by omega
          clear hfk
          go_wp2
          go_roundw
          case rel => exact ⟨i + 1, by omega, by go_num, HO3, HI3, by rw [← HE.out]; exact HR3, HB3⟩
          case measure => simp [intOf]; omega
    · obtain rfl : i = bn := by omega
      have HE : Hid (listS (entTo (tsOf bs) f i 0) = entriesS (tsOf bs) f) := by rw [Hid, ← HTL.out]; exact entTo_end HG.out f
      have hsz := lt_of_heap HR1.out
      go_wp2_with (first
        | (refine wpList_load_row (o := ⟨some 42, .load 107 _, _, _, _, _⟩) rfl 107 _ rfl (w.heap.size + 1 + 1) rfl 107 _ (0, 0) _ HR1.out Tryz.underlying107 rfl (by rw [setA_size]; exact size_rset) ?_)
        | (go_at_call 76
           refine (list17_any (entTo (tsOf bs) f i 0) wr).mono ?_
           rintro e w1 ⟨v, rfl, ho, hb⟩
           rw [HE.out] at ho
           have HL := Lib.hid (ho.mono (show w.heap.size ≤ wr.heap.size from HB1.out.size))
           have HB2 := Lib.hid (ext_trans HB1.out hb)
           clear ho hb))
      go_ret
      exact ⟨_, rfl, HL.out, HB2.out⟩

open Go.RowKit

theorem index_rset (w : World) (f : Nat → Bool) (b : Nat) (hb : b < 200) : (Instr.index 107 (.agg (setA f)) (.int .i64 (b : Int))).run Tryz.prog w = .ok (.bool (f b)) w := by
  have hz : (Go.sizeOf 4).run Tryz.prog w = .ok 1 w := by kernel_rfl
  have hb2 : (0 : Int) ≤ (b : Int) ∧ (b : Int) < ((200 : Nat) : Int) := by omega
  have h1 := part_bool (setA f) b _ w (setA_at f b hb)
  simp only [Instr.index, asIntOf, Sem.run_bind, Sem.run_pure, Result.andThen_ok, run_underlying (w := w) Tryz.underlying107, if_pos hb2, hz]
  simpa using h1
theorem equal_rset (w : World) (f g : Nat → Bool) : (Op.equalIn 10000 107 (.agg (setA f)) (.agg (setA g))).run Tryz.prog w = .ok (eqS f g) w := by
  have hi : ∃ i, Tryz.prog.info? 4 = some i := Option.isSome_iff_exists.1 (by kernel_rfl)
  obtain ⟨i, hi⟩ := hi
  have h1 : Tryz.prog.cellsOf 4 = 1 := by kernel_rfl
  rw [run_equalIn_array w 9999 _ _ Tryz.underlying107 hi, h1]
  exact eqItems_bool w f g _ _ _ (fun i hi => ⟨setA_at f i (List.mem_range.1 hi), setA_at g i (List.mem_range.1 hi)⟩)
theorem neq_rset (w : World) (f g : Nat → Bool) : (binOp .neq 107 (.agg (setA f)) (.agg (setA g))).run Tryz.prog w = .ok (.bool (!eqS f g)) w := by
  rw [run_neq_struct, equal_rset]
  rfl
theorem ringsB_yes {ts : List TermD} {bs : List Int} {f : Nat → Bool} (hc : Canon f) {i : Nat} (hi : i < bs.length) (h : walkF (nx ts) f (bs.getD i 0).toNat (bs.getD i 0).toNat = true) : ringsB ts bs f = true := by
  rw [ringsB, List.any_eq_true]
  exact ⟨bs.getD i 0, by rw [List.getD_eq_getElem?_getD, List.getElem?_eq_getElem hi]; exact List.getElem_mem _, by rw [ring_iff hc]; exact h⟩
theorem ringsB_no {ts : List TermD} {bs : List Int} {f : Nat → Bool} (hc : Canon f) (h : ∀ i, i < bs.length → walkF (nx ts) f (bs.getD i 0).toNat (bs.getD i 0).toNat = false) : ringsB ts bs f = false := by
  rw [ringsB, List.any_eq_false]
  intro x hx
  obtain ⟨i, hi, e⟩ := List.mem_iff_getElem.1 hx
  have := h i hi
  rw [List.getD_eq_getElem?_getD, List.getElem?_eq_getElem hi, Option.getD_some, e] at this
  rw [ring_iff hc, this]
  simp
set_option maxRecDepth 100000 in
set_option maxHeartbeats 4000000 in
theorem ring17_any (pa : Option Addr) (pn pc : Nat) (ba : Option Addr) (bn bc : Nat) (bs : List BlkH) (a : Option Addr) (n c : Nat) (xs : List Int) (f : Nat → Bool) (w : World) (h : BlksOK w ba bn bs) (hg : goodB (tsOf bs) = true) (hcf : Canon f) (hf : ∀ b, f b = true → b < bn) (hI : Ints w a n xs) (hxs : ∀ x ∈ xs, 0 ≤ x ∧ x < 200) :
    Calls Tryz.prog 166 #[funcV pa pn pc ba bn bc, .slice a n c, .agg (setA f)] w fun e w' => e = .returned (.bool (ringsB (tsOf bs) xs f)) ∧ Below w.heap.size w w' := by
  have HL := Lib.hid hI.1
  have hn := hI.2.1
  have H := Lib.hid h
  have HG := Lib.hid hg
  have HC := Lib.hid hcf
  have HF := Lib.hid hf
  have HI := Lib.hid hI
  have HXS := Lib.hid hxs
  clear h hg hcf hf hI hxs
  go_enter Tryz.func166, Tryz.ntmps166
  go_upto_region 1 with (fail)
  obtain ⟨W, hW⟩ : ∃ W, W = (w.alloc (funcO pa pn pc ba bn bc)).alloc (rsetO f) := ⟨_, rfl⟩
  rw [← hW]
  have ho : W.heap[w.heap.size]? = some (funcO pa pn pc ba bn bc) := by rw [hW, Below.heap_alloc _ _ _ (by simp)]; exact heap_alloc_new _ _
  have hi : W.heap[w.heap.size + 1]? = some (rsetO f) := by rw [hW, heap_at _ _ _ (by simp)]
  have hB : Below w.heap.size w W := by rw [hW]; exact (ext_alloc _ _).alloc (by simp) _
  have HO := Lib.hid ho
  have HS := Lib.hid hi
  have HB := Lib.hid hB
  clear hW ho hi hB
  go_wp2
  go_loopw [7] (fun s7 wr => ∃ i : Nat, i ≤ n ∧ s7 = .int .i64 (i : Int) ∧ Hid (∀ j, j < i → walkF (nx (tsOf bs)) f (xs.getD j 0).toNat (xs.getD j 0).toNat = false) ∧ Hid (Below W.heap.size W wr)) (fun s7 _ => n - (intOf s7).toNat)
  case atStart => exact ⟨0, by omega, by go_num, fun j hj => absurd hj (by omega), Below.refl _ _⟩
  case round =>
    obtain ⟨i, hi, rfl, HR, HBr⟩ := hrel
    by_cases hlt : i < n
    · have hlt' : (i : Int) < (n : Int) := by omega
      obtain ⟨b, o, rfl, hc, _⟩ := (HI.out.ext (ext_trans HB.out HBr.out)).2.2 i hlt
      have hil : i < xs.length := by rw [HL.out]; exact hlt
      have hx := HXS.out (xs.getD i 0) (by rw [List.getD_eq_getElem?_getD, List.getElem?_eq_getElem hil]; exact List.getElem_mem _)
      have HYES := Lib.hid (ringsB_yes (ts := tsOf bs) (bs := xs) HC.out hil)
      have HNO : Hid (walkF (nx (tsOf bs)) f (xs.getD i 0).toNat (xs.getD i 0).toNat = false → ∀ j, j < i + 1 → walkF (nx (tsOf bs)) f (xs.getD j 0).toNat (xs.getD j 0).toNat = false) := fun h j hj => by
        by_cases e : j = i
        · subst e; exact h
        · exact HR.out j (by omega)
      obtain ⟨x, hxe⟩ : ∃ x : Nat, xs.getD i 0 = (x : Int) := ⟨(xs.getD i 0).toNat, by omega⟩
      rw [hxe] at hc hx HYES HNO
      have hx2 : x < 200 := by omega
      simp only [Int.toNat_natCast] at HYES HNO
      have q0 : ∀ n' : ExtW wr, n'.val.cell? ⟨b, o + i, none⟩ = some (.int .i64 (x : Int)) := fun n' => cell_ext n'.ext hc
      have qf : ∀ w', (∃ n : ExtW wr, w' = n.val) → w'.heap[w.heap.size]? = some (funcO pa pn pc ba bn bc) := fun w' ⟨n, e⟩ => by rw [e]; exact block_ext n.ext (block_ext HBr.out HO.out)
      have qs : ∀ w', (∃ n : ExtW wr, w' = n.val) → w'.heap[w.heap.size + 1]? = some (rsetO f) := fun w' ⟨n, e⟩ => by rw [e]; exact block_ext n.ext (block_ext HBr.out HS.out)
      have HBH : Hid (∀ n' : ExtW wr, Calls Tryz.prog 98 #[funcV pa pn pc ba bn bc, .int .i64 (x : Int), .agg (setA f)] n'.val fun e w'' => e = .returned (.agg (setA (walkF (nx (tsOf bs)) f x))) ∧ ∃ m : ExtW wr, w'' = m.val) := fun n' =>
        quiet_ext (behind17_any pa pn pc ba bn bc bs x f n'.val (H.out.ext (ext_trans (ext_trans HB.out HBr.out) n'.ext)) HG.out hx2 HC.out (HF.out x))
      have hix := fun w => index_rset w (walkF (nx (tsOf bs)) f x) x hx2
      clear hc hxe hx HR
      go_wp2
      refine region_ext (by kernel_rfl) (by kernel_rfl) ?_
      repeat (first
        | go_big_quiet_skip
        | (refine wpQuiet_load_row (o := ⟨some 14, .load 25 _, _, _, _, _⟩) (by rfl) 25 _ rfl w.heap.size rfl 25 #[.slice pa pn pc, .slice ba bn bc] (0, 0) _ qf Tryz.underlying25 rfl size_func ?_; simp only [put_some, List.setIfInBounds_toArray, List.set_cons_succ, List.set_cons_zero])
        | (refine wpQuiet_load_row (o := ⟨some 19, .load 107 _, _, _, _, _⟩) (by rfl) 107 _ rfl (w.heap.size + 1) rfl 107 _ (0, 0) _ qs Tryz.underlying107 rfl (by rw [setA_size]; exact size_rset) ?_; simp only [put_some, List.setIfInBounds_toArray, List.set_cons_succ, List.set_cons_zero])
        | go_big_quiet_step (first
          | (go_at_call 98; exact HBH.out _)))
      refine wpQuiet_nil ?_
      intro _ hw'
      obtain ⟨n', rfl⟩ := hw'
      have HB8 : Hid (Below W.heap.size W n'.val) := ext_trans HBr.out n'.ext
      generalize n'.val = W8 at *
      clear q0 qf qs HBH hix
      cases hb : walkF (nx (tsOf bs)) f x x with
      | true =>
        have HE := Lib.hid (HYES.out hb)
        clear hb
        go_wp2
        go_ret
        exact ⟨by rw [HE.out]; rfl, ext_trans HB.out HB8.out⟩
      | false =>
        have HR2 := Lib.hid (HNO.out hb)
        clear hb
        go_wp2
        go_roundw
        case rel => exact ⟨i + 1, by omega, by go_num, HR2, HB8⟩
        case measure => simp [intOf]; omega
    · obtain rfl : i = n := by omega
      have HE : Hid (ringsB (tsOf bs) xs f = false) := ringsB_no HC.out (by rw [HL.out]; exact HR.out)
      go_wp2
      go_ret
      exact ⟨by rw [HE.out]; rfl, ext_trans HB.out HBr.out⟩
theorem tog_no {ts : List TermD} {s : Nat → Bool} (hs : Canon s) {i : Nat} (hi : i < (listS s).length) (h : eqS (walkF (nx ts) s ((listS s).getD i 0)) s = false) : togetherB ts s = false := by
  rw [together_all hs, List.all_eq_false]
  exact ⟨(listS s).getD i 0, by rw [List.getD_eq_getElem?_getD, List.getElem?_eq_getElem hi]; exact List.getElem_mem _, by rw [h]; simp⟩
theorem tog_yes {ts : List TermD} {s : Nat → Bool} (hs : Canon s) (h : ∀ i, i < (listS s).length → eqS (walkF (nx ts) s ((listS s).getD i 0)) s = true) : togetherB ts s = true := by
  rw [together_all hs, List.all_eq_true]
  intro x hx
  obtain ⟨i, hi, e⟩ := List.mem_iff_getElem.1 hx
  have := h i hi
  rwa [List.getD_eq_getElem?_getD, List.getElem?_eq_getElem hi, Option.getD_some, e] at this
set_option maxRecDepth 100000 in
set_option maxHeartbeats 4000000 in
theorem together17_any (pa : Option Addr) (pn pc : Nat) (ba : Option Addr) (bn bc : Nat) (bs : List BlkH) (f : Nat → Bool) (w : World) (h : BlksOK w ba bn bs) (hg : goodB (tsOf bs) = true) (hcf : Canon f) (hf : ∀ b, f b = true → b < bn) :
    Calls Tryz.prog 167 #[funcV pa pn pc ba bn bc, .agg (setA f)] w fun e w' => e = .returned (.bool (togetherB (tsOf bs) f)) ∧ Below w.heap.size w w' := by
  have H := Lib.hid h
  have HG := Lib.hid hg
  have HC := Lib.hid hcf
  have HF := Lib.hid hf
  have hll := listS_len f
  clear h hg hcf hf
  go_enter Tryz.func167, Tryz.ntmps167
  go_upto_region 1 with (fail)
  obtain ⟨W, hW⟩ : ∃ W, W = (w.alloc (funcO pa pn pc ba bn bc)).alloc (rsetO f) := ⟨_, rfl⟩
  rw [← hW]
  have ho : W.heap[w.heap.size]? = some (funcO pa pn pc ba bn bc) := by rw [hW, Below.heap_alloc _ _ _ (by simp)]; exact heap_alloc_new _ _
  have hi : W.heap[w.heap.size + 1]? = some (rsetO f) := by rw [hW, heap_at _ _ _ (by simp)]
  have hB : Below w.heap.size w W := by rw [hW]; exact (ext_alloc _ _).alloc (by simp) _
  have HO := Lib.hid ho
  have HS := Lib.hid hi
  have HB := Lib.hid hB
  clear hW ho hi hB
  go_wp2_with (first
    | (refine wpList_load_row (o := ⟨some 7, .load 107 _, _, _, _, _⟩) rfl 107 _ rfl (w.heap.size + 1) rfl 107 _ (0, 0) _ HS.out Tryz.underlying107 rfl (by rw [setA_size]; exact size_rset) ?_)
    | (go_at_call 76
       refine (list17_any f W).mono ?_
       rintro e w1 ⟨v, rfl, ho, hb⟩
       obtain ⟨va, vc, rfl⟩ := ho.form
       have HL := Lib.hid ho.ints
       have HB1 := Lib.hid (ext_trans HB.out hb)
       have HO1 := Lib.hid (block_ext hb HO.out)
       have HS1 := Lib.hid (block_ext hb HS.out)
       clear ho hb))
  have hnl : (intsN (listS f)).length = (listS f).length := by simp [intsN]
  rw [hnl]
  rw [hnl] at HL
  clear hnl HO HS HB
  go_loopw [6] (fun s6 wr => ∃ i : Nat, i ≤ (listS f).length ∧ s6 = .int .i64 (i : Int) ∧ Hid (∀ j, j < i → eqS (walkF (nx (tsOf bs)) f ((listS f).getD j 0)) f = true) ∧ Hid (Below w1.heap.size w1 wr)) (fun s6 _ => (listS f).length - (intOf s6).toNat)
  case atStart => exact ⟨0, by omega, by go_num, fun j hj => absurd hj (by omega), Below.refl _ _⟩
  case round =>
    obtain ⟨i, hi, rfl, HR, HBr⟩ := hrel
    by_cases hlt : i < (listS f).length
    · have hlt' : (i : Int) < ((listS f).length : Int) := by omega
      obtain ⟨b, o, rfl, hc, _⟩ := (HL.out.ext HBr.out).2.2 i hlt
      have hxe : (intsN (listS f)).getD i 0 = (((listS f).getD i 0 : Nat) : Int) := by simp [intsN, List.getD_eq_getElem?_getD, hlt]
      have hmem : (listS f).getD i 0 ∈ listS f := by rw [List.getD_eq_getElem?_getD, List.getElem?_eq_getElem hlt]; exact List.getElem_mem _
      have hfx := (mem_listS HC.out _).1 hmem
      have hx2 := HC.out _ hfx
      have HYES := Lib.hid (tog_no (ts := tsOf bs) HC.out hlt)
      have HNO : Hid (eqS (walkF (nx (tsOf bs)) f ((listS f).getD i 0)) f = true → ∀ j, j < i + 1 → eqS (walkF (nx (tsOf bs)) f ((listS f).getD j 0)) f = true) := fun h j hj => by
        by_cases e : j = i
        · subst e; exact h
        · exact HR.out j (by omega)
      rw [hxe] at hc
      generalize (listS f).getD i 0 = x at *
      have q0 : ∀ n' : ExtW wr, n'.val.cell? ⟨b, o + i, none⟩ = some (.int .i64 (x : Int)) := fun n' => cell_ext n'.ext hc
      have qf : ∀ w', (∃ n : ExtW wr, w' = n.val) → w'.heap[w.heap.size]? = some (funcO pa pn pc ba bn bc) := fun w' ⟨n, e⟩ => by rw [e]; exact block_ext n.ext (block_ext HBr.out HO1.out)
      have qs : ∀ w', (∃ n : ExtW wr, w' = n.val) → w'.heap[w.heap.size + 1]? = some (rsetO f) := fun w' ⟨n, e⟩ => by rw [e]; exact block_ext n.ext (block_ext HBr.out HS1.out)
      have HBH : Hid (∀ n' : ExtW wr, Calls Tryz.prog 98 #[funcV pa pn pc ba bn bc, .int .i64 (x : Int), .agg (setA f)] n'.val fun e w'' => e = .returned (.agg (setA (walkF (nx (tsOf bs)) f x))) ∧ ∃ m : ExtW wr, w'' = m.val) := fun n' =>
        quiet_ext (behind17_any pa pn pc ba bn bc bs x f n'.val (H.out.ext (ext_trans (ext_trans HB1.out HBr.out) n'.ext)) HG.out hx2 HC.out (HF.out x))
      have hne := fun w => neq_rset w (walkF (nx (tsOf bs)) f x) f
      clear hc hxe hmem hfx HR
      go_wp2
      refine region_ext (by kernel_rfl) (by kernel_rfl) ?_
      repeat (first
        | go_big_quiet_skip
        | (refine wpQuiet_load_row (o := ⟨some 15, .load 25 _, _, _, _, _⟩) (by rfl) 25 _ rfl w.heap.size rfl 25 #[.slice pa pn pc, .slice ba bn bc] (0, 0) _ qf Tryz.underlying25 rfl size_func ?_; simp only [put_some, List.setIfInBounds_toArray, List.set_cons_succ, List.set_cons_zero])
        | (refine wpQuiet_load_row (o := ⟨some 20, .load 107 _, _, _, _, _⟩) (by rfl) 107 _ rfl (w.heap.size + 1) rfl 107 _ (0, 0) _ qs Tryz.underlying107 rfl (by rw [setA_size]; exact size_rset) ?_; simp only [put_some, List.setIfInBounds_toArray, List.set_cons_succ, List.set_cons_zero])
        | (refine wpQuiet_load_row (o := ⟨some 22, .load 107 _, _, _, _, _⟩) (by rfl) 107 _ rfl (w.heap.size + 1) rfl 107 _ (0, 0) _ qs Tryz.underlying107 rfl (by rw [setA_size]; exact size_rset) ?_; simp only [put_some, List.setIfInBounds_toArray, List.set_cons_succ, List.set_cons_zero])
        | go_big_quiet_step (first
          | (go_at_call 98; exact HBH.out _)))
      refine wpQuiet_nil ?_
      intro _ hw'
      obtain ⟨n', rfl⟩ := hw'
      have HB8 : Hid (Below w1.heap.size w1 n'.val) := ext_trans HBr.out n'.ext
      generalize n'.val = W8 at *
      clear q0 qf qs HBH hne
      cases hb : eqS (walkF (nx (tsOf bs)) f x) f with
      | false =>
        have HE := Lib.hid (HYES.out hb)
        clear hb
        go_wp2
        go_ret
        exact ⟨by rw [HE.out]; rfl, ext_trans HB1.out HB8.out⟩
      | true =>
        have HR2 := Lib.hid (HNO.out hb)
        clear hb
        go_wp2
        go_roundw
        case rel => exact ⟨i + 1, by omega, by go_num, HR2, HB8⟩
        case measure => simp [intOf]; omega
    · obtain rfl : i = (listS f).length := by omega
      have HE : Hid (togetherB (tsOf bs) f = true) := tog_yes HC.out HR.out
      go_wp2
      go_ret
      exact ⟨by rw [HE.out]; rfl, ext_trans HB1.out HBr.out⟩

open Go.RowKit

set_option maxRecDepth 100000 in
set_option maxHeartbeats 8000000 in
theorem holds17_any (pa : Option Addr) (pn pc : Nat) (ba : Option Addr) (bn bc : Nat) (bs : List BlkH) (a : Option Addr) (n c : Nat) (ls : List TileR) (k : Nat) (w : World) (h : BlksOK w ba bn bs) (ht : TilesOK w a n ls) (hk : k < n) (hT : totL (tdOf ls) ≤ 1000000) (hg : goodB (tsOf bs) = true)
    (hbs : ∀ x ∈ blkL (tdOf ls) k, 0 ≤ x ∧ x < bn) (hall : ∀ b, setK (tdOf ls) k b = true → b < bn) :
    Calls Tryz.prog 104 #[funcV pa pn pc ba bn bc, .slice a n c, .int .i64 (k : Int)] w fun e w' => e = .returned (.bool (holdsB (tsOf bs) ((tdOf ls).getD k zTile) (setK (tdOf ls) k))) ∧ Below w.heap.size w w' := by
  have hn := ht.1.2.1
  have hbn : bn ≤ 200 := by have := ((goodB_iff _).1 hg).1.2; rw [tsOf_len, h.1.1] at this; exact this
  obtain ⟨t, tb, tw, hlk, hok, rfl, _⟩ := ht.cells hk
  have htd := tdOf_at ls k t hlk
  rw [blkL, htd] at hbs
  rw [htd]
  have HLK := Lib.hid hlk
  have HBS := Lib.hid hbs
  have HALL : Hid (∀ b, setK (tdOf ls) k b = true → b < bn) := hall
  have HCF : Hid (Canon (setK (tdOf ls) k)) := of_canon _
  have H := Lib.hid h
  have HT := Lib.hid ht
  have HG := Lib.hid hg
  have HTOT := Lib.hid hT
  obtain ⟨hI, hcap, hki, _⟩ := hok
  obtain ⟨hk1, hk2⟩ := hki
  have HI := Lib.hid hI
  have hkn : (k : Int) < (n : Int) := by omega
  clear h ht hg hT hbs hall hlk htd hI
  go_enter Tryz.func104, Tryz.ntmps104
  go_upto_region 1 with (fail)
  obtain ⟨W, hW⟩ : ∃ W, W = w.alloc (funcO pa pn pc ba bn bc) := ⟨_, rfl⟩
  rw [← hW]
  have ho : W.heap[w.heap.size]? = some (funcO pa pn pc ba bn bc) := by rw [hW]; exact heap_alloc_new _ _
  have hB : Below w.heap.size w W := by rw [hW]; exact ext_alloc _ _
  have HF0 := Lib.hid ho
  have HB0 := Lib.hid hB
  clear hW ho hB
  go_upto_region 2 with (first
    | (go_at_call 45
       refine (all17T_any (some ⟨tb, tw, none⟩) n c ls (k : Int) W (HT.out.ext HB0.out) (by unfold I64; omega) HTOT.out).mono ?_
       rintro e w2 ⟨v, rfl, ho, hb⟩
       obtain ⟨va, vc, rfl⟩ := ho.form
       have HV := Lib.hid ho.ints
       have HF1 := Lib.hid (block_ext hb HF0.out)
       have HB1 := Lib.hid (ext_trans HB0.out hb)
       clear ho hb)
    | (go_at_call 108
       refine (setOf17_any va _ vc _ w2 HV.out).mono ?_
       rintro e w3 ⟨rfl, hb⟩
       have HF2 := Lib.hid (block_ext hb HF1.out)
       have HB2 := Lib.hid (ext_trans HB1.out hb)
       clear hb HF1 HB1)
    | (refine wpList_store_row rfl 107 _ _ rfl w3.heap.size (setA (ofS (allL (tdOf ls) (k : Int)))) rfl rfl 107 _ (heap_alloc_new w3 (.cells Tryz.zeroCells107 107)) (by rw [setA_size]; exact size_rset) rfl (setA_all _) ?_))
  obtain ⟨P, hP⟩ : ∃ P, P = w3.heap.size := ⟨_, rfl⟩
  obtain ⟨W4, hW4⟩ : ∃ W4, W4 = (w3.alloc (.cells Tryz.zeroCells107 107)).setRow w3.heap.size (setA (ofS (allL (tdOf ls) (k : Int)))) := ⟨_, rfl⟩
  rw [← hW4]
  have hs4 : W4.heap[P]? = some (rsetO (setK (tdOf ls) k)) := by rw [hW4, hP]; exact setRow_heap _ _ _ _ _ _ (heap_alloc_new w3 (.cells Tryz.zeroCells107 107))
  have hlf := lt_of_heap HF2.out
  have hf4 : W4.heap[w.heap.size]? = some (funcO pa pn pc ba bn bc) := by rw [hW4, setRow_other _ _ _ _ (by omega), Below.heap_alloc _ _ _ hlf]; exact HF2.out
  have hb4 : Below w.heap.size w W4 := by rw [hW4]; exact below_setRow (HB2.out.alloc HB2.out.size _) HB2.out.size _
  have hPw : w.heap.size < P := by omega
  have hP4 := lt_of_heap hs4
  rw [← hP]
  have HS := Lib.hid hs4
  have HF := Lib.hid hf4
  have HB := Lib.hid hb4
  clear hW4 hs4 hf4 hb4 HF2 HB2 HV HF0 HB0 hlf hP
  generalize hse : setK (tdOf ls) k = s at *
  have HSE := Lib.hid hse
  clear hse
  go_upto_region 3 with (first
    | (refine wpList_load_row (o := ⟨some 15, .load 25 _, _, _, _, _⟩) rfl 25 _ rfl w.heap.size rfl 25 _ (0, 0) _ HF.out Tryz.underlying25 rfl size_func ?_)
    | (refine wpList_load_row (o := ⟨some 16, .load 107 _, _, _, _, _⟩) rfl 107 _ rfl P rfl 107 _ (0, 0) _ HS.out Tryz.underlying107 rfl (by rw [setA_size]; exact size_rset) ?_)
    | (go_at_call 107
       refine (entries17_any pa pn pc ba bn bc bs s W4 (H.out.ext HB.out) HG.out).mono ?_
       rintro e w5 ⟨ev, rfl, ho, hb⟩
       obtain ⟨ea, ec, rfl⟩ := ho.form
       have HE := Lib.hid ho.ints
       have HF5 := Lib.hid (block_ext hb HF.out)
       have HS5 := Lib.hid (block_ext hb HS.out)
       have HB5 := Lib.hid (ext_trans HB.out hb)
       have hP5 : P < w5.heap.size := Nat.lt_of_lt_of_le hP4 hb.size
       have hec := ho.cap
       have hel : (intsN (entriesS (tsOf bs) s)).length = (entriesS (tsOf bs) s).length := (by simp [intsN])
       rw [hel] at hec HE ⊢
       clear ho hb hel))
  have hel2 : (entriesS (tsOf bs) s).length ≤ 200 := Nat.le_trans (List.length_filter_le _ _) (listS_len s)
  clear HF HS HB hP4
  go_cut [9] (fun s9 wr => s9 = .bool (oneB t.d (entriesS (tsOf bs) s)) ∧ Hid (wr.heap[w.heap.size]? = some (funcO pa pn pc ba bn bc)) ∧ Hid (wr.heap[P]? = some (rsetO s)) ∧ Hid (Ints wr ea (entriesS (tsOf bs) s).length (intsN (entriesS (tsOf bs) s))) ∧ Hid (Below w.heap.size w wr) ∧ P < wr.heap.size)
  case first =>
    obtain ⟨t', tb', tw', hlk', hok', et, c0, c1, c2⟩ := (HT.out.ext HB5.out).cells hk
    injection et with et
    injection et with et1 et2 _
    subst et1 et2
    rw [HLK.out] at hlk'
    injection hlk' with hlk'
    subst hlk'
    clear hok' c0 c1
    have kB : ∀ n' : ExtW w5, n'.val.cell? ⟨tb, tw + k * 3 + 2, none⟩ = some (.slice t.ba t.bn t.bc) := fun n' => cell_ext n'.ext c2
    clear c2
    by_cases h1 : (entriesS (tsOf bs) s).length = 1
    · obtain ⟨x, hx⟩ : ∃ x, entriesS (tsOf bs) s = [x] := by
        match h : entriesS (tsOf bs) s with
        | [] => rw [h] at h1; simp at h1
        | [x] => exact ⟨x, rfl⟩
        | _ :: _ :: _ => rw [h] at h1; simp at h1
      obtain ⟨b, o, rfl, hc, _⟩ := HE.out.2.2 0 (by omega)
      have hx0 : (intsN (entriesS (tsOf bs) s)).getD 0 0 = (x : Int) := by rw [hx]; rfl
      rw [hx0] at hc
      have kE : ∀ n' : ExtW w5, n'.val.cell? ⟨b, o, none⟩ = some (.int .i64 (x : Int)) := fun n' => cell_ext n'.ext hc
      have HO : Hid (oneB t.d (entriesS (tsOf bs) s) = t.d.blocks.contains (x : Int)) := by
        rw [hx, Hid]
        simp [oneB]
      have heq : ((((entriesS (tsOf bs) s).length : Nat) : Int) == 1) = true := by simp [h1]
      have hlt : 0 < (entriesS (tsOf bs) s).length := by omega
      clear hx hx0 hc h1
      refine region_ext (by kernel_rfl) (by kernel_rfl) ?_
      repeat (first
        | go_big_quiet_skip
        | go_big_quiet_step (first
          | (go_at_call 165; exact quiet_ext_same (has17_any t.ba t.bn t.bc t.d.blocks _ _ (HI.out.ext (ext_trans HB5.out (ExtW.ext _)))))))
      refine wpQuiet_nil ?_
      intro _ hw'
      obtain ⟨n', rfl⟩ := hw'
      go_wp2
      go_meet
      exact ⟨by rw [HO.out]; simp, block_ext n'.ext HF5.out, block_ext n'.ext HS5.out, HE.out.ext n'.ext, ext_trans HB5.out n'.ext, Nat.lt_of_lt_of_le hP5 n'.ext.size⟩
    · have hne : ((((entriesS (tsOf bs) s).length : Nat) : Int) == 1) = false := by simp; omega
      have HO : Hid (oneB t.d (entriesS (tsOf bs) s) = false) := by
        rw [Hid]
        simp [oneB, h1]
      refine region_ext (by kernel_rfl) (by kernel_rfl) ?_
      repeat (first
        | go_big_quiet_skip
        | go_big_quiet_step (fail))
      refine wpQuiet_nil ?_
      intro _ hw'
      obtain ⟨n', rfl⟩ := hw'
      go_wp2
      go_meet
      exact ⟨by rw [HO.out], block_ext n'.ext HF5.out, block_ext n'.ext HS5.out, HE.out.ext n'.ext, ext_trans HB5.out n'.ext, Nat.lt_of_lt_of_le hP5 n'.ext.size⟩
  case rest =>
    obtain ⟨rfl, HF, HS, HE2, HB, hPc⟩ := hcut
    obtain ⟨t', tb', tw', hlk', hok', et, c0, c1, c2⟩ := (HT.out.ext HB.out).cells hk
    injection et with et
    injection et with et1 et2 _
    subst et1 et2
    rw [HLK.out] at hlk'
    injection hlk' with hlk'
    subst hlk'
    clear hok' c1 HE HF5 HS5 HB5 hP5
    have qf : ∀ w', (∃ n : ExtW wc, w' = n.val) → w'.heap[w.heap.size]? = some (funcO pa pn pc ba bn bc) := fun w' ⟨n, e⟩ => by rw [e]; exact block_ext n.ext HF.out
    have qs : ∀ w', (∃ n : ExtW wc, w' = n.val) → w'.heap[P]? = some (rsetO s) := fun w' ⟨n, e⟩ => by rw [e]; exact block_ext n.ext HS.out
    have kB : ∀ n' : ExtW wc, n'.val.cell? ⟨tb, tw + k * 3 + 2, none⟩ = some (.slice t.ba t.bn t.bc) := fun n' => cell_ext n'.ext c2
    have HRG : Hid (∀ n' : ExtW wc, Calls Tryz.prog 166 #[funcV pa pn pc ba bn bc, .slice t.ba t.bn t.bc, .agg (setA s)] n'.val fun e w'' => e = .returned (.bool (ringsB (tsOf bs) t.d.blocks s)) ∧ ∃ m : ExtW wc, w'' = m.val) :=
      fun n' => quiet_ext (ring17_any pa pn pc ba bn bc bs t.ba t.bn t.bc t.d.blocks s n'.val (H.out.ext (ext_trans HB.out n'.ext)) HG.out HCF.out HALL.out (HI.out.ext (ext_trans HB.out n'.ext)) (fun x hx => by have := HBS.out x hx; omega))
    by_cases h1 : t.d.kind = 1
    · have e1 : (t.d.kind == 1) = true := by simp [h1]
      have HR : Hid (holdsB (tsOf bs) t.d s = !ringsB (tsOf bs) t.d.blocks s) := by simp [Hid, holdsB, h1]
      clear h1
      go_wp2
      refine region_ext (by kernel_rfl) (by kernel_rfl) ?_
      repeat (first
        | go_big_quiet_skip
        | (refine wpQuiet_load_row (o := ⟨some 39, .load 25 _, _, _, _, _⟩) (by rfl) 25 _ rfl w.heap.size rfl 25 #[.slice pa pn pc, .slice ba bn bc] (0, 0) _ qf Tryz.underlying25 rfl size_func ?_; simp only [put_some, List.setIfInBounds_toArray, List.set_cons_succ, List.set_cons_zero])
        | (refine wpQuiet_load_row (o := ⟨some 45, .load 107 _, _, _, _, _⟩) (by rfl) 107 _ rfl P rfl 107 _ (0, 0) _ qs Tryz.underlying107 rfl (by rw [setA_size]; exact size_rset) ?_; simp only [put_some, List.setIfInBounds_toArray, List.set_cons_succ, List.set_cons_zero])
        | go_big_quiet_step (first
          | (go_at_call 166; exact HRG.out _)))
      refine wpQuiet_nil ?_
      intro _ hw'
      obtain ⟨n', rfl⟩ := hw'
      go_wp2
      go_ret
      exact ⟨by rw [HSE.out, HR.out]; rfl, ext_trans HB.out n'.ext⟩
    · have e1 : (t.d.kind == 1) = false := by simpa using h1
      by_cases h2 : t.d.kind = 2
      · have e2 : (t.d.kind == 2) = true := by simp [h2]
        have HR : Hid (holdsB (tsOf bs) t.d s = (oneB t.d (entriesS (tsOf bs) s) && togetherB (tsOf bs) s && !ringsB (tsOf bs) t.d.blocks (lessS s ((entriesS (tsOf bs) s).headD 0)))) := by simp [Hid, holdsB, h2]
        clear h1 h2 HRG
        cases ho : oneB t.d (entriesS (tsOf bs) s) with
        | false =>
          rw [ho, Bool.false_and, Bool.false_and] at HR
          clear ho
          go_wp2
          go_ret
          exact ⟨by rw [HSE.out, HR.out]; rfl, HB.out⟩
        | true =>
          obtain ⟨x, hx⟩ := one_iff _ _ ho
          obtain ⟨b, o, rfl, hc, _⟩ := HE2.out.2.2 0 (by rw [hx]; simp)
          have hxm : x ∈ entriesS (tsOf bs) s := by rw [hx]; simp
          have hx2 : x < 200 := listS_lt s x (List.mem_filter.1 hxm).1
          clear hxm
          rw [ho, Bool.true_and, show (entriesS (tsOf bs) s).headD 0 = x by rw [hx]; rfl] at HR
          have hx0 : (intsN (entriesS (tsOf bs) s)).getD 0 0 = (x : Int) := by rw [hx]; rfl
          rw [hx0] at hc
          have hlt : 0 < (entriesS (tsOf bs) s).length := by rw [hx]; simp
          have hc0 : wc.cell? ⟨b, o, none⟩ = some (.int .i64 (x : Int)) := hc
          have HCE := Lib.hid hc0
          have HK0 := Lib.hid c0
          have HK2 := Lib.hid c2
          clear ho hx hx0 hc hc0 c2 qf qs kB
          go_upto_region 11 with (first
            | (refine wpList_load_row (o := ⟨some 52, .load 107 _, _, _, _, _⟩) rfl 107 _ rfl P rfl 107 _ (0, 0) _ HS.out Tryz.underlying107 rfl (by rw [setA_size]; exact size_rset) ?_)
            | (refine wpList_store_row rfl 107 _ _ rfl wc.heap.size (setA s) rfl rfl 107 _ (heap_alloc_new wc (.cells Tryz.zeroCells107 107)) (by rw [setA_size]; exact size_rset) rfl (setA_all _) ?_))
          obtain ⟨P2, hP2⟩ : ∃ P2, P2 = wc.heap.size := ⟨_, rfl⟩
          obtain ⟨W6, hW6⟩ : ∃ W6, W6 = (wc.alloc (.cells Tryz.zeroCells107 107)).setRow wc.heap.size (setA s) := ⟨_, rfl⟩
          rw [← hW6]
          have hs6 : W6.heap[P2]? = some (rsetO s) := by rw [hW6, hP2]; exact setRow_heap _ _ _ _ _ _ (heap_alloc_new wc (.cells Tryz.zeroCells107 107))
          have hb6 : Below wc.heap.size wc W6 := by rw [hW6]; exact below_setRow (ext_alloc _ _) (Nat.le_refl _) _
          rw [← hP2]
          have hPP : wc.heap.size ≤ P2 := by omega
          clear hP2
          have hc6 := cell_ext hb6 HCE.out
          have hcs := rset_cell hs6 x hx2
          have hcf := rset_free hs6 x
          have HS7 := Lib.hid (rset_to (b := false) hs6 hx2 (lessS_put s x))
          have HB7 : Hid (Below wc.heap.size wc (W6.setCell ⟨P2, x, none⟩ (.bool false))) := hb6.setCell hPP _
          clear hs6 hb6 hW6 HCE
          go_upto_region 12 with (fail)
          generalize W6.setCell ⟨P2, x, none⟩ (.bool false) = W7 at *
          have qf : ∀ w', (∃ n : ExtW W7, w' = n.val) → w'.heap[w.heap.size]? = some (funcO pa pn pc ba bn bc) := fun w' ⟨n, e⟩ => by rw [e]; exact block_ext n.ext (block_ext HB7.out HF.out)
          have qs : ∀ w', (∃ n : ExtW W7, w' = n.val) → w'.heap[P]? = some (rsetO s) := fun w' ⟨n, e⟩ => by rw [e]; exact block_ext n.ext (block_ext HB7.out HS.out)
          have qr : ∀ w', (∃ n : ExtW W7, w' = n.val) → w'.heap[P2]? = some (rsetO (lessS s x)) := fun w' ⟨n, e⟩ => by rw [e]; exact block_ext n.ext HS7.out
          have kB : ∀ n' : ExtW W7, n'.val.cell? ⟨tb, tw + k * 3 + 2, none⟩ = some (.slice t.ba t.bn t.bc) := fun n' => cell_ext n'.ext (cell_ext HB7.out HK2.out)
          have HBB : Hid (∀ n' : ExtW W7, Below w.heap.size w n'.val) := fun n' => ext_trans HB.out (ext_trans HB7.out n'.ext)
          have HTG : Hid (∀ n' : ExtW W7, Calls Tryz.prog 167 #[funcV pa pn pc ba bn bc, .agg (setA s)] n'.val fun e w'' => e = .returned (.bool (togetherB (tsOf bs) s)) ∧ ∃ m : ExtW W7, w'' = m.val) :=
            fun n' => quiet_ext (together17_any pa pn pc ba bn bc bs s n'.val (H.out.ext (HBB.out n')) HG.out HCF.out HALL.out)
          have HRG : Hid (∀ n' : ExtW W7, Calls Tryz.prog 166 #[funcV pa pn pc ba bn bc, .slice t.ba t.bn t.bc, .agg (setA (lessS s x))] n'.val fun e w'' => e = .returned (.bool (ringsB (tsOf bs) t.d.blocks (lessS s x))) ∧ ∃ m : ExtW W7, w'' = m.val) :=
            fun n' => quiet_ext (ring17_any pa pn pc ba bn bc bs t.ba t.bn t.bc t.d.blocks (lessS s x) n'.val (H.out.ext (HBB.out n')) HG.out (less_canon HCF.out x) (fun b hb => HALL.out b (by simp [lessS] at hb; exact hb.2)) (HI.out.ext (HBB.out n')) (fun x hx => by have := HBS.out x hx; omega))
          clear hc6 hcs hcf
          cases htg : togetherB (tsOf bs) s with
          | false =>
            rw [htg, Bool.false_and] at HR
            rw [htg] at HTG
            clear htg
            refine region_ext (by kernel_rfl) (by kernel_rfl) ?_
            repeat (first
              | go_big_quiet_skip
              | (refine wpQuiet_load_row (o := ⟨some 57, .load 25 _, _, _, _, _⟩) (by rfl) 25 _ rfl w.heap.size rfl 25 #[.slice pa pn pc, .slice ba bn bc] (0, 0) _ qf Tryz.underlying25 rfl size_func ?_; simp only [put_some, List.setIfInBounds_toArray, List.set_cons_succ, List.set_cons_zero])
              | (refine wpQuiet_load_row (o := ⟨some 58, .load 107 _, _, _, _, _⟩) (by rfl) 107 _ rfl P rfl 107 _ (0, 0) _ qs Tryz.underlying107 rfl (by rw [setA_size]; exact size_rset) ?_; simp only [put_some, List.setIfInBounds_toArray, List.set_cons_succ, List.set_cons_zero])
              | go_big_quiet_step (first
                | (go_at_call 167; exact HTG.out _)))
            refine wpQuiet_nil ?_
            intro _ hw'
            obtain ⟨n', rfl⟩ := hw'
            go_wp2
            go_ret
            exact ⟨by rw [HSE.out, HR.out]; rfl, HBB.out n'⟩
          | true =>
            rw [htg, Bool.true_and] at HR
            rw [htg] at HTG
            clear htg
            refine region_ext (by kernel_rfl) (by kernel_rfl) ?_
            repeat (first
              | go_big_quiet_skip
              | (refine wpQuiet_load_row (o := ⟨some 57, .load 25 _, _, _, _, _⟩) (by rfl) 25 _ rfl w.heap.size rfl 25 #[.slice pa pn pc, .slice ba bn bc] (0, 0) _ qf Tryz.underlying25 rfl size_func ?_; simp only [put_some, List.setIfInBounds_toArray, List.set_cons_succ, List.set_cons_zero])
              | (refine wpQuiet_load_row (o := ⟨some 58, .load 107 _, _, _, _, _⟩) (by rfl) 107 _ rfl P rfl 107 _ (0, 0) _ qs Tryz.underlying107 rfl (by rw [setA_size]; exact size_rset) ?_; simp only [put_some, List.setIfInBounds_toArray, List.set_cons_succ, List.set_cons_zero])
              | (refine wpQuiet_load_row (o := ⟨some 61, .load 25 _, _, _, _, _⟩) (by rfl) 25 _ rfl w.heap.size rfl 25 #[.slice pa pn pc, .slice ba bn bc] (0, 0) _ qf Tryz.underlying25 rfl size_func ?_; simp only [put_some, List.setIfInBounds_toArray, List.set_cons_succ, List.set_cons_zero])
              | (refine wpQuiet_load_row (o := ⟨some 67, .load 107 _, _, _, _, _⟩) (by rfl) 107 _ rfl P2 rfl 107 _ (0, 0) _ qr Tryz.underlying107 rfl (by rw [setA_size]; exact size_rset) ?_; simp only [put_some, List.setIfInBounds_toArray, List.set_cons_succ, List.set_cons_zero])
              | go_big_quiet_step (first
                | (go_at_call 167; exact HTG.out _)
                | (go_at_call 166; exact HRG.out _)))
            refine wpQuiet_nil ?_
            intro _ hw'
            obtain ⟨n', rfl⟩ := hw'
            go_wp2
            go_ret
            exact ⟨by rw [HSE.out, HR.out]; rfl, HBB.out n'⟩
      · have e2 : (t.d.kind == 2) = false := by simpa using h2
        by_cases h3 : t.d.kind = 3
        · have e3 : (t.d.kind == 3) = true := by simp [h3]
          have HR : Hid (holdsB (tsOf bs) t.d s = (decide (1 < (entriesS (tsOf bs) s).length) && togetherB (tsOf bs) s)) := by simp [Hid, holdsB, h3]
          clear h1 h2 h3 HRG qf qs kB
          by_cases hl : 1 < (entriesS (tsOf bs) s).length
          · have d1 : decide ((1 : Int) < ((entriesS (tsOf bs) s).length : Int)) = true := by simp; omega
            have d2 : decide (1 < (entriesS (tsOf bs) s).length) = true := by simpa using hl
            rw [d2, Bool.true_and] at HR
            go_wp2_with (first
              | (refine wpList_load_rowW (o := ⟨some 77, .load 25 _, _, _, _, _⟩) (by rfl) 25 _ rfl w.heap.size rfl 25 _ (0, 0) _ HF.out Tryz.underlying25 rfl size_func ?_)
              | (refine wpList_load_rowW (o := ⟨some 78, .load 107 _, _, _, _, _⟩) (by rfl) 107 _ rfl P rfl 107 _ (0, 0) _ HS.out Tryz.underlying107 rfl (by rw [setA_size]; exact size_rset) ?_)
              | (go_at_call 167
                 refine (together17_any pa pn pc ba bn bc bs s wc (H.out.ext HB.out) HG.out HCF.out HALL.out).mono ?_
                 rintro e w6 ⟨rfl, hb6⟩
                 have HB6 := Lib.hid (ext_trans HB.out hb6)
                 clear hb6))
            go_ret
            exact ⟨by rw [HSE.out, HR.out]; rfl, HB6.out⟩
          · have d1 : decide ((1 : Int) < ((entriesS (tsOf bs) s).length : Int)) = false := by simp; omega
            have d2 : decide (1 < (entriesS (tsOf bs) s).length) = false := by simpa using hl
            rw [d2, Bool.false_and] at HR
            go_wp2
            go_ret
            exact ⟨by rw [HSE.out, HR.out]; rfl, HB.out⟩
        · have e3 : (t.d.kind == 3) = false := by simpa using h3
          by_cases h4 : t.d.kind = 4
          · have e4 : (t.d.kind == 4) = true := by simp [h4]
            have HR : Hid (holdsB (tsOf bs) t.d s = (oneB t.d (entriesS (tsOf bs) s) && !ringsB (tsOf bs) t.d.blocks s)) := by simp [Hid, holdsB, h4]
            clear h1 h2 h3 h4
            cases ho : oneB t.d (entriesS (tsOf bs) s) with
            | true =>
              rw [ho, Bool.true_and] at HR
              clear ho
              go_wp2
              refine region_ext (by kernel_rfl) (by kernel_rfl) ?_
              repeat (first
                | go_big_quiet_skip
                | (refine wpQuiet_load_row (o := ⟨some 85, .load 25 _, _, _, _, _⟩) (by rfl) 25 _ rfl w.heap.size rfl 25 #[.slice pa pn pc, .slice ba bn bc] (0, 0) _ qf Tryz.underlying25 rfl size_func ?_; simp only [put_some, List.setIfInBounds_toArray, List.set_cons_succ, List.set_cons_zero])
                | (refine wpQuiet_load_row (o := ⟨some 91, .load 107 _, _, _, _, _⟩) (by rfl) 107 _ rfl P rfl 107 _ (0, 0) _ qs Tryz.underlying107 rfl (by rw [setA_size]; exact size_rset) ?_; simp only [put_some, List.setIfInBounds_toArray, List.set_cons_succ, List.set_cons_zero])
                | go_big_quiet_step (first
                  | (go_at_call 166; exact HRG.out _)))
              refine wpQuiet_nil ?_
              intro _ hw'
              obtain ⟨n', rfl⟩ := hw'
              go_wp2
              go_ret
              exact ⟨by rw [HSE.out, HR.out]; rfl, ext_trans HB.out n'.ext⟩
            | false =>
              rw [ho, Bool.false_and] at HR
              clear ho
              go_wp2
              refine region_ext (by kernel_rfl) (by kernel_rfl) ?_
              repeat (first
                | go_big_quiet_skip
                | go_big_quiet_step (fail))
              refine wpQuiet_nil ?_
              intro _ hw'
              obtain ⟨n', rfl⟩ := hw'
              go_wp2
              go_ret
              exact ⟨by rw [HSE.out, HR.out]; rfl, ext_trans HB.out n'.ext⟩
          · have e4 : (t.d.kind == 4) = false := by simpa using h4
            have HR : Hid (holdsB (tsOf bs) t.d s = false) := by simp [Hid, holdsB, h1, h2, h3, h4]
            clear h1 h2 h3 h4
            go_wp2
            go_ret
            exact ⟨by rw [HSE.out, HR.out]; rfl, HB.out⟩
end Go.Proofs.YtblhmdhfhaencaaGreat
