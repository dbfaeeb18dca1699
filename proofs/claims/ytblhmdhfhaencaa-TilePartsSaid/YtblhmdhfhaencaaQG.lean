/-
 Parts of a function: in how many one lies.
-/
import Derived.Test.YtblhmdhfhaencaaQF
namespace Go.Proofs.Ytblhmdhfhaencaa
set_option linter.unusedSimpArgs false
set_option linter.unusedVariables false
set_option linter.unusedSectionVars false
set_option maxRecDepth 100000
set_option maxHeartbeats 40000000
section
open Go.RowKit Go.Shelf

/-- a builder, as it lies -/
abbrev bldO (d : WalkD) (v : Value) : Obj := .cells #[.slice d.pa d.pn d.pc, .slice d.ba d.bn d.bc, .slice d.ta d.bn d.tc, .slice d.fa d.bn d.fc, v] 94 (0, 0)
theorem zero_part : Try.zeroCells99.size = 202 := by kernel_rfl
theorem part_setR {W : World} {B : Nat} {old : Array Value} {p : PartD} (h : W.heap[B]? = some (.cells old 99 (0, 0))) : (W.setRow B (partC p).toArray).heap[B]? = some (.cells (partC p).toArray 99 (0, 0)) := setRow_heap _ _ _ _ _ _ h
abbrev partO (p : PartD) : Obj := .cells (partC p).toArray 99 (0, 0)
/-- a part's set, inside its row -/
theorem part_set0 {W : World} {B : Nat} {p : PartD} (h : W.heap[B]? = some (partO p)) : W.rangeAt B 0 (setA p.s).toList := by
 intro k v hk
 have hlt : k < (setA p.s).toList.length := by
  rcases Nat.lt_or_ge k (setA p.s).toList.length with h | h
  · exact h
  · rw [List.getElem?_eq_none h] at hk; cases hk
 rw [cell_of_row _ _ _ _ _ _ h]
 simp only [partC, List.getElem?_toArray, Nat.zero_add]
 rw [List.getElem?_append_left hlt]
 exact hk
theorem aroundP_take (L : List PartD) (p : PartD) (k : Nat) (hk : k < L.length) : aroundP (L.take (k + 1)) p = aroundP (L.take k) p + (if withinB p.s (L.getD k zPart).s then 1 else 0) := by
 rw [aroundP, aroundP, takeS L k zPart hk, List.filter_append, List.length_append]
 congr 1
 generalize L.getD k zPart = q
 by_cases h : withinB p.s q.s = true <;> simp [h]
theorem around_any (P base : Nat) (a : Option Addr) (n c : Nat) (d : WalkD) (L : List PartD) (p : PartD) (w : World) (hB : w.heap[P]? = some (bldO d (.slice a n c))) (hL : PartsIn w base (.slice a n c) L) (hn : n ≤ 1000000) :
  Calls Try.prog 57 #[.pointer (some ⟨P, 0, none⟩), partV p] w fun e w' => e = .returned (.int .i64 (aroundP L p : Int)) ∧ Below w.heap.size w w' := by
 have hlen : L.length = n := by
  obtain ⟨_, _, e⟩ := OwnR.form hL
  injection e with _ e _
  exact e.symm
 have hsl : w.cell? ⟨P, 4, none⟩ = some (.slice a n c) := by rw [cell_of_row _ _ _ _ _ _ hB]; rfl
 have HL := Lib.hid hL
 clear hB hL
 go_enter Try.func57, Try.ntmps57
 go_upto_region 1 with (fail)
 obtain ⟨W, hW⟩ : ∃ W, W = w.alloc (partO p) := ⟨_, rfl⟩
 rw [← hW]
 have hp : W.heap[w.heap.size]? = some (partO p) := by rw [hW]; exact heap_alloc_new _ _
 have hb : Below w.heap.size w W := by rw [hW]; exact ext_alloc _ _
 have hc := cell_ext hb hsl
 have HP := Lib.hid hp
 have HB := Lib.hid hb
 have hsz : w.heap.size < W.heap.size := lt_of_heap hp
 clear hp hb hW hsl
 go_wp2
 go_loopw [4, 12] (fun s4 s12 wr => ∃ k : Nat, k ≤ n ∧ s4 = .int .i64 (aroundP (L.take k) p : Int) ∧ s12 = .int .i64 (k : Int) ∧ Hid (Below W.heap.size W wr)) (fun _ s12 _ => n - (intOf s12).toNat)
 case atStart => exact ⟨0, by omega, rfl, rfl, Below.refl _ _⟩
 case round =>
  obtain ⟨k, hk, rfl, rfl, HR⟩ := hrel
  by_cases hlt : k < n
  · have hlt' : (k : Int) < (n : Int) := by omega
    have hLr : PartsIn wr base (.slice a n c) L := HL.out.ext (ext_trans HB.out HR.out)
    have hform : ∃ g, a = some ⟨g, 0, none⟩ := by
     obtain ⟨g, c', e⟩ := own_form hLr.1 (by omega)
     injection e with e _ _
     exact ⟨g, e⟩
    obtain ⟨g, rfl⟩ := hform
    have hr := part_range hLr hlt
    have HTK := Lib.hid (aroundP_take L p k (by omega))
    have hle : aroundP (L.take k) p ≤ k := by
     have h1 := List.length_filter_le (fun x => withinB p.s x.s) (L.take k)
     have h2 := List.length_take_le k L
     unfold aroundP
     omega
    have HPr := Lib.hid (block_ext HR.out HP.out)
    generalize L.getD k zPart = q at *
    obtain ⟨bb, hbb⟩ : ∃ bb, bb = withinB p.s q.s := ⟨_, rfl⟩
    rw [← hbb] at HTK
    generalize aroundP (L.take k) p = m at *
    clear hLr
    go_upto_region 4 with (first
     | (refine wpList_load_mid rfl 99 _ rfl g (k * 202) rfl (partC q) _ hr Try.underlying99 rfl (size_partC _) ?_)
     | (refine wpList_store_row rfl 99 _ _ rfl wr.heap.size (partC q).toArray rfl rfl 99 Try.zeroCells99 (heap_alloc_new _ _) (size_partA _) (by rw [zero_part, List.size_toArray, partC_len]) (all_oneCell_toArray (partC_one _)) ?_))
    obtain ⟨W2, hW2⟩ : ∃ W2, W2 = (wr.alloc (.cells Try.zeroCells99 99)).setRow wr.heap.size (partC q).toArray := ⟨_, rfl⟩
    rw [← hW2]
    have hq2 : W2.heap[wr.heap.size]? = some (partO q) := by rw [hW2]; exact setRow_heap _ _ _ _ _ _ (heap_alloc_new _ _)
    have hb2 : Below wr.heap.size wr W2 := by rw [hW2]; exact below_setRow (ext_alloc _ _) (Nat.le_refl _) _
    have hp2 := block_ext hb2 HPr.out
    have h1 := part_set0 hp2
    have h2 := part_set0 hq2
    have HB2 := Lib.hid (ext_trans HR.out hb2)
    clear hW2 hq2 hb2 hp2 hr
    generalize wr.heap.size = gq at *
    cases bb with
    | true =>
      have HTK2 : Hid (aroundP (L.take (k + 1)) p = m + 1) := HTK.out
      have HBB : Hid (withinB p.s q.s = true) := hbb.symm
      clear hbb HTK
      go_wp2_with (first
       | (refine wpList_load_mid (op := ⟨some 17, .load 78 _, _, _, _, _⟩) rfl 78 _ rfl w.heap.size 0 rfl (setA p.s).toList _ h1 Try.underlying78 rfl (by rw [Array.length_toList, setA_size]; exact size_set) ?_)
       | (refine wpList_load_mid (op := ⟨some 19, .load 78 _, _, _, _, _⟩) rfl 78 _ rfl gq 0 rfl (setA q.s).toList _ h2 Try.underlying78 rfl (by rw [Array.length_toList, setA_size]; exact size_set) ?_)
       | (go_at_call 87
          refine (within_any p.s q.s W2).mono ?_
          rintro e w3 ⟨rfl, hb3⟩
          rw [HBB.out]
          have HB3 := Lib.hid (ext_trans HB2.out hb3)
          clear hb3))
      go_roundw
      case rel => exact ⟨k + 1, by omega, by rw [HTK2.out]; go_num, by go_num, HB3⟩
      case measure => simp [intOf]; omega
    | false =>
      have HTK2 : Hid (aroundP (L.take (k + 1)) p = m) := HTK.out
      have HBB : Hid (withinB p.s q.s = false) := hbb.symm
      clear hbb HTK
      go_wp2_with (first
       | (refine wpList_load_mid (op := ⟨some 17, .load 78 _, _, _, _, _⟩) rfl 78 _ rfl w.heap.size 0 rfl (setA p.s).toList _ h1 Try.underlying78 rfl (by rw [Array.length_toList, setA_size]; exact size_set) ?_)
       | (refine wpList_load_mid (op := ⟨some 19, .load 78 _, _, _, _, _⟩) rfl 78 _ rfl gq 0 rfl (setA q.s).toList _ h2 Try.underlying78 rfl (by rw [Array.length_toList, setA_size]; exact size_set) ?_)
       | (go_at_call 87
          refine (within_any p.s q.s W2).mono ?_
          rintro e w3 ⟨rfl, hb3⟩
          rw [HBB.out]
          have HB3 := Lib.hid (ext_trans HB2.out hb3)
          clear hb3))
      go_roundw
      case rel => exact ⟨k + 1, by omega, by rw [HTK2.out], by go_num, HB3⟩
      case measure => simp [intOf]; omega
  · obtain rfl : k = n := by omega
    have HT : Hid (L.take k = L) := List.take_of_length_le (by omega)
    go_wp2
    go_ret
    exact ⟨by rw [HT.out]; rfl, ext_trans HB.out HR.out⟩
end
end Go.Proofs.Ytblhmdhfhaencaa
