/-
  slices.SortFunc's family at facts, laid; the sort of a slice of facts.
-/
import Derived.Shelf.SlSortCmp.WholeK
import Derived.Test.YtfpbfdkjcmlimaaGreatKR
namespace Go.Proofs.YtfpbfdkjcmlimaaGreat
set_option linter.unusedSimpArgs false
set_option linter.unusedVariables false
set_option linter.unusedSectionVars false
set_option maxRecDepth 100000
set_option maxHeartbeats 40000000
section
open Go.Shelf Go.RowKit
def layF_ren : Go.Shelf.Ren := ⟨fun | 6 => 59 | 14 => 75 | 15 => 76 | 20 => 86 | 21 => 87 | 22 => 88 | 23 => 89 | 24 => 90 | 25 => 91 | 26 => 92 | 27 => 93 | 28 => 94 | 29 => 95 | 46 => 100 | 47 => 101 | 48 => 102 | 49 => 103 | 50 => 104 | 57 => 105 | n => n, fun | 24 => 36 | 0 => 0 | 3 => 3 | 4 => 4 | 5 => 5 | 9 => 9 | 22 => 32 | 25 => 85 | 39 => 134 | 45 => 147 | 46 => 148 | 50 => 152 | 53 => 155 | 55 => 157 | 66 => 161 | 70 => 165 | 76 => 167 | 77 => 168 | n => n, fun | n => n⟩
theorem layF : Go.Proofs.SlLaysF0.n6 Tryz.prog layF_ren := {
  mixed := by kernel_rfl
  f6 := ⟨Tryz.f59.name, by decide, Tryz.func59.trans (congrArg some (by kernel_rfl))⟩
  f14 := ⟨Tryz.f75.name, by decide, Tryz.func75.trans (congrArg some (by kernel_rfl))⟩
  f15 := Tryz.func76.trans (congrArg some (by kernel_rfl))
  f20 := ⟨Tryz.f86.name, by decide, Tryz.func86.trans (congrArg some (by kernel_rfl))⟩
  f21 := ⟨Tryz.f87.name, by decide, Tryz.func87.trans (congrArg some (by kernel_rfl))⟩
  f22 := ⟨Tryz.f88.name, by decide, Tryz.func88.trans (congrArg some (by kernel_rfl))⟩
  f23 := ⟨Tryz.f89.name, by decide, Tryz.func89.trans (congrArg some (by kernel_rfl))⟩
  f24 := ⟨Tryz.f90.name, by decide, Tryz.func90.trans (congrArg some (by kernel_rfl))⟩
  f25 := ⟨Tryz.f91.name, by decide, Tryz.func91.trans (congrArg some (by kernel_rfl))⟩
  f26 := ⟨Tryz.f92.name, by decide, Tryz.func92.trans (congrArg some (by kernel_rfl))⟩
  f27 := ⟨Tryz.f93.name, by decide, Tryz.func93.trans (congrArg some (by kernel_rfl))⟩
  f28 := Tryz.func94.trans (congrArg some (by kernel_rfl))
  f29 := Tryz.func95.trans (congrArg some (by kernel_rfl))
  f46 := ⟨Tryz.f100.name, by decide, Tryz.func100.trans (congrArg some (by kernel_rfl))⟩
  f47 := Tryz.func101.trans (congrArg some (by kernel_rfl))
  f48 := Tryz.func102.trans (congrArg some (by kernel_rfl))
  f49 := ⟨Tryz.f103.name, by decide, Tryz.func103.trans (congrArg some (by kernel_rfl))⟩
  f50 := ⟨Tryz.f104.name, by decide, Tryz.func104.trans (congrArg some (by kernel_rfl))⟩
  f57 := ⟨Tryz.f105.name, by decide, Tryz.func105.trans (congrArg some (by kernel_rfl))⟩
  t0 := Tryz.underlying0
  a0 := Tryz.isAgg0
  z0 := Tryz.sizeOf0
  v0 := Tryz.zeroValue0
  t3 := Tryz.underlying3
  a3 := Tryz.isAgg3
  z3 := Tryz.sizeOf3
  v3 := Tryz.zeroValue3
  t4 := Tryz.underlying4
  a4 := Tryz.isAgg4
  z4 := Tryz.sizeOf4
  v4 := Tryz.zeroValue4
  t5 := Tryz.underlying5
  a5 := Tryz.isAgg5
  z5 := Tryz.sizeOf5
  v5 := Tryz.zeroValue5
  t9 := Tryz.underlying9
  a9 := Tryz.isAgg9
  z9 := Tryz.sizeOf9
  v9 := Tryz.zeroValue9
  t22 := Tryz.underlying32
  a22 := Tryz.isAgg32
  z22 := Tryz.sizeOf32
  v22 := Tryz.zeroValue32
  t25 := Tryz.underlying85
  a25 := Tryz.isAgg85
  z25 := Tryz.sizeOf85
  v25 := Tryz.zeroValue85
  t39 := Tryz.underlying134
  a39 := Tryz.isAgg134
  z39 := Tryz.sizeOf134
  v39 := Tryz.zeroValue134
  t45 := Tryz.underlying147
  a45 := Tryz.isAgg147
  z45 := Tryz.sizeOf147
  v45 := Tryz.zeroValue147
  t46 := Tryz.underlying148
  a46 := Tryz.isAgg148
  z46 := Tryz.sizeOf148
  v46 := Tryz.zeroValue148
  t50 := Tryz.underlying152
  a50 := Tryz.isAgg152
  z50 := Tryz.sizeOf152
  v50 := Tryz.zeroValue152
  t53 := Tryz.underlying155
  a53 := Tryz.isAgg155
  z53 := Tryz.sizeOf155
  v53 := Tryz.zeroValue155
  t55 := Tryz.underlying157
  a55 := Tryz.isAgg157
  z55 := Tryz.sizeOf157
  v55 := Tryz.zeroValue157
  t66 := Tryz.underlying161
  a66 := Tryz.isAgg161
  z66 := Tryz.sizeOf161
  v66 := Tryz.zeroValue161
  t70 := Tryz.underlying165
  a70 := Tryz.isAgg165
  z70 := Tryz.sizeOf165
  v70 := Tryz.zeroValue165
  t76 := Tryz.underlying167
  a76 := Tryz.isAgg167
  z76 := Tryz.sizeOf167
  v76 := Tryz.zeroValue167
  t77 := Tryz.underlying168
  a77 := Tryz.isAgg168
  z77 := Tryz.sizeOf168
  v77 := Tryz.zeroValue168 }
end

section
open Go.RowKit Go.Shelf Go.Sort
theorem flatK_csF (l : List Fct) : flatK csF 3 l.toArray = (l.flatMap csF).toArray := by
  have hl : (l.flatMap csF).length = l.length * 3 := flatMap_len csF 3 csF_len l
  refine ext_get! (by simp [hl]) fun t ht => ?_
  have ht' : t < l.length * 3 := by simpa using ht
  rw [get_flatK _ _ _ t (by simpa using ht')]
  have h3 : t / 3 < l.length := by omega
  have h4 := flatMap_at csF 3 csF_len l (t / 3) (t % 3) (by omega) l[t / 3] (by simp [h3])
  rw [show t / 3 * 3 + t % 3 = t by omega] at h4
  have e1 : (l.toArray)[t / 3]! = l[t / 3] := by simp [h3]
  rw [e1, List.getElem!_eq_getElem?_getD, ← h4]
  simp [hl, ht']
theorem swoF : SWO (ltOf ckO) := by
  have e : ltOf ckO = ltF := by funext x y; exact ckO_neg x y
  rw [e]
  refine ⟨ltF_irrefl, fun x y z => ltF_trans, fun x y z h1 h2 => ?_⟩
  cases h3 : ltF x z with
  | false => rfl
  | true =>
    exfalso
    cases h4 : ltF y x with
    | true =>
      have := ltF_trans h4 h3
      rw [h2] at this
      cases this
    | false =>
      have := ltF_total h1 h4
      subst this
      rw [h2] at h3
      cases h3
theorem ownF_holds {w : World} {base g n c : Nat} {xs : List Fct} (h : OwnF w base (.slice (some ⟨g, 0, none⟩) n c) xs) : HoldsK csF 3 w g 0 xs.toArray := by
  rcases id h.1.2 with ⟨hv, _⟩ | ⟨g', cap, cur, hv, hb, hh, h1, h2, h3, h4⟩
  · cases hv
  · injection hv with e1 e2 e3
    injection e1 with e1
    injection e1 with e1 _ _
    subst e1 e2 e3
    unfold HoldsK
    rw [flatK_csF]
    intro j hj
    have hj' : j < xs.length * 3 := by simpa [flatMap_len csF 3 csF_len] using hj
    refine ⟨?_, frozen_of_row _ _ _ _ _ hh⟩
    rw [cell_of_row _ _ _ _ _ _ hh, ← h4]
    have hjc : j < cur.size := by omega
    have hm : min (xs.length * 3) cur.size = xs.length * 3 := by omega
    simp [hj', hjc, hm, List.getElem_take]
theorem heap_mapBlock' (w : World) (g k : Nat) (f : Array Value → Array Value) : (mapBlock w g f).heap[k]? = if g = k then (w.heap[k]?).map (onCells f) else w.heap[k]? := by
  show (w.heap.modify g (onCells f))[k]? = _
  rw [Array.getElem?_modify]
theorem grown_putRowK (w : World) (g q : Nat) (ys : Array Fct) : w.grownBy (putRowK csF 3 (Sort.ahead w q) g 0 ys) (some g) := by
  refine ⟨rfl, rfl, rfl, by simp [putRowK, Sort.ahead], fun k _ hne => ?_⟩
  unfold putRowK putRow
  rw [heap_mapBlock', if_neg (fun e => hne (by rw [e]))]
  rfl
theorem grown_grow' {w w' : World} {row : Option Nat} (h : w.grownBy w' row) (os : Array Obj) : w.grownBy (grow w' os) row := by
  refine ⟨h.os, h.tape, h.output, ?_, fun k hk hne => ?_⟩
  · have := h.size
    simp [grow]
    omega
  · rw [heap_grow_old w' os (Nat.lt_of_lt_of_le hk h.size)]
    exact h.block k hk hne
theorem ownF_putRow {w : World} {base g n c : Nat} {xs : List Fct} (h : OwnF w base (.slice (some ⟨g, 0, none⟩) n c) xs) (q : Nat) (ys : List Fct) (hl : ys.length = xs.length) :
    OwnF (putRowK csF 3 (Sort.ahead w q) g 0 ys.toArray) base (.slice (some ⟨g, 0, none⟩) n c) ys := by
  refine ⟨⟨flatMap_len csF 3 csF_len ys, ?_⟩, by have := h.2; omega⟩
  rcases h.1.2 with ⟨hv, _⟩ | ⟨g', cap, cur, hv, hb, hh, h1, h2, h3, h4⟩
  · cases hv
  · injection hv with e1 e2 e3
    injection e1 with e1
    injection e1 with e1 _ _
    subst e1 e3
    have hlen := flatMap_len csF 3 csF_len ys
    refine .inr ⟨g, c, putCells id 0 (flatK csF 3 ys.toArray) cur, by rw [e2, hl], hb, ?_, by omega, h2, by simp [putCells, h3], ?_⟩
    · unfold putRowK putRow
      rw [heap_mapBlock', if_pos rfl]
      show (w.heap[g]?).map _ = _
      rw [hh]
      rfl
    · rw [flatK_csF]
      apply List.ext_getElem?
      intro k
      rw [List.getElem?_take]
      by_cases hk : k < ys.length * 3
      · have hkc : k < cur.size := by omega
        rw [if_pos hk]
        simp [putCells, hlen, hk, hkc]
      · rw [if_neg hk, List.getElem?_eq_none (by omega)]
theorem insNone (p : Option Addr) (cap : Nat) (fv : Value) (w : World) :
    Calls Tryz.prog 86 #[.slice p 0 cap, .int .i64 0, .int .i64 0, fv] w fun e w' => e = .returned (.tuple #[]) ∧ w' = w := by
  go_enter Tryz.func86, Tryz.ntmps86
  go_wp2
  refine wp_loop_rounds 1 ?_
  rw [rounds_succ]
  go_wp2
  go_end0
  exact ⟨rfl, rfl⟩
theorem pdqNone (p : Option Addr) (cap : Nat) (lim : Int) (fv : Value) (w : World) :
    Calls Tryz.prog 75 #[.slice p 0 cap, .int .i64 0, .int .i64 0, .int .i64 lim, fv] w fun e w' => e = .returned (.tuple #[]) ∧ w' = w := by
  go_enter Tryz.func75, Tryz.ntmps75
  go_wp2
  refine wp_loop_rounds 1 ?_
  rw [rounds_succ]
  go_wp2_with (go_at_call 86; refine (insNone _ _ _ _).mono ?_; rintro e w' ⟨rfl, rfl⟩)
  (try simp only [Exit.inBlock, Exit.then]); refine bodyPost_ret (results_none rfl _ _ _) rfl ?_
  exact ⟨rfl, rfl⟩
theorem sortNone (p : Option Addr) (cap : Nat) (fv : Value) (w : World) :
    Calls Tryz.prog 59 #[.slice p 0 cap, fv] w fun e w' => e = .returned (.tuple #[]) ∧ w' = w := by
  have hl : ∀ W, Calls Tryz.prog 76 #[.int .u64 0] W fun e w' => e = .returned (.int .i64 (Lib.bitLen 0 : Nat)) ∧ w' = W := fun W => by
    have h := Any.bits_Len (SlLaysF0.n15.bits (P := Tryz.prog) (ρ := layF_ren) { layF with }) 0 W (by omega) (by omega)
    exact h
  go_enter Tryz.func59, Tryz.ntmps59
  go_wp2_with (first | (go_at_call 76; refine (hl _).mono ?_; rintro e w' ⟨rfl, rfl⟩) | (go_at_call 75; refine (pdqNone _ _ _ _ _).mono ?_; rintro e w' ⟨rfl, rfl⟩))
  go_end0
  exact ⟨rfl, rfl⟩
def sortF (xs : List Fct) : List Fct := xs.mergeSort fun x y => !ltF y x
theorem sortF_perm (xs : List Fct) : (sortF xs).Perm xs := List.mergeSort_perm _ _
theorem enter_order (args : Array Value) (w : World) : (callFunc 38 args).run Tryz.prog w = .ok (.enter 38 args) w := enters_of Tryz.func38 (by kernel_rfl) rfl args w
def SortPost (w : World) (base : Nat) (v : Value) (ys : List Fct) (e : Ending) (w' : World) : Prop := e = .returned (.tuple #[]) ∧ OwnF w' base v ys ∧ w.grownBy w' v.ownBlock
theorem sortF_any (base : Nat) (v : Value) (xs : List Fct) (w : World) (h : OwnF w base v xs) :
    Calls Tryz.prog 59 #[v, .func (.func 38) #[] #[]] w (SortPost w base v (sortF xs)) := by
  rcases id h.1.2 with ⟨rfl, h0⟩ | ⟨g, cap, cur, rfl, hb, hh, _⟩
  · have h0 : xs = [] := List.eq_nil_of_length_eq_zero h0
    subst h0
    refine (sortNone none 0 _ w).mono ?_
    rintro e w' ⟨rfl, rfl⟩
    exact ⟨rfl, by simpa [sortF] using h, rfl, rfl, rfl, Nat.le_refl _, fun _ _ _ => rfl⟩
  · have hc : CmpLays Tryz.prog 38 #[] csF 3 ckO g 0 xs.toArray.size w := fun m os dk _ x y => by
      refine (ckOrder_any x y _).mono ?_
      rintro e w' ⟨rfl, q, os', rfl⟩
      exact ⟨rfl, q, os', rfl⟩
    have h9 := AnyQ.slices_SortFunc (α := Fct) layF 3 Tryz.isAgg36 Tryz.sizeOf36 csF csF_len (fun x u hu => csF_one [x] u (by simpa using hu)) ckO swoF 38 #[] g 0 cap xs.toArray w enter_order hc (ownF_holds h) (Array.getElem?_eq_some_iff.1 hh).1 (by have := h.2; simp; omega)
    simp only [List.size_toArray] at h9
    refine h9.mono ?_
    rintro e w' ⟨rfl, d', n, os, hp, hs, rfl⟩
    have hu := sorted_unique_holds swoF (fun x y h1 h2 => ltF_total (by rw [← ckO_neg]; exact h1) (by rw [← ckO_neg]; exact h2)) xs.toArray d' (by simpa using hp) (by simpa using hs)
    have he : d' = (sortF xs).toArray := by
      apply Array.toList_inj.1
      rw [hu]
      unfold sortF
      congr 2
      funext x y
      rw [show ltOf ckO y x = ltF y x from ckO_neg y x]
    subst he
    have ho := ownF_putRow h n (sortF xs) (sortF_perm xs).length_eq
    refine ⟨rfl, ?_, grown_grow' (grown_putRowK w g n _) os⟩
    exact ho.ext ⟨rfl, rfl, rfl, by simp [sortWorldK, grow], fun k hk => heap_grow_old _ os hk⟩
theorem sortedF_any (gf : Nat) (lb : Array Value) (L : List Fct) (w : World) (eg : ∀ args w, (callFunc gf args).run Tryz.prog w = .ok (.enter gf args) w) (hit : IterK Tryz.prog gf lb L (fun W => Below w.heap.size w W)) (hl : L.length ≤ 1000000000000) :
    Calls Tryz.prog 36 #[.func (.func gf) #[] lb, .func (.func 38) #[] #[]] w (fun e w' => ∃ v d, e = .returned v ∧ OwnF w' w.heap.size v (sortF d) ∧ d.Nodup ∧ (∀ y, y ∈ d ↔ y ∈ L) ∧ Below w.heap.size w w') := by
  have HIT := Lib.hid hit
  have EG := Lib.hid eg
  clear hit eg
  go_enter Tryz.func36, Tryz.ntmps36
  go_wp2_with (first
    | (go_at_call 58; refine (collectF_any gf lb L w EG.out HIT.out hl).mono ?_; rintro e w1 ⟨v, d, rfl, ho, hn, hm, hb⟩; have HO := Lib.hid ho; have HB := Lib.hid hb; have HN := Lib.hid hn; have HM := Lib.hid hm; clear ho hb hn hm)
    | (go_at_call 59; refine (sortF_any _ _ _ _ HO.out).mono ?_; rintro e w2 ⟨rfl, ho, hg⟩; have HO2 := Lib.hid ho; have HG := Lib.hid hg; clear ho hg))
  go_ret
  exact ⟨_, d, rfl, HO2.out, HN.out, HM.out, HB.out.grown HG.out HB.out.size (fun k e => (HO.out.low e).1)⟩
def ListPostF (w : World) (L : List Fct) (e : Ending) (w' : World) : Prop := ∃ v d, e = .returned v ∧ OwnF w' w.heap.size v (sortF d) ∧ d.Nodup ∧ (∀ y, y ∈ d ↔ y ∈ L) ∧ Below w.heap.size w w'
theorem list_any (b : Nat) (L : List Fct) (w : World) (hS : FSet w b L) (hl : L.length ≤ 1000000000000) :
    Calls Tryz.prog 16 #[.map (some b)] w (ListPostF w L) := by
  obtain ⟨o, ho, hW⟩ := hS.obj
  have hb : b < w.heap.size := (Array.getElem?_eq_some_iff.1 ho).1
  have h1 := sortedF_any 60 #[.pointer (some ⟨w.heap.size, 0, none⟩)] L (w.alloc (.cells #[.map (some b)] 59)) enter_keys
    (IterK.mono (keys_iter b w.heap.size L o hW) fun W hb' => ⟨block_ext hb' (heap_alloc_new _ _), block_ext hb' (block_ext (ext_alloc _ _) ho)⟩) hl
  have HS := Lib.hid h1
  clear h1 hS ho hW
  go_enter Tryz.func16, Tryz.ntmps16
  go_wp2_with (first
    | (go_at_call 37; refine (keysM_any b w).mono ?_; rintro e w1 ⟨rfl, rfl⟩)
    | (go_at_call 36; refine HS.out.mono ?_; rintro e w2 ⟨v, d, rfl, ho, hn, hm, hb2⟩; have HO2 := Lib.hid ho; have HN := Lib.hid hn; have HM := Lib.hid hm; have HB := Lib.hid hb2; clear ho hn hm hb2))
  go_ret
  have hsz : (w.alloc (Obj.cells #[.map (some b)] 59)).heap.size = w.heap.size + 1 := by simp
  refine ⟨_, d, rfl, HO2.out.mono (by rw [hsz]; omega), HN.out, HM.out, ?_⟩
  exact ((Below.refl _ w).alloc (Nat.le_refl _) _).trans (HB.out.mono (by rw [hsz]; omega))
end
end Go.Proofs.YtfpbfdkjcmlimaaGreat
