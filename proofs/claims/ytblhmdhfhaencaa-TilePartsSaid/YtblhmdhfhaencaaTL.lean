/-
 DERIVED: THE SHELF's CONTRACTS AT THIS DUMP, IN PLAIN WORDS (tools/lay-plain.mjs out of 'TryShelf.lean', which tools/lay-shelf.mjs wrote): THE SAME DECLARATIONS UNDER THE SAME NAMES: 'import', 'namespace', 'open', 'def', 'theorem' AND NOTHING ELSE: no command of the shelf's: FOR A HAND-IN. Each laying: the table of numbers ('.._ren') and one theorem, a field a fact of the dump's own or the kernel's comparison; each contract: ONE APPLICATION.
-/
import Derived.Shelf.Sort.Plain
import Derived.Shelf.Slices.Reverse
import Derived.Ground.Names2Prog
import Derived.Shelf.Slices.Clone
import Derived.Shelf.Slices.CompactI
import Derived.Shelf.Slices.In.SortNone
import Derived.Shelf.SlicesE.Reverse
import Derived.Test.YtblhmdhfhaencaaProg
import Derived.Test.YtblhmdhfhaencaaFlatBase
import Derived.Test.YtblhmdhfhaencaaTH
import Derived.Test.YtblhmdhfhaencaaRecs
import Derived.Deep.LoopGhost
namespace Go.Proofs.Ytblhmdhfhaencaa
set_option linter.unusedSimpArgs false
set_option linter.unusedVariables false
set_option linter.unusedSectionVars false
set_option maxRecDepth 100000
set_option maxHeartbeats 40000000
section
open Go.Shelf
def lays189_ren : Go.Shelf.Ren := ⟨fun | 189 => 48 | 125 => 80 | 257 => 79 | 128 => 108 | 129 => 109 | 294 => 99 | 295 => 100 | 296 => 101 | 297 => 102 | 298 => 103 | 299 => 104 | 216 => 105 | 300 => 106 | 301 => 107 | 328 => 117 | 329 => 118 | 330 => 119 | 331 => 120 | 332 => 121 | 215 => 86 | 343 => 123 | n => n, fun | 28 => 22 | 3 => 3 | 46 => 134 | 0 => 0 | 51 => 162 | 53 => 164 | 4 => 4 | 183 => 154 | 182 => 153 | 131 => 159 | 5 => 5 | 9 => 9 | 218 => 173 | 222 => 177 | 228 => 179 | 229 => 85 | n => n, fun | n => n⟩
theorem lays189 : Go.Proofs.Lays.n189 Try.prog lays189_ren := {
 mixed := by kernel_rfl
 f125 := Try.func80.trans (congrArg some (by kernel_rfl))
 f128 := Try.func108.trans (congrArg some (by kernel_rfl))
 f129 := Try.func109.trans (congrArg some (by kernel_rfl))
 f189 := Try.func48.trans (congrArg some (by kernel_rfl))
 f215 := Try.func86.trans (congrArg some (by kernel_rfl))
 f216 := Try.func105.trans (congrArg some (by kernel_rfl))
 f257 := Try.func79.trans (congrArg some (by kernel_rfl))
 f294 := Try.func99.trans (congrArg some (by kernel_rfl))
 f295 := Try.func100.trans (congrArg some (by kernel_rfl))
 f296 := Try.func101.trans (congrArg some (by kernel_rfl))
 f297 := Try.func102.trans (congrArg some (by kernel_rfl))
 f298 := Try.func103.trans (congrArg some (by kernel_rfl))
 f299 := Try.func104.trans (congrArg some (by kernel_rfl))
 f300 := Try.func106.trans (congrArg some (by kernel_rfl))
 f301 := Try.func107.trans (congrArg some (by kernel_rfl))
 f328 := Try.func117.trans (congrArg some (by kernel_rfl))
 f329 := Try.func118.trans (congrArg some (by kernel_rfl))
 f330 := Try.func119.trans (congrArg some (by kernel_rfl))
 f331 := Try.func120.trans (congrArg some (by kernel_rfl))
 f332 := Try.func121.trans (congrArg some (by kernel_rfl))
 f343 := Try.func123.trans (congrArg some (by kernel_rfl))
 t0 := Try.underlying0
 a0 := Try.isAgg0
 z0 := Try.sizeOf0
 v0 := Try.zeroValue0
 t3 := Try.underlying3
 a3 := Try.isAgg3
 z3 := Try.sizeOf3
 v3 := Try.zeroValue3
 t4 := Try.underlying4
 a4 := Try.isAgg4
 z4 := Try.sizeOf4
 v4 := Try.zeroValue4
 t5 := Try.underlying5
 a5 := Try.isAgg5
 z5 := Try.sizeOf5
 v5 := Try.zeroValue5
 t9 := Try.underlying9
 a9 := Try.isAgg9
 z9 := Try.sizeOf9
 v9 := Try.zeroValue9
 t28 := Try.underlying22
 a28 := Try.isAgg22
 z28 := Try.sizeOf22
 v28 := Try.zeroValue22
 t46 := Try.underlying134
 a46 := Try.isAgg134
 z46 := Try.sizeOf134
 v46 := Try.zeroValue134
 t51 := Try.underlying162
 a51 := Try.isAgg162
 z51 := Try.sizeOf162
 v51 := Try.zeroValue162
 t53 := Try.underlying164
 a53 := Try.isAgg164
 z53 := Try.sizeOf164
 v53 := Try.zeroValue164
 t131 := Try.underlying159
 a131 := Try.isAgg159
 z131 := Try.sizeOf159
 v131 := Try.zeroValue159
 t182 := Try.underlying153
 a182 := Try.isAgg153
 z182 := Try.sizeOf153
 v182 := Try.zeroValue153
 t183 := Try.underlying154
 a183 := Try.isAgg154
 z183 := Try.sizeOf154
 v183 := Try.zeroValue154
 t218 := Try.underlying173
 a218 := Try.isAgg173
 z218 := Try.sizeOf173
 v218 := Try.zeroValue173
 t222 := Try.underlying177
 a222 := Try.isAgg177
 z222 := Try.sizeOf177
 v222 := Try.zeroValue177
 t228 := Try.underlying179
 a228 := Try.isAgg179
 z228 := Try.sizeOf179
 v228 := Try.zeroValue179
 t229 := Try.underlying85
 a229 := Try.isAgg85
 z229 := Try.sizeOf85
 v229 := Try.zeroValue85 }
open Go.Sort Go.RowKit in
theorem slices_Sort_int (blk off cap : Nat) (zs : List Int) (w : World) (hH : Holds (Value.int .i64) w blk off zs.toArray) (hblk : blk < w.heap.size) (hsz : zs.length < 4611686018427387904) :
  Calls Try.prog 48 #[.slice (some ⟨blk, off, none⟩) zs.length cap] w fun e w' =>
   e = .returned (.tuple #[]) ∧ ∃ n os, w' = grow (putRow (Value.int .i64) (Sort.ahead w n) blk off (zs.mergeSort fun x y => decide (x ≤ y)).toArray) os := Any.slices_Sort_int lays189 blk off cap zs w hH hblk hsz
def lays112_ren : Go.Shelf.Ren := ⟨fun | 112 => 65 | n => n, fun | 28 => 22 | 3 => 3 | 4 => 4 | 0 => 0 | n => n, fun | n => n⟩
theorem lays112 : Go.Proofs.Lays.n112 Try.prog lays112_ren := {
 mixed := by kernel_rfl
 f112 := Try.func65.trans (congrArg some (by kernel_rfl))
 t0 := Try.underlying0
 a0 := Try.isAgg0
 z0 := Try.sizeOf0
 v0 := Try.zeroValue0
 t3 := Try.underlying3
 a3 := Try.isAgg3
 z3 := Try.sizeOf3
 v3 := Try.zeroValue3
 t4 := Try.underlying4
 a4 := Try.isAgg4
 z4 := Try.sizeOf4
 v4 := Try.zeroValue4
 t28 := Try.underlying22
 a28 := Try.isAgg22
 z28 := Try.sizeOf22
 v28 := Try.zeroValue22 }
open Go.RowKit Go.Lib Go.Sort in
/-- slices.Reverse at []int: "Reverse reverses the elements of the slice in place.": THE SLICE's CELLS HOLD 'zs.reverse' BEHIND THE CALL; all else is as it was, but for the count of draws (the exchange 's[i], s[j] = s[j], s[i]' draws its order, once a round). IN THE WORDS OF slices.Sort's CONTRACT: 'Holds': the cells hold zs and none is frozen; 'putRow': the world with those cells holding another array. A slice of length 0 that is not nil is among them ('zs = []'); nil: '.._nil'. (LAID: no walk: one application.) -/
theorem slices_Reverse_int (blk off cap : Nat) (zs : List Int) (w : World) (hH : Holds (Value.int .i64) w blk off zs.toArray) (hsz : zs.length ≤ 9223372036854775807) :
  Calls Try.prog 65 #[.slice (some ⟨blk, off, none⟩) zs.length cap] w fun e w' => e = .returned (.tuple #[]) ∧ ∃ n, w' = putRow (Value.int .i64) (Sort.ahead w n) blk off zs.reverse.toArray := Any.slices_Reverse_int lays112 blk off cap zs w hH hsz
open Go.RowKit Go.Lib Go.Sort in
/-- The same at a slice of length 0, a nil one too: nothing is read, nothing written, nothing drawn. (LAID: no walk: one application.) -/
theorem slices_Reverse_int_empty (a : Option Addr) (cap : Nat) (w : World) :
  Calls Try.prog 65 #[.slice a 0 cap] w fun e w' => e = .returned (.tuple #[]) ∧ w' = w := Any.slices_Reverse_int_empty lays112 a cap w
def laysNm220_ren : Go.Shelf.Ren := ⟨fun | 20 => 49 | n => n, fun | 22 => 22 | 3 => 3 | 4 => 4 | 0 => 0 | n => n, fun | n => n⟩
theorem laysNm220 : Go.Proofs.Lays2.n20 Try.prog laysNm220_ren := {
 mixed := by kernel_rfl
 f20 := Try.func49.trans (congrArg some (by kernel_rfl))
 t0 := Try.underlying0
 a0 := Try.isAgg0
 z0 := Try.sizeOf0
 v0 := Try.zeroValue0
 t3 := Try.underlying3
 a3 := Try.isAgg3
 z3 := Try.sizeOf3
 v3 := Try.zeroValue3
 t4 := Try.underlying4
 a4 := Try.isAgg4
 z4 := Try.sizeOf4
 v4 := Try.zeroValue4
 t22 := Try.underlying22
 a22 := Try.isAgg22
 z22 := Try.sizeOf22
 v22 := Try.zeroValue22
 i3 := by kernel_rfl }
open Go.RowKit Go.Lib Go.Sort in
/-- slices.Compact at []int: "Compact replaces consecutive runs of equal elements with a single copy. This is like the uniq command found on Unix. Compact modifies the contents of the slice s and returns the modified slice, which may have a smaller length. Compact zeroes the elements between the new length and the original length. The result preserves the nilness of s.": IT RETURNS THE SLICE CUT TO 'Lib.compact zs'; ITS CELLS HOLD 'Lib.compact zs', THEN ZERO VALUES up to the old length; all else is as it was, but for the count of draws. IN THE WORDS OF slices.Sort's CONTRACT ('Holds', 'putRow'): so the everyday 'slices.Sort(xs); xs = slices.Compact(xs)' goes from the one contract to the other. It asks 'zs.length ≤ cap' (every slice's: the reslicing 's[:k]' looks at it). Length 0, nil: '.._empty'. (LAID: no walk: one application.) -/
theorem slices_Compact_int (blk off cap : Nat) (zs : List Int) (w : World) (hH : Holds (Value.int .i64) w blk off zs.toArray) (hsz : zs.length ≤ 9223372036854775807) (hcap : zs.length ≤ cap) :
  Calls Try.prog 49 #[.slice (some ⟨blk, off, none⟩) zs.length cap] w fun e w' => e = .returned (.slice (some ⟨blk, off, none⟩) (Lib.compact zs).length cap) ∧ ∃ q, w' = putRow (Value.int .i64) (Sort.ahead w q) blk off (Lib.compact zs ++ List.replicate (zs.length - (Lib.compact zs).length) 0).toArray := Any.slices_Compact_int laysNm220 blk off cap zs w hH hsz hcap
open Go.RowKit Go.Lib Go.Sort in
/-- The same at a slice of length 0, a nil one too: it comes back as it is. (LAID: no walk: one application.) -/
theorem slices_Compact_int_empty (a : Option Addr) (cap : Nat) (w : World) :
  Calls Try.prog 49 #[.slice a 0 cap] w fun e w' => e = .returned (.slice a 0 cap) ∧ w' = w := Any.slices_Compact_int_empty laysNm220 a cap w
open Go.RowKit Go.Sort in
/-- .. and plain. (LAID: no walk: one application.) -/
theorem slices_Sort_int_none (p : Option Addr) (cap : Nat) (w : World) :
  Calls Try.prog 48 #[.slice p 0 cap] w fun e w' => e = .returned (.tuple #[]) ∧ w' = w := Any.slices_Sort_int_none lays189 p cap w
end

section
open Go.RowKit Go.Sort

theorem heap_mapBlock (w : World) (g k : Nat) (f : Array Value → Array Value) : (mapBlock w g f).heap[k]? = if g = k then (w.heap[k]?).map (onCells f) else w.heap[k]? := by
 show (w.heap.modify g (onCells f))[k]? = _
 rw [Array.getElem?_modify]
theorem grown_putRow (w : World) (g q : Nat) (ys : List Int) : w.grownBy (putRow (Value.int .i64) (Sort.ahead w q) g 0 ys.toArray) (some g) := by
 refine ⟨rfl, rfl, rfl, by simp [Sort.ahead], fun k _ hne => ?_⟩
 unfold putRow
 rw [heap_mapBlock, if_neg (fun e => hne (by rw [e]))]
 rfl
theorem grown_grow {w w' : World} {row : Option Nat} (h : w.grownBy w' row) (os : Array Obj) : w.grownBy (grow w' os) row := by
 refine ⟨h.os, h.tape, h.output, ?_, fun k hk hne => ?_⟩
 · have := h.size
   simp [grow]
   omega
 · rw [heap_grow_old w' os (Nat.lt_of_lt_of_le hk h.size)]
   exact h.block k hk hne
theorem own_holds {w : World} {base g n c : Nat} {xs : List Int} (h : OwnI w base (.slice (some ⟨g, 0, none⟩) n c) xs) : Holds (Value.int .i64) w g 0 xs.toArray := by
 intro j hj
 have hj' : j < xs.length := by simpa using hj
 have hn := h.cap.2.2
 obtain ⟨b, o, e, hc, _⟩ := h.ints.2.2 j (by omega)
 injection e with e
 injection e with e1 e2
 subst e1 e2
 refine ⟨?_, ?_⟩
 · rw [hc]
   simp [List.getD_eq_getElem?_getD, hj']
 · rcases h.1.2 with ⟨hv, _⟩ | ⟨g', cap, cur, hv, _, hh, _⟩
   · cases hv
   · injection hv with e1 _ _
     injection e1 with e1
     injection e1 with e1 _ _
     subst e1
     exact frozen_of_row _ _ _ _ _ hh
theorem own_putRow {w : World} {base g n c : Nat} {xs : List Int} (h : OwnI w base (.slice (some ⟨g, 0, none⟩) n c) xs) (q : Nat) (ys : List Int) (hl : ys.length = xs.length) (hy : ∀ y ∈ ys, I64 y) :
  OwnI (putRow (Value.int .i64) (Sort.ahead w q) g 0 ys.toArray) base (.slice (some ⟨g, 0, none⟩) n c) ys := by
 have hn := h.cap.2.2
 refine ⟨⟨by simp [intVals], ?_⟩, hy, by have := h.2.2; omega⟩
 rcases h.1.2 with ⟨hv, _⟩ | ⟨g', cap, cur, hv, hb, hh, h1, h2, h3, h4⟩
 · cases hv
 · injection hv with e1 e2 e3
   injection e1 with e1
   injection e1 with e1 _ _
   subst e1 e3
   refine .inr ⟨g, c, putCells (Value.int .i64) 0 ys.toArray cur, by rw [hn, hl], hb, ?_, by omega, h2, by simp [putCells, h3], ?_⟩
   · unfold putRow
     rw [heap_mapBlock, if_pos rfl]
     show (w.heap[g]?).map _ = _
     rw [hh]
     rfl
   · apply List.ext_getElem?
     intro k
     rw [List.getElem?_take]
     by_cases hk : k < ys.length
     · have hkc : k < cur.size := by omega
       rw [if_pos (by omega)]
       simp [putCells, intVals, hk, hkc]
     · rw [if_neg (by omega), List.getElem?_eq_none (by simp [intVals]; omega)]
theorem own_ahead {w : World} {base : Nat} {v : Value} {xs : List Int} (h : OwnI w base v xs) (os : Array Obj) : OwnI (grow w os) base v xs :=
 h.ext ⟨rfl, rfl, rfl, by simp [grow], fun k hk => heap_grow_old w os hk⟩
def TurnPost (w : World) (base : Nat) (v : Value) (ys : List Int) (e : Ending) (w' : World) : Prop := e = .returned (.tuple #[]) ∧ OwnI w' base v ys ∧ w.grownBy w' v.ownBlock
theorem grown_refl (w : World) (row : Option Nat) : w.grownBy w row := ⟨rfl, rfl, rfl, Nat.le_refl _, fun _ _ _ => rfl⟩
theorem sortI_any (base : Nat) (v : Value) (xs : List Int) (w : World) (h : OwnI w base v xs) :
  Calls Try.prog 48 #[v] w (TurnPost w base v (xs.mergeSort fun x y => decide (x ≤ y))) := by
 rcases id h.1.2 with ⟨rfl, h0⟩ | ⟨g, cap, cur, rfl, hb, hh, _⟩
 · have h0 : xs = [] := List.eq_nil_of_length_eq_zero h0
   subst h0
   refine (slices_Sort_int_none none 0 w).mono ?_
   rintro e w' ⟨rfl, rfl⟩
   exact ⟨rfl, by simpa using h, grown_refl _ _⟩
 · refine (slices_Sort_int g 0 cap xs w (own_holds h) (Array.getElem?_eq_some_iff.1 hh).1 (by have := h.2.2; omega)).mono ?_
   rintro e w' ⟨rfl, n, os, rfl⟩
   have hp := List.mergeSort_perm xs fun x y => decide (x ≤ y)
   refine ⟨rfl, own_ahead (own_putRow h n _ (List.length_mergeSort _) (fun y hy => h.2.1 y (hp.mem_iff.1 hy))) os, ?_⟩
   exact grown_grow (grown_putRow w g n _) os
theorem reverseI_any (base : Nat) (v : Value) (xs : List Int) (w : World) (h : OwnI w base v xs) :
  Calls Try.prog 65 #[v] w (TurnPost w base v xs.reverse) := by
 rcases id h.1.2 with ⟨rfl, h0⟩ | ⟨g, cap, cur, rfl, hb, hh, _⟩
 · have h0 : xs = [] := List.eq_nil_of_length_eq_zero h0
   subst h0
   refine (slices_Reverse_int_empty none 0 w).mono ?_
   rintro e w' ⟨rfl, rfl⟩
   exact ⟨rfl, by simpa using h, grown_refl _ _⟩
 · refine (slices_Reverse_int g 0 cap xs w (own_holds h) (by have := h.2.2; omega)).mono ?_
   rintro e w' ⟨rfl, n, rfl⟩
   exact ⟨rfl, own_putRow h n _ (by simp) (fun y hy => h.2.1 y (by simpa using hy)), grown_putRow w g n _⟩
def CompactPost (w : World) (base : Nat) (v : Value) (ys : List Int) (e : Ending) (w' : World) : Prop := ∃ v', e = .returned v' ∧ OwnI w' base v' ys ∧ w.grownBy w' v.ownBlock
theorem compact_len (xs : List Int) : (Lib.compact xs).length ≤ xs.length := by
 unfold Lib.compact Lib.compactUpTo
 rw [List.length_map]
 have := List.length_filter_le (Lib.keeps xs.toArray) (List.range xs.length)
 simpa using this
theorem compact_mem (xs : List Int) : ∀ y ∈ Lib.compact xs, y ∈ xs := by
 intro y hy
 unfold Lib.compact Lib.compactUpTo at hy
 rw [List.mem_map] at hy
 obtain ⟨k, hk, rfl⟩ := hy
 have := List.mem_range.1 (List.mem_filter.1 hk).1
 simp [this]
theorem ownI_trunc {w : World} {base g c n : Nat} {xs ys : List Int} (h : OwnI w base (.slice (some ⟨g, 0, none⟩) n c) (xs ++ ys)) : OwnI w base (.slice (some ⟨g, 0, none⟩) xs.length c) xs := by
 refine ⟨⟨by simp [intVals], ?_⟩, fun z hz => h.2.1 z (by simp [hz]), by have := h.2.2; simp at this; omega⟩
 rcases h.1.2 with ⟨hv, _⟩ | ⟨g', cap, cur, hv, hb, hh, h1, h2, h3, h4⟩
 · cases hv
 · injection hv with e1 e2 e3
   injection e1 with e1
   injection e1 with e1 _ _
   subst e1 e3
   refine .inr ⟨g, c, cur, rfl, hb, hh, by simp at h1; omega, h2, h3, ?_⟩
   have h5 : (cur.toList.take ((xs ++ ys).length * 1)).take xs.length = (intVals (xs ++ ys)).take xs.length := by rw [h4]
   rw [List.take_take] at h5
   simpa [intVals] using h5
theorem compactI_any (base : Nat) (v : Value) (xs : List Int) (w : World) (h : OwnI w base v xs) :
  Calls Try.prog 49 #[v] w (CompactPost w base v (Lib.compact xs)) := by
 rcases id h.1.2 with ⟨rfl, h0⟩ | ⟨g, cap, cur, rfl, hb, hh, h1, _⟩
 · have h0 : xs = [] := List.eq_nil_of_length_eq_zero h0
   subst h0
   refine (slices_Compact_int_empty none 0 w).mono ?_
   rintro e w' ⟨rfl, rfl⟩
   exact ⟨_, rfl, h, grown_refl _ _⟩
 · refine (slices_Compact_int g 0 cap xs w (own_holds h) (by have := h.2.2; omega) h1).mono ?_
   rintro e w' ⟨rfl, n, rfl⟩
   have hc := compact_len xs
   have h9 := own_putRow h n (Lib.compact xs ++ List.replicate (xs.length - (Lib.compact xs).length) 0) (by simp; omega) (fun y hy => by
    rcases List.mem_append.1 hy with hy | hy
    · exact h.2.1 y (compact_mem xs y hy)
    · have := (List.mem_replicate.1 hy).2
      subst this
      unfold I64; omega)
   exact ⟨_, rfl, ownI_trunc h9, grown_putRow w g n _⟩
end

section
open Go.RowKit

/-- a tile as it lies -/
structure TileR where
 d : TileD
 ba : Option Addr
 bn : Nat
 bc : Nat
def tileC (t : TileR) : List Value := [.int .i64 t.d.kind, .int .i64 t.d.parent, .slice t.ba t.bn t.bc]
theorem tileC_len (t : TileR) : (tileC t).length = 3 := rfl
def TilesOK (w : World) (a : Option Addr) (n : Nat) (ls : List TileR) : Prop := Recs 3 tileC w a n ls ∧ ∀ t ∈ ls, Ints w t.ba t.bn t.d.blocks ∧ t.bn ≤ t.bc ∧ I64 t.d.kind ∧ I64 t.d.parent
theorem TilesOK.ext {w w' : World} {a : Option Addr} {n : Nat} {ls : List TileR} (h : TilesOK w a n ls) (hb : Below w.heap.size w w') : TilesOK w' a n ls := ⟨h.1.ext tileC_len hb, fun t ht => ⟨(h.2 t ht).1.ext hb, (h.2 t ht).2⟩⟩
def tdOf (ls : List TileR) : List TileD := ls.map (·.d)
theorem tdOf_len (ls : List TileR) : (tdOf ls).length = ls.length := by simp [tdOf]
theorem tdOf_at (ls : List TileR) (k : Nat) (t : TileR) (h : ls[k]? = some t) : (tdOf ls).getD k zTile = t.d := by simp [tdOf, List.getD_eq_getElem?_getD, h]
abbrev tileO (t : TileR) : Obj := .cells #[.int .i64 t.d.kind, .int .i64 t.d.parent, .slice t.ba t.bn t.bc] 53
theorem TilesOK.cells {w : World} {a : Option Addr} {n : Nat} {ls : List TileR} (h : TilesOK w a n ls) {k : Nat} (hk : k < n) : ∃ t b o, ls[k]? = some t ∧ (Ints w t.ba t.bn t.d.blocks ∧ t.bn ≤ t.bc ∧ I64 t.d.kind ∧ I64 t.d.parent) ∧ a = some ⟨b, o, none⟩ ∧
  w.cell? ⟨b, o + k * 3, none⟩ = some (.int .i64 t.d.kind) ∧ w.cell? ⟨b, o + k * 3 + 1, none⟩ = some (.int .i64 t.d.parent) ∧ w.cell? ⟨b, o + k * 3 + 2, none⟩ = some (.slice t.ba t.bn t.bc) := by
 have hk' : k < ls.length := by rw [h.1.1]; exact hk
 obtain ⟨b, o, e, hc⟩ := h.1.2.2 k ls[k] (List.getElem?_eq_getElem hk')
 exact ⟨ls[k], b, o, List.getElem?_eq_getElem hk', h.2 _ (List.getElem_mem hk'), e, hc 0 (by omega), hc 1 (by omega), hc 2 (by omega)⟩
theorem parents_any (a : Option Addr) (n c : Nat) (ls : List TileR) (w : World) (h : TilesOK w a n ls) :
  Calls Try.prog 35 #[.slice a n c] w fun e w' => e = .returned (.bool (parentsB (tdOf ls))) ∧ Below w.heap.size w w' := by
 have hn := h.1.2.1
 have HL := Lib.hid h.1.1
 have H := Lib.hid h
 clear h
 go_enter Try.func35, Try.ntmps35
 go_wp2
 go_loopw [7] (fun i wr => ∃ (k : Nat), k ≤ n ∧ i = .int .i64 k ∧ Hid (∀ j, j < k → -1 ≤ parL (tdOf ls) j ∧ parL (tdOf ls) j < j) ∧ Hid (Below w.heap.size w wr)) (fun i _ => n - (intOf i).toNat)
 case atStart => exact ⟨0, by omega, rfl, fun j hj => absurd hj (by omega), Below.refl _ _⟩
 case round =>
  obtain ⟨k, hk, rfl, HR, HB⟩ := hrel
  by_cases hlt : k < n
  · obtain ⟨t, b, o, hlk, hok, rfl, c0, c1, c2⟩ := (H.out.ext HB.out).cells hlt
    obtain ⟨_, _, _, hp1, hp2⟩ := hok
    have htd := tdOf_at ls k t hlk
    have HTD : Hid (parL (tdOf ls) k = t.d.parent) := by rw [Hid, parL, htd]
    clear hlk htd
    have hlt' : (k : Int) < (n : Int) := by omega
    by_cases hg1 : t.d.parent < -1
    · have HE : Hid (parentsB (tdOf ls) = false) := by
       rw [Hid, Bool.eq_false_iff]
       intro h
       have := (parentsB_iff _).1 h k (by rw [tdOf_len, HL.out]; exact hlt)
       rw [HTD.out] at this
       omega
      go_wp2
      go_ret
      exact ⟨by rw [HE.out]; rfl, HB.out.alloc HB.out.size _⟩
    · by_cases hg2 : t.d.parent < k
      · have HR2 : Hid (∀ j, j < k + 1 → -1 ≤ parL (tdOf ls) j ∧ parL (tdOf ls) j < j) := fun j hj => by
         by_cases e : j = k
         · subst e; rw [HTD.out]; omega
         · exact HR.out j (by omega)
        go_wp2
        go_roundw
        case rel => exact ⟨k + 1, by omega, by go_num, HR2, HB.out.alloc HB.out.size _⟩
        case measure => simp [intOf]; omega
      · have HE : Hid (parentsB (tdOf ls) = false) := by
         rw [Hid, Bool.eq_false_iff]
         intro h
         have := (parentsB_iff _).1 h k (by rw [tdOf_len, HL.out]; exact hlt)
         rw [HTD.out] at this
         omega
        go_wp2
        go_ret
        exact ⟨by rw [HE.out]; rfl, HB.out.alloc HB.out.size _⟩
  · obtain rfl : k = n := by omega
    have HE : Hid (parentsB (tdOf ls) = true) := (parentsB_iff _).2 fun j hj => HR.out j (by rw [tdOf_len, HL.out] at hj; exact hj)
    go_wp2
    go_ret
    exact ⟨by rw [HE.out]; rfl, HB.out⟩
end

section
open Go.RowKit

def mfind : List MapEntry → Int → Option Value
 | [], _ => none
 | e :: l, k => match e.key with
   | .int .i64 j => if k = j then some e.val else mfind l k
   | _ => mfind l k

def intKeys (l : List MapEntry) : Prop := ∀ e ∈ l, ∃ k : Int, e.key = .int .i64 k

/-- block b is a map with keys that are ints: at key k it has f k -/
def IMap (w : World) (b : Nat) (f : Int → Option Value) : Prop :=
 ∃ es clock, w.heap[b]? = some (.map es clock) ∧ intKeys es.toList ∧ ∀ k, mfind es.toList k = f k

def upd (f : Int → Option Value) (k : Int) (v : Value) : Int → Option Value := fun j => if j = k then some v else f j

theorem findNow_int (q : IntKind) (k : Int) : ∀ (l : List MapEntry) (i : Nat), intKeys l →
  (Instr.findNow (.int q) (.int .i64 k) l i = some none ∧ mfind l k = none) ∨
  ∃ j e, l[j]? = some e ∧ Instr.findNow (.int q) (.int .i64 k) l i = some (some (i + j, e.val)) ∧ e.key = .int .i64 k ∧ mfind l k = some e.val ∧
    ∀ v, intKeys (l.modify j fun e => { e with key := .int .i64 k, val := v }) ∧ ∀ k', mfind (l.modify j fun e => { e with key := .int .i64 k, val := v }) k' = upd (mfind l) k v k' := by
 intro l
 induction l with
 | nil => intro i _; exact Or.inl ⟨rfl, rfl⟩
 | cons e l ih =>
   intro i hk
   obtain ⟨j, hj⟩ := hk e (by simp)
   have hk' : intKeys l := fun x hx => hk x (by simp [hx])
   by_cases h : k = j
   · subst h
     refine Or.inr ⟨0, e, rfl, ?_, hj, ?_, fun v => ⟨?_, fun k' => ?_⟩⟩
     · simp [Instr.findNow, Instr.sameNow, hj]
     · simp [mfind, hj]
     · intro x hx
       simp at hx
       rcases hx with rfl | hx
       · exact ⟨k, rfl⟩
       · exact hk' x hx
     · simp only [List.modify_zero_cons, mfind, upd, hj]
       split <;> rfl
   · have hb : (k == j) = false := by simpa using h
     rcases ih (i + 1) hk' with ⟨h1, h2⟩ | ⟨m, e', h0, h1, h2, h3, h4⟩
     · exact Or.inl ⟨by simp [Instr.findNow, Instr.sameNow, hj, hb, h1], by simp [mfind, hj, h, h2]⟩
     · refine Or.inr ⟨m + 1, e', by simpa using h0, ?_, h2, ?_, fun v => ⟨?_, fun k' => ?_⟩⟩
       · simp [Instr.findNow, Instr.sameNow, hj, hb, h1]; omega
       · simp [mfind, hj, h, h3]
       · intro x hx
         simp at hx
         rcases hx with rfl | hx
         · exact ⟨j, hj⟩
         · exact (h4 v).1 x hx
       · have := (h4 v).2 k'
         simp only [List.modify_succ_cons, mfind, upd, hj] at this ⊢
         rw [this]
         by_cases e1 : k' = j
         · subst e1; simp [Ne.symm h]
         · simp [e1]

theorem mfind_push (l : List MapEntry) (k : Int) (v : Value) (b : Nat) (k' : Int) (hn : mfind l k = none) (hk : intKeys l) :
  mfind (l ++ [{ key := .int .i64 k, val := v, born := b }]) k' = upd (mfind l) k v k' := by
 induction l with
 | nil => simp [mfind, upd]
 | cons e l ih =>
   obtain ⟨j, hj⟩ := hk e (by simp)
   simp only [mfind, hj] at hn
   split at hn
   · cases hn
   · rename_i hkj
     have := ih hn (fun x hx => hk x (by simp [hx]))
     simp only [List.cons_append, mfind, hj, upd] at this ⊢
     rw [this]
     by_cases e1 : k' = j
     · subst e1; simp [Ne.symm hkj]
     · simp [e1]

section
variable {P : Program} {t kt et : TypeId} {w : World} {b : Nat} {f : Int → Option Value}
theorem IMap.lt (h : IMap w b f) : b < w.heap.size := by obtain ⟨es, c, hb, _⟩ := h; exact (Array.getElem?_eq_some_iff.1 hb).1
theorem IMap.made (w : World) : IMap (w.alloc (.map #[] 0)) w.heap.size (fun _ => none) :=
 ⟨#[], 0, World.alloc_heap_new w _, by intro e he; simp at he, fun k => rfl⟩
theorem IMap.of_block {w' : World} (h : IMap w b f) (hb : w'.heap[b]? = w.heap[b]?) : IMap w' b f := by
 obtain ⟨es, c, h1, h2⟩ := h; exact ⟨es, c, hb.trans h1, h2⟩
theorem IMap.ext {w' : World} (h : IMap w b f) (hb : Below w.heap.size w w') : IMap w' b f := h.of_block (hb.block b h.lt)
theorem IMap.grown {w' : World} {row : Option Nat} (h : IMap w b f) (hg : w.grownBy w' row) (hne : some b ≠ row) : IMap w' b f := h.of_block (hg.block b h.lt hne)
theorem IMap.alloc (h : IMap w b f) (o : Obj) : IMap (w.alloc o) b f := h.of_block (Below.heap_alloc w o b h.lt)
theorem IMap.setCell (h : IMap w b f) (p : Addr) (v : Value) : IMap (w.setCell p v) b f := by
 obtain ⟨es, c, h1, h2⟩ := h
 refine ⟨es, c, ?_, h2⟩
 by_cases e : b = p.block
 · subst e
   obtain ⟨hlt, hk'⟩ := Array.getElem?_eq_some_iff.1 h1
   show (w.heap.modify p.block _)[p.block]? = _
   rw [Array.getElem?_eq_getElem (by rw [Array.size_modify]; exact hlt), Array.getElem_modify_self, hk']
 · exact (Below.heap_setCell w p v b e).trans h1
theorem IMap.drewN (h : IMap w b f) (n : Nat) : IMap (w.drewN n) b f := h
theorem Steady.imap (B b : Nat) (f : Int → Option Value) : Steady B (fun W => IMap W b f) := fun W W' row h hg hr => by
 obtain ⟨es, c, h1, h2⟩ := h
 exact ⟨es, c, block_keep h1 rfl hg hr, h2⟩

theorem run_checkKey_int (hk : P.underlying kt = some (.int .i64)) (em : Bool) (k : Int) (w : World) : (Instr.checkKey em 10000 kt (.int .i64 k)).run P w = .ok () w := by
 have : ∀ n, (Instr.checkKey em (n + 1) kt (.int .i64 k)).run P w = .ok () w := fun n => by simp [Instr.checkKey, run_underlying hk]
 exact this 9999
theorem sameBits_int (k : Int) : Instr.sameBits 10000 (.int .i64 k) (.int .i64 k) = true := by
 have : ∀ n, Instr.sameBits n (.int .i64 k) (.int .i64 k) = true := fun n => by cases n <;> simp [Instr.sameBits]
 exact this 10000

theorem run_findKey_int (hk : P.underlying kt = some (.int .i64)) (k : Int) (l : List MapEntry) (r : Option (Nat × Value)) (w : World) (h : Instr.findNow (.int .i64) (.int .i64 k) l 0 = some r) :
  (Instr.findKey kt (.int .i64 k) l).run P w = .ok r w := by
 simp [Instr.findKey, run_underlying hk, h]

theorem IMap.look (h : IMap w b f) (ht : P.underlying t = some (.map kt et)) (hk : P.underlying kt = some (.int .i64)) {z : Value} (hz : (zeroValue et).run P w = .ok z w) (k : Int) :
  (Instr.lookup t (.map (some b)) (.int .i64 k) false).run P w = .ok ((f k).getD z) w := by
 obtain ⟨es, c, hb, hi, hf⟩ := h
 have hgo : (getObj b).run P w = .ok (.map es c) w := by simp [getObj, Sem.run, hb]
 rcases findNow_int .i64 k es.toList 0 hi with ⟨h1, h2⟩ | ⟨j, e, _, h1, _, h2, _⟩
 · rw [hf] at h2
   simp [Instr.lookup, run_underlying ht, Sem.run_bind, hgo, run_checkKey_int hk, run_findKey_int hk k _ _ w h1, hz, h2, Result.andThen]
 · rw [hf] at h2
   simp [Instr.lookup, run_underlying ht, Sem.run_bind, hgo, run_checkKey_int hk, run_findKey_int hk k _ _ w h1, h2, Result.andThen]

theorem IMap.look_ok (h : IMap w b f) (ht : P.underlying t = some (.map kt et)) (hk : P.underlying kt = some (.int .i64)) {z : Value} (hz : (zeroValue et).run P w = .ok z w) (k : Int) :
  (Instr.lookup t (.map (some b)) (.int .i64 k) true).run P w = .ok (.tuple #[(f k).getD z, .bool (f k).isSome]) w := by
 obtain ⟨es, c, hb, hi, hf⟩ := h
 have hgo : (getObj b).run P w = .ok (.map es c) w := by simp [getObj, Sem.run, hb]
 rcases findNow_int .i64 k es.toList 0 hi with ⟨h1, h2⟩ | ⟨j, e, _, h1, _, h2, _⟩
 · rw [hf] at h2
   simp [Instr.lookup, run_underlying ht, Sem.run_bind, hgo, run_checkKey_int hk, run_findKey_int hk k _ _ w h1, hz, h2, Result.andThen]
 · rw [hf] at h2
   simp [Instr.lookup, run_underlying ht, Sem.run_bind, hgo, run_checkKey_int hk, run_findKey_int hk k _ _ w h1, h2, Result.andThen]

theorem IMap.put (h : IMap w b f) (ht : P.underlying t = some (.map kt et)) (hk : P.underlying kt = some (.int .i64)) (k : Int) (v : Value) :
  ∃ o, (Instr.mapUpdate t (.map (some b)) (.int .i64 k) v).run P w = .ok () (w.putObj b o) ∧ IMap (w.putObj b o) b (upd f k v) := by
 have hlt := h.lt
 obtain ⟨es, c, hb, hi, hf⟩ := h
 have hgo : (getObj b).run P w = .ok (.map es c) w := by simp [getObj, Sem.run, hb]
 have hso : ∀ o, (setObj b o).run P w = .ok () (w.putObj b o) := fun o => by simp [setObj, Sem.run, hb, World.putObj]
 rcases findNow_int .i64 k es.toList 0 hi with ⟨h1, h2⟩ | ⟨j, e, hj, h1, hek, h2, h3⟩
 · refine ⟨.map (es.push { key := .int .i64 k, val := v, born := c }) (c + 1), ?_, ?_⟩
   · simp [Instr.mapUpdate, run_underlying ht, Sem.run_bind, hgo, run_checkKey_int hk, run_findKey_int hk k _ _ w h1, hso, Result.andThen]
   · refine ⟨_, _, World.putObj_heap_same hlt, ?_, fun k' => ?_⟩
     · intro x hx
       simp at hx
       rcases hx with hx | rfl
       · exact hi x (by simpa using hx)
       · exact ⟨k, rfl⟩
     · rw [Array.toList_push, mfind_push _ _ _ _ _ h2 hi]
       simp only [upd, hf]
 · have hes : es[0 + j]? = some e := by simpa using hj
   refine ⟨.map (es.modify (0 + j) fun e => { e with key := .int .i64 k, val := v }) c, ?_, ?_⟩
   · simp [Instr.mapUpdate, run_underlying ht, Sem.run_bind, hgo, run_checkKey_int hk, run_findKey_int hk k _ _ w h1, hso, Result.andThen, Instr.keyThatStays]
     simp at hes
     simp [hes, hek, sameBits_int, hso]
   · refine ⟨_, _, World.putObj_heap_same hlt, ?_, fun k' => ?_⟩
     · have := (h3 v).1
       simpa [Array.toList_modify] using this
     · have := (h3 v).2 k'
       rw [Array.toList_modify, Nat.zero_add, this]
       simp only [upd, hf]
end
end

section
open Go.RowKit

/-! ### plain -/
def totL (l : List TileD) : Nat := (l.map fun t => t.blocks.length).sum
theorem sum_take (l : List TileD) : ∀ m, ((l.take m).map fun t => t.blocks.length).sum ≤ totL l := by
 induction l with
 | nil => intro m; simp [totL]
 | cons t l ih =>
   intro m
   cases m with
   | zero => simp [totL]
   | succ m => have := ih m; simp only [totL, List.take_succ_cons, List.map_cons, List.sum_cons] at this ⊢; omega
theorem blkL_le (l : List TileD) (k : Nat) : (blkL l k).length ≤ totL l := by
 induction l generalizing k with
 | nil => simp [totL, blkL]
 | cons t l ih =>
   cases k with
   | zero => simp [totL, blkL]
   | succ k => have := ih k; simp only [totL, List.map_cons, List.sum_cons, blkL, List.getD_cons_succ] at this ⊢; omega
theorem rawL_len (l : List TileD) (k m : Nat) (hm : m ≤ l.length) : (rawL l k m).length ≤ 2 * totL l := by
 have h1 : ∀ m, m ≤ l.length → (((List.range m).filter fun n => n != k && descB l k n).flatMap (blkL l)).length ≤ ((l.take m).map fun t => t.blocks.length).sum := by
  intro m
  induction m with
  | zero => intro _; simp
  | succ m ih =>
    intro hm
    have := ih (by omega)
    rw [List.range_succ, List.filter_append, List.flatMap_append, List.length_append, List.take_add_one, List.getElem?_eq_getElem (by omega), List.map_append, List.sum_append]
    have e : (blkL l m).length = (l[m]'(by omega)).blocks.length := by simp [blkL, List.getD_eq_getElem?_getD, show m < l.length by omega]
    by_cases hc : (m != k && descB l k m) = true
    · simp only [List.filter_cons, hc, if_true, List.filter_nil, List.flatMap_cons, List.flatMap_nil, List.append_nil, Option.toList_some, List.map_cons, List.map_nil, List.sum_cons, List.sum_nil]
      omega
    · have hc' : (m != k && descB l k m) = false := by simpa using hc
      simp only [List.filter_cons, hc', List.filter_nil, Option.toList_some, List.map_cons, List.map_nil, List.sum_cons, List.sum_nil]
      simp only [Bool.false_eq_true, if_false, List.flatMap_nil, List.length_nil]
      omega
 have h2 := h1 m hm
 have h3 := sum_take l m
 have h4 := blkL_le l k
 rw [rawL, List.length_append]
 omega
theorem rawL_zero (l : List TileD) (k : Nat) : rawL l k 0 = blkL l k := by simp [rawL]
/-- is a tile's parent one of those? -/
def upB (l : List TileD) (k m : Nat) : Bool := decide (0 ≤ parL l m) && descB l k (parL l m).toNat
theorem upB_self {l : List TileD} (hp : parentsB l = true) (k : Nat) (hk : k < l.length) : upB l k k = false := by
 rw [Bool.eq_false_iff]
 intro h
 simp only [upB, Bool.and_eq_true, decide_eq_true_eq] at h
 have h1 := (parentsB_iff l).1 hp k hk
 have := descB_ge hp k _ (by omega) h.2
 omega
theorem rawL_step {l : List TileD} (hp : parentsB l = true) (k m : Nat) (hk : k < l.length) (hm : m < l.length) : rawL l k (m + 1) = if upB l k m then rawL l k m ++ blkL l m else rawL l k m := by
 have e : (m != k && descB l k m) = upB l k m := by
  by_cases h : m = k
  · subst h; rw [upB_self hp m hm]; simp
  · have h1 : (m != k) = true := by simpa using h
    have h2 : (m == k) = false := by simpa using h
    rw [h1, Bool.true_and, descB_eq hp k m hm, h2, Bool.false_or]
    rfl
 simp only [rawL, List.range_succ, List.filter_append, List.filter_cons, List.filter_nil, e, List.flatMap_append]
 cases upB l k m <;> simp
/-- the map of those that have been found -/
def belowF (l : List TileD) (k m : Nat) : Int → Option Value := fun x => if x = k ∨ (0 ≤ x ∧ x < m ∧ descB l k x.toNat = true) then some (.int .i64 1) else none
theorem belowF_zero (l : List TileD) (k : Nat) : upd (fun _ => none) (k : Int) (.int .i64 1) = belowF l k 0 := by
 funext x
 by_cases e : x = k
 · simp [upd, belowF, e]
 · have : ¬ (0 ≤ x ∧ x < ((0 : Nat) : Int) ∧ descB l k x.toNat = true) := fun h => by omega
   simp only [upd, belowF, if_neg e]
   rw [if_neg (fun h => h.elim e this)]
theorem belowF_step {l : List TileD} (hp : parentsB l = true) (k m : Nat) (hk : k < l.length) (hm : m < l.length) : belowF l k (m + 1) = if upB l k m then upd (belowF l k m) (m : Int) (.int .i64 1) else belowF l k m := by
 funext x
 have hd : m ≠ k → descB l k m = upB l k m := fun h => by
  have h2 : (m == k) = false := by simpa using h
  rw [descB_eq hp k m hm, h2, Bool.false_or]
  rfl
 by_cases e : x = m
 · subst e
   by_cases hmk : m = k
   · subst hmk
     rw [upB_self hp m hm]
     simp [belowF]
   · have hne : ¬ (m : Int) = k := by omega
     cases hu : upB l k m with
     | true =>
       have : belowF l k (m + 1) (m : Int) = some (.int .i64 1) := by
        unfold belowF
        rw [if_pos (.inr ⟨by omega, by omega, by simpa [hd hmk] using hu⟩)]
       rw [this]; simp [upd]
     | false =>
       have h1 : belowF l k (m + 1) (m : Int) = none := by
        unfold belowF
        rw [if_neg]
        rintro (h | ⟨_, _, h⟩)
        · exact hne h
        · rw [Int.toNat_natCast, hd hmk, hu] at h; cases h
       have h2 : belowF l k m (m : Int) = none := by
        unfold belowF
        rw [if_neg]
        rintro (h | ⟨_, h, _⟩)
        · exact hne h
        · omega
       rw [h1]; simp [h2]
 · have h1 : belowF l k (m + 1) x = belowF l k m x := by
    unfold belowF
    congr 1
    rw [eq_iff_iff]
    constructor
    · rintro (h | ⟨a, b, c⟩)
      · exact .inl h
      · exact .inr ⟨a, by omega, c⟩
    · rintro (h | ⟨a, b, c⟩)
      · exact .inl h
      · exact .inr ⟨a, by omega, c⟩
   rw [h1]
   cases upB l k m <;> simp [upd, e]
theorem belowF_par {l : List TileD} (hp : parentsB l = true) (k m : Nat) (hm : m < l.length) : (decide (0 ≤ parL l m) && (belowF l k m (parL l m)).isSome) = upB l k m := by
 have h1 := (parentsB_iff l).1 hp m hm
 unfold upB
 by_cases h0 : 0 ≤ parL l m
 · rw [decide_eq_true h0, Bool.true_and, Bool.true_and]
   unfold belowF
   by_cases hd : descB l k (parL l m).toNat = true
   · rw [if_pos (.inr ⟨h0, by omega, hd⟩), hd]; rfl
   · rw [if_neg]
     · have : descB l k (parL l m).toNat = false := by simpa using hd
       rw [this]; rfl
     · rintro (h | ⟨_, _, h⟩)
       · rw [h, Int.toNat_natCast, descB_self] at hd; exact hd rfl
       · exact hd h
 · rw [decide_eq_false h0]; rfl
/-- each number once, of a list that rises -/
theorem compact_inv (d : Array Int) (hs : ∀ i, i + 1 < d.size → d[i]! ≤ d[i + 1]!) : ∀ m, m ≤ d.size → (Lib.compactUpTo d m).Pairwise (· < ·) ∧ (∀ y, y ∈ Lib.compactUpTo d m ↔ ∃ j, j < m ∧ d[j]! = y) ∧ (0 < m → ∀ y ∈ Lib.compactUpTo d m, y ≤ d[m - 1]!) := by
 intro m
 induction m with
 | zero => intro _; refine ⟨by simp [Lib.compactUpTo], fun y => ⟨fun h => by simp [Lib.compactUpTo] at h, fun ⟨j, h, _⟩ => by omega⟩, fun h => by omega⟩
 | succ m ih =>
   intro hm
   obtain ⟨h1, h2, h3⟩ := ih (by omega)
   rw [Lib.compactUpTo_succ]
   have hle : 0 < m → ∀ y ∈ Lib.compactUpTo d m, y ≤ d[m]! := fun h0 y hy => by
    have := h3 h0 y hy
    have h4 := hs (m - 1) (by omega)
    rw [show m - 1 + 1 = m by omega] at h4
    omega
   by_cases hk : Lib.keeps d m = true
   · rw [if_pos hk]
     have hlt : ∀ y ∈ Lib.compactUpTo d m, y < d[m]! := fun y hy => by
      have h0 : 0 < m := by
       rcases Nat.eq_zero_or_pos m with e | e
       · subst e; simp [Lib.compactUpTo] at hy
       · exact e
      simp only [Lib.keeps, decide_eq_true_eq] at hk
      have hk := hk.resolve_left (by omega)
      have := h3 h0 y hy
      have h4 := hs (m - 1) (by omega)
      rw [show m - 1 + 1 = m by omega] at h4
      omega
     refine ⟨?_, fun y => ?_, fun _ y hy => ?_⟩
     · rw [List.pairwise_append]
       exact ⟨h1, by simp, fun y hy z hz => by simp at hz; subst hz; exact hlt y hy⟩
     · rw [List.mem_append, h2]
       constructor
       · rintro (⟨j, hj, e⟩ | h)
         · exact ⟨j, by omega, e⟩
         · simp at h; exact ⟨m, by omega, h.symm⟩
       · rintro ⟨j, hj, e⟩
         by_cases hjm : j = m
         · subst hjm; exact .inr (by simp [e])
         · exact .inl ⟨j, by omega, e⟩
     · rcases List.mem_append.1 hy with hy | hy
       · have := hlt y hy; simp; omega
       · simp at hy; subst hy; simp
   · rw [if_neg hk, List.append_nil]
     have hk' : m ≠ 0 ∧ d[m]! = d[m - 1]! := by
      simp only [Lib.keeps, decide_eq_true_eq, not_or] at hk
      exact ⟨hk.1, Classical.not_not.1 hk.2⟩
     refine ⟨h1, fun y => ?_, fun _ y hy => by have := hle (by omega) y hy; simpa using this⟩
     rw [h2]
     constructor
     · rintro ⟨j, hj, e⟩; exact ⟨j, by omega, e⟩
     · rintro ⟨j, hj, e⟩
       by_cases hjm : j = m
       · subst hjm; exact ⟨j - 1, by omega, by rw [← hk'.2, e]⟩
       · exact ⟨j, by omega, e⟩
theorem compact_sort (xs : List Int) : Lib.compact (xs.mergeSort fun x y => decide (x ≤ y)) = sortD xs := by
 have hp := List.mergeSort_perm xs fun x y => decide (x ≤ y)
 have hso := List.pairwise_mergeSort (le := fun x y : Int => decide (x ≤ y)) (fun a b c h1 h2 => by simp at *; omega) (fun a b => by simp; omega) xs
 generalize xs.mergeSort (fun x y => decide (x ≤ y)) = ys at *
 have hs : ∀ i, i + 1 < ys.toArray.size → ys.toArray[i]! ≤ ys.toArray[i + 1]! := fun i hi => by
  have hi' : i + 1 < ys.length := by simpa using hi
  have := List.pairwise_iff_getElem.1 hso i (i + 1) (by omega) hi' (by omega)
  simp at this
  simp [show i < ys.length by omega, hi']
  exact this
 have h := compact_inv ys.toArray hs ys.length (by simp)
 refine sorted_eq _ _ h.1 (sorted_sortD xs) fun y => ?_
 rw [mem_sortD, ← hp.mem_iff]
 show y ∈ Lib.compactUpTo ys.toArray ys.length ↔ _
 rw [h.2.1]
 constructor
 · rintro ⟨j, hj, rfl⟩; simp [hj]
 · intro hy
   obtain ⟨j, hj, e⟩ := List.mem_iff_getElem.1 hy
   exact ⟨j, hj, by simp [hj, e]⟩
end
end Go.Proofs.Ytblhmdhfhaencaa
