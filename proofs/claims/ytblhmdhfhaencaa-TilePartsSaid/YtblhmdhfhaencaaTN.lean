/-
 Tile: All.
-/
import Derived.Test.YtblhmdhfhaencaaTL
import Derived.Shelf.Small.Wraps
import Derived.Shelf.Sort.Plain
import Derived.Shelf.Bits.Mul64
import Derived.Shelf.Slices.Reverse
import Derived.Ground.Names2Prog
import Derived.Shelf.Slices.Clone
import Derived.Shelf.Slices.CompactI
import Derived.Shelf.Slices.In.SortNone
import Derived.Shelf.SlicesE.Reverse
import Derived.Test.YtblhmdhfhaencaaProg
import Derived.Test.YtblhmdhfhaencaaFlatBase
import Derived.Test.YtblhmdhfhaencaaZed
import Derived.Deep.OwnRows
import Derived.Laws.CopyOwn
import Derived.Deep.LoopGhost
import Derived.Deep.DeepCutAuto
namespace Go.Proofs.Ytblhmdhfhaencaa
set_option linter.unusedSimpArgs false
set_option linter.unusedVariables false
set_option linter.unusedSectionVars false
set_option maxRecDepth 100000
set_option maxHeartbeats 40000000
section
open Go.RowKit

theorem zero_int (w : World) : (zeroValue 3).run Try.prog w = .ok (.int .i64 0) w := by kernel_rfl
/-- what holds between the rounds of All -/
def AllJ (w : World) (ls : List TileR) (k m M : Nat) (v : Value) (wr : World) : Prop :=
 IMap wr M (belowF (tdOf ls) k m) ∧ OwnI wr (M + 1) v (rawL (tdOf ls) k m) ∧ Below w.heap.size w wr ∧ w.heap.size ≤ M ∧ M < wr.heap.size
theorem all_any (a : Option Addr) (n c : Nat) (ls : List TileR) (k : Int) (w : World) (h : TilesOK w a n ls) (hk : I64 k) (hT : totL (tdOf ls) ≤ 1000000) :
  Calls Try.prog 22 #[.slice a n c, .int .i64 k] w (IntsPost w (allL (tdOf ls) k)) := by
 have hn := h.1.2.1
 have HL := Lib.hid h.1.1
 have H := Lib.hid h
 obtain ⟨hk1, hk2⟩ := hk
 clear h
 by_cases hr : 0 ≤ k ∧ k < n
 rotate_left
 · have HE : Hid (allL (tdOf ls) k = []) := by
    rw [Hid, allL, if_neg]
    rw [tdOf_len, HL.out]
    exact fun h => hr ⟨h.1, h.2.1⟩
   by_cases h0 : k < 0
   all_goals
    go_enter Try.func22, Try.ntmps22
    go_wp2
    go_ret
    rw [HE.out]
    exact ⟨_, rfl, OwnI.nil _ _, Below.refl _ _⟩
 obtain ⟨hr1, hr2⟩ := hr
 have hr3 : ¬ k < 0 := by omega
 obtain ⟨kn, rfl⟩ : ∃ kn : Nat, k = (kn : Int) := ⟨k.toNat, by omega⟩
 by_cases hp : parentsB (tdOf ls) = true
 rotate_left
 · have HE : Hid (allL (tdOf ls) (kn : Int) = []) := by
    rw [Hid, allL, if_neg]
    exact fun h => hp h.2.2
   have hp' : parentsB (tdOf ls) = false := by simpa using hp
   have HP := Lib.hid hp'
   clear hp hp'
   go_enter Try.func22, Try.ntmps22
   go_wp2_with (go_at_call 35; refine (parents_any a n c ls w H.out).mono ?_; rintro e w1 ⟨rfl, hb⟩; rw [HP.out]; have HB := Lib.hid hb; clear hb)
   go_ret
   rw [HE.out]
   exact ⟨_, rfl, OwnI.nil _ _, HB.out⟩
 have HP := Lib.hid hp
 have hkl : kn < ls.length := by rw [HL.out]; omega
 have HEA : Hid (allL (tdOf ls) (kn : Int) = sortD (rawL (tdOf ls) kn (tdOf ls).length)) := by
  rw [Hid, allL, if_pos ⟨by omega, by rw [tdOf_len]; omega, hp⟩, Int.toNat_natCast]
 clear hp
 have hmm := @run_makeMap Try.prog
 go_enter Try.func22, Try.ntmps22
 go_upto_region 3 with (first
  | (go_at_call 35
     refine (parents_any a n c ls w H.out).mono ?_
     rintro e w1 ⟨rfl, hb⟩
     rw [HP.out]
     have HB := Lib.hid hb
     clear hb))
 obtain ⟨o0, hput0, hmap0⟩ := IMap.put (P := Try.prog) (IMap.made w1) Try.underlying88 Try.underlying3 (kn : Int) (.int .i64 1)
 rw [belowF_zero (tdOf ls)] at hmap0
 have HM0 := Lib.hid hmap0
 clear hmap0
 go_upto_region 4 with (fail)
 obtain ⟨W, hW⟩ : ∃ W, W = (w1.alloc (.map #[] 0)).putObj w1.heap.size o0 := ⟨_, rfl⟩
 rw [← hW]
 rw [← hW] at HM0
 have hWB : Below w1.heap.size w1 W := by rw [hW]; exact ((Below.refl _ w1).alloc (Nat.le_refl _) _).grown (grownBy_putObj' _ w1.heap.size o0) (by simp) (fun k e => by cases e; exact Nat.le_refl _)
 have hWs : W.heap.size = w1.heap.size + 1 := by rw [hW]; simp
 have HWB := Lib.hid hWB
 have HWs := Lib.hid hWs
 obtain ⟨t, b, o, hlk, hok, rfl, c0, c1, c2⟩ := ((H.out.ext HB.out).ext hWB).cells (k := kn) (by omega)
 have HTK : Hid (blkL (tdOf ls) kn = t.d.blocks) := by rw [Hid, blkL, tdOf_at ls kn t hlk]
 have HOK := Lib.hid hok.1
 clear hput0 hmm hW hWB hWs hlk hok
 go_upto_region 5 with (first
  | (go_at_call 47
     refine (cloneInts_any t.ba t.bn t.bc t.d.blocks W HOK.out).mono ?_
     rintro e w2 ⟨v, rfl, ho, hb⟩
     have HO := Lib.hid ho
     have HB2 := Lib.hid hb
     clear ho hb))
 have HJ0 : Hid (AllJ w ls kn 0 w1.heap.size v w2) := by
  refine ⟨HM0.out.ext HB2.out, ?_, ext_trans (ext_trans HB.out HWB.out) HB2.out, HB.out.size, ?_⟩
  · have h1 := HO.out.mono (base' := w1.heap.size + 1) (by rw [HWs.out]; omega)
    rw [rawL_zero, HTK.out]
    exact h1
  · have := HB2.out.size; rw [HWs.out] at this; omega
 generalize w1.heap.size = M at *
 clear c0 c1 c2 HOK HTK HO HB2 HM0 HWB HWs HB
 go_wp2
 go_loopg [6, 33] n (fun gg s6 s33 wr => ∃ (m : Nat), s33 = .int .i64 (m : Int) ∧ m ≤ n ∧ n ≤ gg + m ∧ Hid (AllJ w ls kn m M s6 wr))
 case atStart => exact ⟨0, rfl, Nat.zero_le _, Nat.le_refl _, HJ0⟩
 case round =>
  obtain ⟨m, rfl, hm, hgg, HJ⟩ := hrel
  clear HJ0
  by_cases hlt : m < n
  · have hml : m < (tdOf ls).length := by rw [tdOf_len, HL.out]; exact hlt
    have hkl2 : kn < (tdOf ls).length := by rw [tdOf_len]; exact hkl
    obtain ⟨t, b2, o2, hlk, hok, e2, c0', c1', c2'⟩ := H.out.cells hlt
    have c0 := cell_ext HJ.out.2.2.1 c0'
    have c1 := cell_ext HJ.out.2.2.1 c1'
    have c2 := cell_ext HJ.out.2.2.1 c2'
    clear c0' c1' c2'
    injection e2 with e2
    injection e2 with e2 e3
    subst e2 e3
    have htd := tdOf_at ls m t hlk
    have HTP : Hid (parL (tdOf ls) m = t.d.parent) := by rw [Hid, parL, htd]
    have HTB : Hid (blkL (tdOf ls) m = t.d.blocks) := by rw [Hid, blkL, htd]
    have HRS := Lib.hid (rawL_step HP.out kn m hkl2 hml)
    have HBS := Lib.hid (belowF_step HP.out kn m hkl2 hml)
    have HBP := Lib.hid (belowF_par HP.out kn m hml)
    have HRL := Lib.hid (rawL_len (tdOf ls) kn m (by omega))
    have HOK := Lib.hid hok.1
    have hp1 := hok.2.2.2.1
    have hp2 := hok.2.2.2.2
    have hbl : t.d.blocks.length = t.bn := hok.1.1
    have hble := blkL_le (tdOf ls) m
    rw [HTB.out, hbl] at hble
    have HBL := Lib.hid hbl
    clear hlk htd hok hbl
    go_upto_region 8 with (fail)
    obtain ⟨W1, hW1⟩ : ∃ W1, W1 = wr.alloc (tileO t) := ⟨_, rfl⟩
    rw [← hW1]
    have hB1 : Below wr.heap.size wr W1 := by rw [hW1]; exact ext_alloc _ _
    have hx1 : W1.heap[wr.heap.size]? = some (tileO t) := by rw [hW1, heap_alloc_new]
    have d1 : W1.cell? ⟨wr.heap.size, 1, none⟩ = some (.int .i64 t.d.parent) := by rw [cell_of_row _ _ _ _ _ _ hx1]; rfl
    have d2 : W1.cell? ⟨wr.heap.size, 2, none⟩ = some (.slice t.ba t.bn t.bc) := by rw [cell_of_row _ _ _ _ _ _ hx1]; rfl
    have HIM := Lib.hid (HJ.out.1.ext hB1)
    have HO := Lib.hid (HJ.out.2.1.ext hB1)
    have HBW := Lib.hid (ext_trans HJ.out.2.2.1 hB1)
    have hMs : M < W1.heap.size := by have := HJ.out.2.2.2.2; have := hB1.size; omega
    have hwM := HJ.out.2.2.2.1
    have hqM : M < wr.heap.size := HJ.out.2.2.2.2
    have hlk := IMap.look (w := W1) (P := Try.prog) HIM.out Try.underlying88 Try.underlying3 (zero_int _) t.d.parent
    have HX1 := Lib.hid hx1
    have HB1 := Lib.hid hB1
    clear hW1 hx1 hB1 c0 c1 c2 HJ
    generalize hq : wr.heap.size = q at *
    clear hq
    have HUP : Hid ((decide (0 ≤ t.d.parent) && (belowF (tdOf ls) kn m t.d.parent).isSome) = upB (tdOf ls) kn m) := by rw [Hid, ← HTP.out]; exact HBP.out
    have HLK : Hid (∀ x, belowF (tdOf ls) kn m x = none ∨ belowF (tdOf ls) kn m x = some (.int .i64 1)) := fun x => by
     unfold belowF
     by_cases hc : x = kn ∨ (0 ≤ x ∧ x < m ∧ descB (tdOf ls) kn x.toNat = true)
     · exact .inr (if_pos hc)
     · exact .inl (if_neg hc)
    cases hu : upB (tdOf ls) kn m with
    | false =>
      have HN : Hid (AllJ w ls kn (m + 1) M u6 W1) := by
       refine ⟨?_, ?_, HBW.out, hwM, hMs⟩
       · rw [HBS.out, hu]; exact HIM.out
       · rw [HRS.out, hu]; exact HO.out
      have hu2 := HUP.out
      rw [hu] at hu2
      by_cases h0 : 0 ≤ t.d.parent
      · have hno : belowF (tdOf ls) kn m t.d.parent = none := by
         rcases HLK.out t.d.parent with e | e
         · exact e
         · rw [e, decide_eq_true h0] at hu2; cases hu2
        rw [hno] at hlk
        simp only [Option.getD_none] at hlk
        clear hu2 hu hno
        go_wp2
        go_roundg (n - (m + 1))
        case measure => omega
        case rel => exact ⟨m + 1, by go_num, by omega, by omega, HN⟩
      · clear hu2 hu hlk
        go_wp2
        go_roundg (n - (m + 1))
        case measure => omega
        case rel => exact ⟨m + 1, by go_num, by omega, by omega, HN⟩
    | true =>
      have hu2 := HUP.out
      rw [hu] at hu2
      have h0 : 0 ≤ t.d.parent := by
       by_cases h0 : 0 ≤ t.d.parent
       · exact h0
       · rw [decide_eq_false h0] at hu2; cases hu2
      have hyes : belowF (tdOf ls) kn m t.d.parent = some (.int .i64 1) := by
       rcases HLK.out t.d.parent with e | e
       · rw [e, decide_eq_true h0] at hu2; cases hu2
       · exact e
      rw [hyes] at hlk
      simp only [Option.getD_some] at hlk
      obtain ⟨o1, hput1, hmap1⟩ := IMap.put (P := Try.prog) HIM.out Try.underlying88 Try.underlying3 (m : Int) (.int .i64 1)
      have hgp := grownBy_putObj' W1 M o1
      have HIM2 : Hid (IMap (W1.putObj M o1) M (belowF (tdOf ls) kn (m + 1))) := by rw [Hid, HBS.out, hu]; exact hmap1
      have HR2 : Hid (rawL (tdOf ls) kn (m + 1) = rawL (tdOf ls) kn m ++ t.d.blocks) := by rw [Hid, HRS.out, hu, ← HTB.out]; rfl
      have hlow : ∀ r, u6.ownBlock = some r → M + 1 ≤ r := fun r e => (HO.out.1.lt r e).1
      have HO2 := Lib.hid (HO.out.kept hgp (by
       cases e : u6.ownBlock with
       | none => exact .inl rfl
       | some r => exact .inr fun e2 => by injection e2 with e2; have := hlow r e; omega))
      have HBW2 := Lib.hid (HBW.out.grown hgp (by omega) (fun r e => by cases e; exact hwM))
      have hx2 : (W1.putObj M o1).heap[q]? = some (tileO t) := (World.putObj_heap_other (by omega)).trans HX1.out
      have d3 : (W1.putObj M o1).cell? ⟨q, 2, none⟩ = some (.slice t.ba t.bn t.bc) := by rw [cell_of_row _ _ _ _ _ _ hx2]; rfl
      have HI2 : Hid (Ints (W1.putObj M o1) t.ba t.bn t.d.blocks) := HOK.out.ext HBW2.out
      have hsz2 : (W1.putObj M o1).heap.size = W1.heap.size := by simp
      obtain ⟨av, cv, hv⟩ := HO.out.form
      have hrl := HRL.out
      have hh := HO.out.2.1
      clear hu2 hu hyes hmap1 hgp hx2
      have HHH := Lib.hid hh
      clear hh
      go_wp2_with (
       (at_builtin
        refine wpList_appendR (W1.putObj M o1) rfl (.tmp 50) (.tmp 52) 22 3 rfl (M + 1) _ 1 8 Try.underlying22 infoI rfl (by omega) u6 (rawL (tdOf ls) kn m).length _ rfl HO2.out.1 t.ba t.bn t.bc rfl (intVals t.d.blocks) (by rw [intVals_len, HBL.out, Nat.mul_one]) HI2.out.news (intVals_one _) (by simp only [maxLen]; omega) (by omega) (by simp; omega) ?_
        intro v3 w3 ho3 hg3 hv3
        have HO3 := Lib.hid ho3
        have HG3 := Lib.hid hg3
        clear ho3 hg3 hv3))
      go_roundg (n - (m + 1))
      case measure => omega
      case rel =>
       refine ⟨m + 1, by go_num, by omega, by omega, HIM2.out.grown HG3.out (fun e => by have := hlow M e.symm; omega), ?_, HBW2.out.grown HG3.out (by rw [hsz2]; omega) (fun r e => by have := hlow r e; omega), hwM, by have := HG3.out.size; rw [hsz2] at this; omega⟩
       rw [HR2.out]
       refine ⟨?_, ?_, by rw [List.length_append, HBL.out]; omega⟩
       · have e3 : (rawL (tdOf ls) kn m ++ t.d.blocks).length = (rawL (tdOf ls) kn m).length + t.bn := by rw [List.length_append, HBL.out]
         have e4 : intVals (rawL (tdOf ls) kn m ++ t.d.blocks) = intVals (rawL (tdOf ls) kn m) ++ intVals t.d.blocks := by simp [intVals]
         rw [e3, e4]
         exact HO3.out
       · intro z hz
         rcases List.mem_append.1 hz with hz | hz
         · exact HHH.out z hz
         · exact HOK.out.mem z hz
  · obtain rfl : m = n := by omega
    have HJ1 := HJ.out.2.1
    have HJ2 := Lib.hid HJ.out.2.2
    have HO := Lib.hid HJ1
    clear HJ1 HJ
    go_wp2_with (first
     | (go_at_call 49
        refine (compactI_any _ _ _ w4 HO4.out).mono ?_
        rintro e w5 ⟨v5, rfl, ho, hg⟩
        have HO5 := Lib.hid ho
        have HG5 := Lib.hid hg
        clear ho hg)
     | (go_at_call 48
        refine (sortI_any _ _ _ wr HO.out).mono ?_
        rintro e w4 ⟨rfl, ho, hg⟩
        have HO4 := Lib.hid ho
        have HG4 := Lib.hid hg
        clear ho hg))
    go_ret
    have e1 : (tdOf ls).length = m := by rw [tdOf_len, HL.out]
    rw [HEA.out, e1, ← compact_sort]
    have hlow : ∀ r, u6.ownBlock = some r → M + 1 ≤ r := fun r e => (HO.out.1.lt r e).1
    have hs4 := HG4.out.size
    refine ⟨_, rfl, HO5.out.mono (by have := HJ2.out.2.1; omega), (HJ2.out.1.grown HG4.out HJ2.out.1.size (fun r e => by have := hlow r e; have := HJ2.out.2.1; omega)).grown HG5.out (by have := HJ2.out.1.size; omega) (fun r e => by have := hlow r e; have := HJ2.out.2.1; omega)⟩
end

section
open Go.Shelf
def lays212_ren : Go.Shelf.Ren := ⟨fun | 212 => 95 | 263 => 115 | 264 => 116 | n => n, fun | 46 => 134 | 51 => 162 | 146 => 169 | 53 => 164 | 148 => 171 | n => n, fun | n => n⟩
theorem lays212 : Go.Proofs.Lays.n212 Try.prog lays212_ren := {
 mixed := by kernel_rfl
 f212 := Try.func95.trans (congrArg some (by kernel_rfl))
 f263 := Try.func115.trans (congrArg some (by kernel_rfl))
 f264 := Try.func116.trans (congrArg some (by kernel_rfl))
 t46 := Try.underlying134
 a46 := Try.isAgg134
 z46 := Try.sizeOf134
 v46 := Try.zeroValue134
 t51 := Try.underlying162
 a51 := Try.isAgg162
 z51 := Try.sizeOf162
 v51 := Try.zeroValue162
 t53 := Try.underlying164
 a53 := Try.isAgg164
 z53 := Try.sizeOf164
 v53 := Try.zeroValue164
 t146 := Try.underlying169
 a146 := Try.isAgg169
 z146 := Try.sizeOf169
 v146 := Try.zeroValue169
 t148 := Try.underlying171
 a148 := Try.isAgg171
 z148 := Try.sizeOf171
 v148 := Try.zeroValue171 }
open Go.RowKit Go.Lib in
/-- math/bits.Mul: "Mul returns the full-width product of x and y": on a machine of 64 bits: Mul64's. (LAID: no walk: one application.) -/
theorem bits_Mul (x y : Nat) (hx : x < 18446744073709551616) (hy : y < 18446744073709551616) (w : World) :
  Calls Try.prog 95 #[.int .u64 x, .int .u64 y] w fun e w' => e = .returned (.tuple #[.int .u64 ((x * y / 18446744073709551616 : Nat) : Int), .int .u64 ((x * y % 18446744073709551616 : Nat) : Int)]) ∧ w' = w := Any.bits_Mul lays212 x y hx hy w
end

section
open Go.RowKit

theorem op_copyS {P : Program} {o : Oper} {a : Act} {w : World} {K : Act → World → Prop} {Q : Exit → Act → World → Prop} (hgd : o.guard = none) (d s : Operand) (dT sT : TypeId)
  (ho : o.op = .call { callee := .builtin .copy, args := #[d, s], argTypes := #[dT, sT] }) (elem : TypeId) (hu : P.underlying dT = some (.slice elem)) (hsz : (P.info? elem).map (·.size) = some 1)
  (dp sp : Option Addr) (dLen dCap sLen sCap : Nat) (hd : a.eval d = .slice dp dLen dCap) (hs : a.eval s = .slice sp sLen sCap)
  (g off : Nat) (cur : List Value) (t : TypeId) (hg : w.heap[g]? = some (.cells cur.toArray t (0, 0))) (cs : List Value) (hn : cs.length = Nat.min sLen dLen)
  (hpos : 0 < cs.length → dp = some ⟨g, off, none⟩ ∧ ∃ ad, sp = some ad ∧ ∀ j v, cs[j]? = some v → w.cell? (ad.add j) = some v)
  (hfit : off + cs.length ≤ cur.length) (h1 : ∀ v ∈ cs, v.oneCell' = true) (B : Nat) (w0 : World) (hb : Below B w0 w) (hBg : B ≤ g)
  (h : ∀ w', Hid (w'.heap[g]? = some (.cells (splice cur off cs).toArray t (0, 0))) → Below B w0 w' → K (a.put o.dst (goInt cs.length)) w') : Oper.wp P o a w K Q := by
 have := step_copy_splice (P := P) (ops := #[]) (Q := Q) (E := True) hgd d s dT sT ho elem hu hsz dp sp dLen dCap sLen sCap hd hs g off cur t hg cs hn hpos hfit h1 B w0 hb hBg h
 rwa [if_pos (by simp [Region.wanted, hgd])] at this
/-- n numbers, of which the first j are laid -/
def repL (x : Int) (n j : Nat) : List Value := List.replicate j (.int .i64 x) ++ List.replicate (n - j) (.int .i64 0)
theorem repL_len (x : Int) (n j : Nat) (h : j ≤ n) : (repL x n j).length = n := by simp [repL]; omega
theorem repL_splice (x : Int) (n j m : Nat) (h : j + m ≤ n) : splice (repL x n j) j (List.replicate m (.int .i64 x)) = repL x n (j + m) := by
 unfold splice repL
 rw [List.take_append_of_le_length (by simp), List.take_of_length_le (by simp), List.drop_append, List.length_replicate, List.length_replicate, List.drop_of_length_le (by simp), List.nil_append, List.drop_replicate, ← List.append_assoc] <;> try rw [List.replicate_append_replicate, show n - j - (j + m - j) = n - (j + m) by omega]
theorem repL_at (x : Int) (n j i : Nat) (hi : i < j) : (repL x n j)[i]? = some (.int .i64 x) := by
 unfold repL
 rw [List.getElem?_append_left (by simpa using hi)]
 simp [hi]
theorem repeat_any (n g : Nat) (x : Int) (hx : I64 x) (h1 : 1 ≤ n) (h2 : n ≤ 1000000) (w : World) (hc : w.cell? ⟨g, 0, none⟩ = some (.int .i64 x)) :
  Calls Try.prog 69 #[.slice (some ⟨g, 0, none⟩) 1 1, .int .i64 (n : Int)] w (IntsPost w (List.replicate n x)) := by
 have HC := Lib.hid hc
 clear hc
 have e1 : 1 * n / 18446744073709551616 = 0 := Nat.div_eq_of_lt (by omega)
 have e2 : 1 * n % 18446744073709551616 = n := by rw [Nat.one_mul]; exact Nat.mod_eq_of_lt (by omega)
 have E1 := Lib.hid e1
 have E2 := Lib.hid e2
 clear e1 e2
 have hmk := run_make_row' (P := Try.prog) 22 3 (.int .i64 0) 8 Try.underlying22 infoI rfl .i64 .i64 n (by omega) (by omega) w
 go_enter Try.func69, Try.ntmps69
 go_upto_region 7 with (first
  | (go_at_call 95
     refine (bits_Mul 1 n (by omega) (by omega) w).mono ?_
     rintro e w' ⟨rfl, he⟩
     obtain rfl := he.symm
     rw [E1.out, E2.out]))
 obtain ⟨W, hW⟩ : ∃ W, W = w.alloc (.cells (madeCells #[.int .i64 0] n) 3) := ⟨_, rfl⟩
 rw [← hW]
 have hg0 : W.heap[w.heap.size]? = some (.cells (repL x n 0).toArray 3 (0, 0)) := by
  rw [hW, heap_alloc_new]
  congr 2
  apply Array.ext_getElem?
  intro k
  by_cases hk : k < n
  · simp [madeCells, repL, hk, Nat.mod_one]
  · rw [Array.getElem?_eq_none (by simp [madeCells]; omega), Array.getElem?_eq_none (by simp [repL]; omega)]
 have hB : Below w.heap.size w W := by rw [hW]; exact (Below.refl _ w).alloc (Nat.le_refl _) _
 have HG0 := Lib.hid hg0
 have HB := Lib.hid hB
 have hsz : (Try.prog.info? 3).map (·.size) = some 1 := by kernel_rfl
 have HSZ := Lib.hid hsz
 have HCW := Lib.hid (cell_ext hB HC.out)
 clear hW hg0 hB hmk hsz
 go_wp2_with (
  (refine wpList_copy_splice (o := ⟨some 33, _, _, _, _, _⟩) rfl (.tmp 31) (.tmp 32) 22 22 rfl 3 Try.underlying22 HSZ.out (some ⟨w.heap.size, 0, none⟩) (some ⟨g, 0, none⟩) n n 1 1 rfl rfl w.heap.size 0 (repL x n 0) 3 HG0.out (List.replicate 1 (.int .i64 x)) (by simp [Nat.min_def]; omega) (fun _ => ⟨rfl, _, rfl, fun j v hj => by
    have hj0 : j = 0 := by have := (List.getElem?_eq_some_iff.1 hj).1; simpa using this
    subst hj0
    have hv : v = .int .i64 x := by simpa using hj.symm
    subst hv
    rw [addr_add]
    exact HCW.out⟩) (by rw [repL_len _ _ _ (by omega)]; simp; omega) (by intro v hv; have := (List.mem_replicate.1 hv).2; subst this; rfl) w.heap.size w HB.out (Nat.le_refl _) ?_
   intro w2 hg2 hb2
   have HG2 := hg2
   have HB2 := Lib.hid hb2
   clear hg2 hb2))
 rw [repL_splice _ _ _ _ (by omega), Nat.zero_add] at HG2
 clear HG0 HB HCW
 go_loopg [8] n (fun gg s8 wr => ∃ (j : Nat), s8 = .int .i64 (j : Int) ∧ 1 ≤ j ∧ j ≤ n ∧ n ≤ gg + j ∧ Hid (wr.heap[w.heap.size]? = some (.cells (repL x n j).toArray 3 (0, 0))) ∧ Hid (Below w.heap.size w wr))
 case atStart => exact ⟨1, rfl, Nat.le_refl _, h1, by omega, HG2, HB2⟩
 case round =>
  obtain ⟨j, rfl, hj1, hj2, hgg, HG, HB⟩ := hrel
  clear HG2 HB2
  by_cases hlt : j < n
  · have hm1 : 1 ≤ Nat.min j (n - j) := by simp [Nat.min_def]; split <;> omega
    have hm2 : j + Nat.min j (n - j) ≤ n := by simp [Nat.min_def]; split <;> omega
    have hm3 : Nat.min j (n - j) ≤ j := Nat.min_le_left _ _
    have hlt' : (j : Int) < (n : Int) := by omega
    have hj0 : (0 : Int) ≤ (j : Int) := by omega
    go_upto_region 9 with (fail)
    refine z_start (fun w' => ∃ q : ClsW (fun q => Below w.heap.size w q), w' = q.val) (by kernel_rfl) ?_
    obtain ⟨v0, F0, G0, hv0⟩ : ∃ v0, Below w.heap.size w v0 ∧ v0.heap[w.heap.size]? = some (.cells (repL x n j).toArray 3 (0, 0)) ∧ wr.drew = v0 := ⟨_, below_drewN HB.out 1, HG.out, rfl⟩
    rw [hv0]
    clear hv0
    haveI : Nonempty (ClsW (fun q => Below w.heap.size w q)) := cls_ne (Below.refl _ _)
    refine z_reads 0 7 (by kernel_rfl) ⟨⟨_, F0⟩, rfl⟩ ?_
    simp only [List.take_succ_cons, List.take_zero, List.drop_succ_cons, List.drop_zero]
    repeat (go_big_quiet_step (fail))
    refine wpQuiet_nil ?_
    refine z_one 7 (by kernel_rfl) ?_
    refine wpOp_at rfl rfl ?_
    refine op_copyS rfl (.tmp 41) (.tmp 44) 22 22 rfl 3 Try.underlying22 HSZ.out (some ⟨w.heap.size, j, none⟩) (some ⟨w.heap.size, 0, none⟩) (n - j) (n - j) j n rfl rfl w.heap.size j (repL x n j) 3 G0 (List.replicate (Nat.min j (n - j)) (.int .i64 x)) (by simp) (fun _ => ⟨rfl, _, rfl, fun i v hi => by
     have hi0 : i < Nat.min j (n - j) := by have := (List.getElem?_eq_some_iff.1 hi).1; simpa using this
     have hv : v = .int .i64 x := by rw [List.getElem?_replicate, if_pos hi0] at hi; injection hi with hi; exact hi.symm
     subst hv
     rw [addr_add, cell_of_row _ _ _ _ _ _ G0, Nat.zero_add]
     have := repL_at x n j i (by omega)
     simpa using this⟩) (by rw [repL_len _ _ _ hj2]; simpa using hm2) (by intro v hv; have := (List.mem_replicate.1 hv).2; subst this; rfl) w.heap.size w F0 (Nat.le_refl _) ?_
    intro w3 hg3 hb3
    rw [List.length_replicate]
    rw [repL_splice _ _ _ _ hm2] at hg3
    generalize Nat.min j (n - j) = m at *
    simp only [goInt]
    refine ⟨Or.inr ⟨⟨_, hb3⟩, rfl⟩, ?_⟩
    try simp only [Act.put, List.setIfInBounds_toArray, List.set_cons_succ, List.set_cons_zero]
    refine z_reads 8 2 (by kernel_rfl) ⟨⟨_, hb3⟩, rfl⟩ ?_
    simp only [List.take_succ_cons, List.take_zero, List.drop_succ_cons, List.drop_zero]
    repeat (go_big_quiet_step (fail))
    refine wpQuiet_nil ?_
    refine z_done (by kernel_rfl) ?_
    clear hlt'
    go_wp2
    go_roundg (n - (j + m))
    case measure => omega
    case rel => exact ⟨j + m, by go_num, by omega, hm2, by omega, hg3, hb3⟩
  · obtain rfl : j = n := by omega
    go_wp2
    go_ret
    refine ⟨_, rfl, ⟨⟨by simp [intVals], .inr ⟨w.heap.size, j, (repL x j j).toArray, by simp, Nat.le_refl _, HG.out, by simp, by unfold maxLen; omega, by simp [repL], by simp [repL, intVals]⟩⟩, ?_, by simp; omega⟩, HB.out⟩
    intro z hz
    rw [(List.mem_replicate.1 hz).2]
    exact hx
end
end Go.Proofs.Ytblhmdhfhaencaa
