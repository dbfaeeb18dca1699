/-
  How an argument that came in reads: a slice of ints as a list, within the reach.
-/
import Derived.Test.YtblhmdhfhaencaaEP
import Derived.Test.YtblhmdhfhaencaaRows
import Derived.WalkKit
import Derived.ProofKit
import Derived.OpenShut
import Derived.ShutString
import Derived.ChangeOld
import Derived.Below
import Derived.SizedLaws
import Derived.Lib.SmallJoins
import Derived.Test.YtblhmdhfhaencaaEK
import Derived.Test.YtblhmdhfhaencaaEC
import Derived.Deep.Slices
import Derived.Test.YtblhmdhfhaencaaQO
namespace Go.Proofs.Ytblhmdhfhaencaa
set_option linter.unusedSimpArgs false
set_option linter.unusedVariables false
set_option linter.unusedSectionVars false
section
open Go.ChangeShapes Go.WideShapes Go.ChangeAt Go.RowKit

theorem ownG : ownKnob Try.prog.godebug = none := by kernel_rfl
theorem laidOutG : laidOutB Try.prog = true := by kernel_rfl
theorem bytesInt : Try.prog.bytesOf 3 = 8 := by kernel_rfl
theorem cellsInt : Try.prog.cellsOf 3 = 1 := by kernel_rfl

theorem ints_in {H : Type} {enc : TypeId × Value → H} {W : World} {fuel : Nat} {v : Value} {y : DataW H × List MemPlace}
    (hf : DataW.trod enc Try.prog W 0 (fun _ => true) true fuel 22 [v] = some y) (hb : ∀ n ∈ y.1.weights Try.prog 22, n ≤ reachBytes) :
    ∃ a len cap zs, v = .slice a len cap ∧ Ints W a len zs := by
  rcases open_ints Try.underlying22 Try.underlying3 cellsInt hf with ⟨hcs, _⟩ | ⟨x, l, c, zs, hcs, _, hl, hm, hz, hx, hcell, hwz⟩
  · simp at hcs
    exact ⟨none, 0, 0, [], hcs, rfl, by omega, fun k hk => absurd hk (by omega)⟩
  · simp at hcs
    have hz' : zs.length = c := by simpa using hz
    have hlen : (zs.take l).length = l := by simp; omega
    have hbd := hb ((((zs.take l).length) + ((zs.drop l).length)) * 8) (by rw [hx]; simp [DataW.weights, Try.underlying22, bytesInt, lits])
    refine ⟨some x, l, c, zs.take l, hcs, hlen, ?_, fun k hk => ?_⟩
    · simp only [List.length_take, List.length_drop, reachBytes] at hbd
      omega
    · have hk' : k < zs.length := by omega
      have hc := hcell k hk'
      obtain ⟨b, o, sp⟩ := x
      have hsp : sp = none := by simpa [Addr.add] using World.cell?_spot (hcell 0 (by omega))
      subst hsp
      have e : (zs.take l).getD k 0 = zs.getD k 0 := by simp [List.getD_eq_getElem?_getD, List.getElem?_take, hk]
      refine ⟨b, o, rfl, ?_, ?_⟩
      · rw [e]
        have ha : (⟨b, o, none⟩ : Addr).add k = ⟨b, o + k, none⟩ := by
          by_cases h0 : k = 0
          · simp [Addr.add, h0]
          · simp [Addr.add, h0]
        rw [ha] at hc
        exact hc
      · rw [e]
        have hm' : zs.getD k 0 ∈ zs := by
          rw [List.getD_eq_getElem?_getD, List.getElem?_eq_getElem hk']
          simp
        have := Go.Joins.in64_of_wf (hwz _ hm')
        simp only [I64]
        simp only [Go.Joins.In64] at this
        omega
end

section
open Go.ChangeShapes Go.WideShapes Go.ChangeAt Go.RowKit

theorem cellsIns : Try.prog.cellsOf 145 = 8 := by kernel_rfl
theorem bytesIns : Try.prog.bytesOf 145 = 80 := by kernel_rfl
theorem cellsOp : Try.prog.cellsOf 143 = 1 := by kernel_rfl
theorem cellsInts : Try.prog.cellsOf 22 = 1 := by kernel_rfl
theorem cellsInsS : Try.prog.cellsOf 113 = 1 := by kernel_rfl
theorem cellsTerm : Try.prog.cellsOf 112 = 4 := by kernel_rfl
theorem cellsKind : Try.prog.cellsOf 109 = 1 := by kernel_rfl
theorem cellsTo : Try.prog.cellsOf 110 = 2 := by kernel_rfl
theorem cellsBlock : Try.prog.cellsOf 115 = 5 := by kernel_rfl
theorem list_of {α : Type} (n : Nat) (R : Nat → α → Prop) (h : ∀ i, i < n → ∃ x, R i x) : ∃ l : List α, l.length = n ∧ ∀ i x, l[i]? = some x → R i x := by
  induction n with
  | zero => exact ⟨[], rfl, fun i x hx => by simp at hx⟩
  | succ n ih =>
    obtain ⟨l, hl, hr⟩ := ih (fun i hi => h i (by omega))
    obtain ⟨x, hx⟩ := h n (by omega)
    refine ⟨l ++ [x], by simp [hl], fun i y hy => ?_⟩
    by_cases hi : i < n
    · rw [List.getElem?_append_left (by omega)] at hy
      exact hr i y hy
    · have hlt := (List.getElem?_eq_some_iff.1 hy).1
      simp [hl] at hlt
      obtain rfl : i = n := by omega
      rw [List.getElem?_append_right (by omega), hl, Nat.sub_self] at hy
      simp at hy
      subst hy
      exact hx
theorem len8 {α : Type} : ∀ {l : List α}, l.length = 8 → ∃ v0 v1 v2 v3 v4 v5 v6 v7, l = [v0, v1, v2, v3, v4, v5, v6, v7]
  | [v0, v1, v2, v3, v4, v5, v6, v7], _ => ⟨v0, v1, v2, v3, v4, v5, v6, v7, rfl⟩
theorem len5 {α : Type} : ∀ {l : List α}, l.length = 5 → ∃ v0 v1 v2 v3 v4, l = [v0, v1, v2, v3, v4]
  | [v0, v1, v2, v3, v4], _ => ⟨v0, v1, v2, v3, v4, rfl⟩
theorem len3 {α : Type} : ∀ {l : List α}, l.length = 3 → ∃ v0 v1 v2, l = [v0, v1, v2]
  | [v0, v1, v2], _ => ⟨v0, v1, v2, rfl⟩
theorem len2 {α : Type} : ∀ {l : List α}, l.length = 2 → ∃ v0 v1, l = [v0, v1]
  | [v0, v1], _ => ⟨v0, v1, rfl⟩
section
variable {H : Type} {enc : TypeId × Value → H} {W : World}
theorem int_in {fuel : Nat} {v : Value} {t : TypeId} {o : Option (DataW H × List MemPlace)} {y : DataW H × List MemPlace} (ht : Try.prog.underlying t = some (.int .i64)) (h : DataW.trod enc Try.prog W 0 (fun _ => true) true fuel t [v] = o) (ho : o = some y) : ∃ n, v = .int .i64 n ∧ I64 n := by
  obtain ⟨n, e, _, hw⟩ := DataW.trod_int ht (h.trans ho)
  simp only [List.cons.injEq, and_true] at e
  have := Go.Joins.in64_of_wf hw
  exact ⟨n, e, this.1, this.2⟩
theorem intsC_in {fuel : Nat} {v : Value} {y : DataW H × List MemPlace}
    (hf : DataW.trod enc Try.prog W 0 (fun _ => true) true fuel 22 [v] = some y) (hb : ∀ n ∈ y.1.weights Try.prog 22, n ≤ reachBytes) :
    ∃ a len cap zs, v = .slice a len cap ∧ Ints W a len zs ∧ len ≤ cap := by
  obtain ⟨a, len, cap, zs, e, h⟩ := ints_in hf hb
  refine ⟨a, len, cap, zs, e, h, ?_⟩
  rcases open_ints Try.underlying22 Try.underlying3 cellsInt hf with ⟨hcs, _⟩ | ⟨x, l, c, zs', hcs, _, hl, _⟩
  · simp at hcs; rw [e] at hcs; simp at hcs; omega
  · simp at hcs; rw [e] at hcs; simp at hcs; omega
theorem ins_in {fuel : Nat} {cs : List Value} {y : DataW H × List MemPlace} (hf : DataW.trod enc Try.prog W 0 (fun _ => true) true fuel 145 cs = some y) (hb : ∀ n ∈ y.1.weights Try.prog 145, n ≤ reachBytes) :
    ∃ r : InsR, cs = insC r ∧ InsOK W r := by
  obtain ⟨ys, n, -, hy, hlen, hyl, hfs⟩ := DataW.trod_struct Try.underlying145 hf
  rw [cellsIns] at hlen
  obtain ⟨v0, v1, v2, v3, v4, v5, v6, v7, rfl⟩ := len8 hlen
  obtain ⟨y0, y1, y2, y3, y4, y5, y6, y7, rfl⟩ := len8 (show ys.length = 8 from hyl)
  have g0 : DataW.trod enc Try.prog W 0 (fun _ => true) true n 143 (([v0, v1, v2, v3, v4, v5, v6, v7].drop 0).take (Try.prog.cellsOf 143)) = some y0 := hfs 0 _ rfl
  have g1 : DataW.trod enc Try.prog W 0 (fun _ => true) true n 3 (([v0, v1, v2, v3, v4, v5, v6, v7].drop 1).take (Try.prog.cellsOf 3)) = some y1 := hfs 1 _ rfl
  have g2 : DataW.trod enc Try.prog W 0 (fun _ => true) true n 3 (([v0, v1, v2, v3, v4, v5, v6, v7].drop 2).take (Try.prog.cellsOf 3)) = some y2 := hfs 2 _ rfl
  have g3 : DataW.trod enc Try.prog W 0 (fun _ => true) true n 3 (([v0, v1, v2, v3, v4, v5, v6, v7].drop 3).take (Try.prog.cellsOf 3)) = some y3 := hfs 3 _ rfl
  have g4 : DataW.trod enc Try.prog W 0 (fun _ => true) true n 3 (([v0, v1, v2, v3, v4, v5, v6, v7].drop 4).take (Try.prog.cellsOf 3)) = some y4 := hfs 4 _ rfl
  have g5 : DataW.trod enc Try.prog W 0 (fun _ => true) true n 3 (([v0, v1, v2, v3, v4, v5, v6, v7].drop 5).take (Try.prog.cellsOf 3)) = some y5 := hfs 5 _ rfl
  have g6 : DataW.trod enc Try.prog W 0 (fun _ => true) true n 22 (([v0, v1, v2, v3, v4, v5, v6, v7].drop 6).take (Try.prog.cellsOf 22)) = some y6 := hfs 6 _ rfl
  have g7 : DataW.trod enc Try.prog W 0 (fun _ => true) true n 3 (([v0, v1, v2, v3, v4, v5, v6, v7].drop 7).take (Try.prog.cellsOf 3)) = some y7 := hfs 7 _ rfl
  rw [cellsOp] at g0
  rw [cellsInt] at g1
  rw [cellsInt] at g2
  rw [cellsInt] at g3
  rw [cellsInt] at g4
  rw [cellsInt] at g5
  rw [cellsInts] at g6
  rw [cellsInt] at g7
  simp only [List.drop_succ_cons, List.drop_zero, List.take_succ_cons, List.take_zero] at g0 g1 g2 g3 g4 g5 g6 g7
  obtain ⟨n0, rfl, i0⟩ := int_in Try.underlying143 g0 rfl
  obtain ⟨n1, rfl, i1⟩ := int_in Try.underlying3 g1 rfl
  obtain ⟨n2, rfl, i2⟩ := int_in Try.underlying3 g2 rfl
  obtain ⟨n3, rfl, i3⟩ := int_in Try.underlying3 g3 rfl
  obtain ⟨n4, rfl, i4⟩ := int_in Try.underlying3 g4 rfl
  obtain ⟨n5, rfl, i5⟩ := int_in Try.underlying3 g5 rfl
  obtain ⟨n7, rfl, i7⟩ := int_in Try.underlying3 g7 rfl
  obtain ⟨a, len, cap, zs, rfl, hI, hc⟩ := intsC_in (y := y6) g6 (fun q hq => hb q (by rw [hy]; simp [DataW.weights, DataW.weightsEach, Try.underlying145, hq]))
  exact ⟨⟨⟨n0, n1, n2, n3, n4, n5, zs, n7⟩, a, len, cap⟩, rfl, hI, hc, i0, i1, i2, i3, i4, i5, i7⟩
theorem weights_all {e : TypeId} : ∀ {l : List (DataW H)} {d : DataW H}, d ∈ l → ∀ q ∈ d.weights Try.prog e, q ∈ DataW.weightsAll Try.prog e l
  | x :: l, d, hd, q, hq => by
    rw [DataW.weightsAll, List.mem_append]
    rcases List.mem_cons.1 hd with rfl | hd
    · exact Or.inl hq
    · exact Or.inr (weights_all hd q hq)
theorem insS_in {fuel : Nat} {v : Value} {y : DataW H × List MemPlace} (hf : DataW.trod enc Try.prog W 0 (fun _ => true) true fuel 113 [v] = some y) (hb : ∀ n ∈ y.1.weights Try.prog 113, n ≤ reachBytes) :
    ∃ a len cap rs, v = .slice a len cap ∧ InsS W a len rs ∧ len ≤ cap := by
  rcases Go.Deep.open_slice Try.underlying113 hf with ⟨hcs, _⟩ | ⟨x, l, c, m, n, D, Pl, hcs, _, hl, hm, hmm, hx, hall⟩
  · simp at hcs
    exact ⟨none, 0, 0, [], hcs, ⟨Recs.nil _ _ _, fun r hr => by cases hr⟩, by omega⟩
  · simp at hcs
    have hmm' : m = c := by simpa using hmm
    subst hmm'
    rw [cellsIns] at hall
    have hbd := hb ((l + (m - l)) * 80) (by rw [hx]; simp [DataW.weights, Try.underlying113, bytesIns])
    have hel : ∀ i, i < l → ∃ r : InsR, InsOK W r ∧ ∀ j, j < 8 → W.cell? ((x.add (i * 8)).add j) = (insC r)[j]? := fun i hi => by
      obtain ⟨cs', hc', ht'⟩ := hall i (by omega)
      obtain ⟨_, _, hat⟩ := World.cells?_some hc'
      obtain ⟨r, rfl, hok⟩ := ins_in ht' (fun q hq => hb q (by
        rw [hx]
        simp only [DataW.weights, Try.underlying113, List.mem_cons, List.mem_append]
        exact Or.inr (Or.inl (weights_all (List.mem_map.2 ⟨i, List.mem_range.2 hi, rfl⟩) q hq))))
      exact ⟨r, hok, hat⟩
    obtain ⟨rs, hrl, hrs⟩ := list_of l _ hel
    have hsp : 0 < l → x.spot = none := fun h0 => by
      obtain ⟨r, _, hat⟩ := hel 0 h0
      have h1 := hat 0 (by omega)
      have h2 : (insC r)[0]? = some (.int .i64 r.d.op) := rfl
      rw [h2] at h1
      have := World.cell?_spot h1
      simpa [Addr.add] using this
    refine ⟨some x, l, m, rs, hcs, ⟨⟨hrl, ?_, fun k r hr => ?_⟩, fun r hr => ?_⟩, hl⟩
    · simp only [reachBytes] at hbd
      omega
    · have hk : k < l := by rw [← hrl]; exact (List.getElem?_eq_some_iff.1 hr).1
      have hs := hsp (by omega)
      obtain ⟨b, o, sp⟩ := x
      simp only at hs
      subst hs
      refine ⟨b, o, rfl, fun j hj => ?_⟩
      have := (hrs k r hr).2 j hj
      rwa [addr_add, addr_add] at this
    · obtain ⟨k, hk, e⟩ := List.mem_iff_getElem.1 hr
      exact (hrs k r (by rw [List.getElem?_eq_getElem hk, e])).1
theorem cellsFunc : Try.prog.cellsOf 25 = 2 := by kernel_rfl
theorem cellsBlocks : Try.prog.cellsOf 23 = 1 := by kernel_rfl
theorem bytesBlock : Try.prog.bytesOf 115 = 56 := by kernel_rfl
set_option maxRecDepth 100000 in
/-- a block, as an element -/
theorem blkE_in {fuel : Nat} {l : List Value} {y : DataW H × List MemPlace} (hf' : DataW.trod enc Try.prog W 0 (fun _ => true) true fuel 115 l = some y) (hb : ∀ n ∈ y.1.weights Try.prog 115, n ≤ reachBytes) :
    ∃ b : BlkH, l = blkC b ∧ TermOK b.t ∧ ∃ rs, InsS W b.ia b.n rs := by
  obtain ⟨ys, n, -, hy, hlen, hyl, hfs⟩ := DataW.trod_struct Try.underlying115 hf'
  rw [cellsBlock] at hlen
  obtain ⟨v0, v1, v2, v3, v4, rfl⟩ := len5 hlen
  obtain ⟨y0, y1, rfl⟩ := len2 (show ys.length = 2 from hyl)
  have g0 : DataW.trod enc Try.prog W 0 (fun _ => true) true n 113 (([v0, v1, v2, v3, v4].drop 0).take (Try.prog.cellsOf 113)) = some y0 := hfs 0 _ rfl
  have g1 : DataW.trod enc Try.prog W 0 (fun _ => true) true n 112 (([v0, v1, v2, v3, v4].drop 1).take (Try.prog.cellsOf 112)) = some y1 := hfs 1 _ rfl
  rw [cellsInsS] at g0
  rw [cellsTerm] at g1
  simp only [List.drop_succ_cons, List.drop_zero, List.take_succ_cons, List.take_zero] at g0 g1
  obtain ⟨sa, ns, cs, rs, rfl, hI, hc⟩ := insS_in g0 (fun q hq => hb q (by rw [hy]; simp [DataW.weights, DataW.weightsEach, Try.underlying115, hq]))
  obtain ⟨zs, n', -, hz, -, hzl, hgs⟩ := DataW.trod_struct Try.underlying112 g1
  obtain ⟨z0, z1, z2, rfl⟩ := len3 (show zs.length = 3 from hzl)
  have k0 : DataW.trod enc Try.prog W 0 (fun _ => true) true n' 109 (([v1, v2, v3, v4].drop 0).take (Try.prog.cellsOf 109)) = some z0 := hgs 0 _ rfl
  have k1 : DataW.trod enc Try.prog W 0 (fun _ => true) true n' 3 (([v1, v2, v3, v4].drop 1).take (Try.prog.cellsOf 3)) = some z1 := hgs 1 _ rfl
  have k2 : DataW.trod enc Try.prog W 0 (fun _ => true) true n' 110 (([v1, v2, v3, v4].drop 2).take (Try.prog.cellsOf 110)) = some z2 := hgs 2 _ rfl
  rw [cellsKind] at k0
  rw [cellsInt] at k1
  rw [cellsTo] at k2
  simp only [List.drop_succ_cons, List.drop_zero, List.take_succ_cons, List.take_zero] at k0 k1 k2
  obtain ⟨us, n'', -, hu, -, hul, hus⟩ := DataW.trod_array Try.underlying110 k2
  obtain ⟨u0, u1, rfl⟩ := len2 hul
  have t0 : DataW.trod enc Try.prog W 0 (fun _ => true) true n'' 3 (([v3, v4].drop (0 * Try.prog.cellsOf 3)).take (Try.prog.cellsOf 3)) = some u0 := hus 0 (by omega)
  have t1 : DataW.trod enc Try.prog W 0 (fun _ => true) true n'' 3 (([v3, v4].drop (1 * Try.prog.cellsOf 3)).take (Try.prog.cellsOf 3)) = some u1 := hus 1 (by omega)
  rw [cellsInt] at t0 t1
  simp only [Nat.zero_mul, Nat.one_mul, List.drop_succ_cons, List.drop_zero, List.take_succ_cons, List.take_zero] at t0 t1
  obtain ⟨m1, rfl, i1⟩ := int_in Try.underlying109 k0 rfl
  obtain ⟨m2, rfl, i2⟩ := int_in Try.underlying3 k1 rfl
  obtain ⟨m3, rfl, i3⟩ := int_in Try.underlying3 t0 rfl
  obtain ⟨m4, rfl, i4⟩ := int_in Try.underlying3 t1 rfl
  exact ⟨⟨sa, ns, cs, ⟨m1, m2, m3, m4⟩⟩, rfl, ⟨i1, i2, i3, i4⟩, rs, hI⟩
theorem blks_in {fuel : Nat} {v : Value} {y : DataW H × List MemPlace} (hf : DataW.trod enc Try.prog W 0 (fun _ => true) true fuel 23 [v] = some y) (hb : ∀ n ∈ y.1.weights Try.prog 23, n ≤ reachBytes) :
    ∃ a len cap bs, v = .slice a len cap ∧ BlksX W a len bs ∧ len ≤ cap := by
  rcases Go.Deep.open_slice Try.underlying23 hf with ⟨hcs, _⟩ | ⟨x, l, c, m, n, D, Pl, hcs, _, hl, hm, hmm, hx, hall⟩
  · simp at hcs
    exact ⟨none, 0, 0, [], hcs, ⟨⟨Recs.nil _ _ _, fun r hr => by cases hr⟩, fun r hr => by cases hr⟩, by omega⟩
  · simp at hcs
    have hmm' : m = c := by simpa using hmm
    subst hmm'
    rw [cellsBlock] at hall
    have hbd := hb ((l + (m - l)) * 56) (by rw [hx]; simp [DataW.weights, Try.underlying23, bytesBlock])
    have hel : ∀ i, i < l → ∃ b : BlkH, (TermOK b.t ∧ ∃ rs, InsS W b.ia b.n rs) ∧ ∀ j, j < 5 → W.cell? ((x.add (i * 5)).add j) = (blkC b)[j]? := fun i hi => by
      obtain ⟨cs', hc', ht'⟩ := hall i (by omega)
      obtain ⟨_, _, hat⟩ := World.cells?_some hc'
      obtain ⟨b, rfl, hok⟩ := blkE_in ht' (fun q hq => hb q (by
        rw [hx]
        simp only [DataW.weights, Try.underlying23, List.mem_cons, List.mem_append]
        exact Or.inr (Or.inl (weights_all (List.mem_map.2 ⟨i, List.mem_range.2 hi, rfl⟩) q hq))))
      exact ⟨b, hok, hat⟩
    obtain ⟨bs, hrl, hrs⟩ := list_of l _ hel
    have hsp : 0 < l → x.spot = none := fun h0 => by
      obtain ⟨r, _, hat⟩ := hel 0 h0
      have h1 := hat 0 (by omega)
      have h2 : (blkC r)[0]? = some (.slice r.ia r.n r.c) := rfl
      rw [h2] at h1
      have := World.cell?_spot h1
      simpa [Addr.add] using this
    have hmem : ∀ r ∈ bs, TermOK r.t ∧ ∃ rs, InsS W r.ia r.n rs := fun r hr => by
      obtain ⟨k, hk, e⟩ := List.mem_iff_getElem.1 hr
      exact (hrs k r (by rw [List.getElem?_eq_getElem hk, e])).1
    refine ⟨some x, l, m, bs, hcs, ⟨⟨⟨hrl, ?_, fun k r hr => ?_⟩, fun r hr => (hmem r hr).1⟩, fun r hr => (hmem r hr).2⟩, hl⟩
    · simp only [reachBytes] at hbd
      omega
    · have hk : k < l := by rw [← hrl]; exact (List.getElem?_eq_some_iff.1 hr).1
      have hs := hsp (by omega)
      obtain ⟨b, o, sp⟩ := x
      simp only at hs
      subst hs
      refine ⟨b, o, rfl, fun j hj => ?_⟩
      have := (hrs k r hr).2 j hj
      rwa [addr_add, addr_add] at this
set_option maxRecDepth 100000 in
/-- a function that came in -/
theorem func_in {r : Go.Reach} {b0 : Nat} {v : Value} {d : DataW H} {p : List MemPlace} (hv : Value.okWide Try.prog W r b0 25 v) (h : DataW.Trod enc Try.prog W 0 (fun _ => true) true 25 v d p) (hb : ∀ n ∈ d.weights Try.prog 25, n ≤ reachBytes) :
    ∃ pa pn pc ba bn bc bs, v = funcV pa pn pc ba bn bc ∧ (∃ ps, Ints W pa pn ps) ∧ BlksX W ba bn bs := by
  obtain ⟨arr, rfl, hsz⟩ := okWide_struct Try.underlying25 hv
  rw [cellsFunc] at hsz
  obtain ⟨fuel, hf⟩ := h
  obtain ⟨l⟩ := arr
  have hf' : DataW.trod enc Try.prog W 0 (fun _ => true) true fuel 25 l = some (d, p) := hf
  obtain ⟨v0, v1, rfl⟩ := len2 (show l.length = 2 from hsz)
  obtain ⟨ys, n, -, hy, -, hyl, hfs⟩ := DataW.trod_struct Try.underlying25 hf'
  obtain ⟨y0, y1, rfl⟩ := len2 (show ys.length = 2 from hyl)
  have g0 : DataW.trod enc Try.prog W 0 (fun _ => true) true n 22 (([v0, v1].drop 0).take (Try.prog.cellsOf 22)) = some y0 := hfs 0 _ rfl
  have g1 : DataW.trod enc Try.prog W 0 (fun _ => true) true n 23 (([v0, v1].drop 1).take (Try.prog.cellsOf 23)) = some y1 := hfs 1 _ rfl
  rw [cellsInts] at g0
  rw [cellsBlocks] at g1
  simp only [List.drop_succ_cons, List.drop_zero, List.take_succ_cons, List.take_zero] at g0 g1
  simp only [Prod.mk.injEq] at hy
  obtain ⟨pa, pn, pc, zs, rfl, hI, _⟩ := intsC_in g0 (fun q hq => hb q (by rw [hy.1]; simp [DataW.weights, DataW.weightsEach, Try.underlying25, hq]))
  obtain ⟨ba, bn, bc, bs, rfl, hB, _⟩ := blks_in g1 (fun q hq => hb q (by rw [hy.1]; simp [DataW.weights, DataW.weightsEach, Try.underlying25, hq]))
  exact ⟨pa, pn, pc, ba, bn, bc, bs, rfl, ⟨zs, hI⟩, hB⟩
end
end

section
open Go.ChangeShapes Go.WideShapes Go.ChangeAt Go.RowKit

theorem cellsTile : Try.prog.cellsOf 53 = 3 := by kernel_rfl
theorem cellsTileKind : Try.prog.cellsOf 51 = 1 := by kernel_rfl
theorem bytesTile : Try.prog.bytesOf 53 = 40 := by kernel_rfl
section
variable {H : Type} {enc : TypeId × Value → H} {W : World}
set_option maxRecDepth 100000 in
/-- a tile, as an element -/
theorem tileE_in {fuel : Nat} {l : List Value} {y : DataW H × List MemPlace} (hf' : DataW.trod enc Try.prog W 0 (fun _ => true) true fuel 53 l = some y) (hb : ∀ n ∈ y.1.weights Try.prog 53, n ≤ reachBytes) :
    ∃ t : TileR, l = tileC t ∧ Ints W t.ba t.bn t.d.blocks ∧ t.bn ≤ t.bc ∧ I64 t.d.kind ∧ I64 t.d.parent := by
  obtain ⟨ys, n, -, hy, hlen, hyl, hfs⟩ := DataW.trod_struct Try.underlying53 hf'
  rw [cellsTile] at hlen
  obtain ⟨v0, v1, v2, rfl⟩ := len3 hlen
  obtain ⟨y0, y1, y2, rfl⟩ := len3 (show ys.length = 3 from hyl)
  have g0 : DataW.trod enc Try.prog W 0 (fun _ => true) true n 51 (([v0, v1, v2].drop 0).take (Try.prog.cellsOf 51)) = some y0 := hfs 0 _ rfl
  have g1 : DataW.trod enc Try.prog W 0 (fun _ => true) true n 3 (([v0, v1, v2].drop 1).take (Try.prog.cellsOf 3)) = some y1 := hfs 1 _ rfl
  have g2 : DataW.trod enc Try.prog W 0 (fun _ => true) true n 22 (([v0, v1, v2].drop 2).take (Try.prog.cellsOf 22)) = some y2 := hfs 2 _ rfl
  rw [cellsTileKind] at g0
  rw [cellsInt] at g1
  rw [cellsInts] at g2
  simp only [List.drop_succ_cons, List.drop_zero, List.take_succ_cons, List.take_zero] at g0 g1 g2
  obtain ⟨n0, rfl, i0⟩ := int_in Try.underlying51 g0 rfl
  obtain ⟨n1, rfl, i1⟩ := int_in Try.underlying3 g1 rfl
  obtain ⟨a, len, cap, zs, rfl, hI, hc⟩ := intsC_in (y := y2) g2 (fun q hq => hb q (by rw [hy]; simp [DataW.weights, DataW.weightsEach, Try.underlying53, hq]))
  exact ⟨⟨⟨n0, n1, zs⟩, a, len, cap⟩, rfl, hI, hc, i0, i1⟩
theorem tiles_in {fuel : Nat} {v : Value} {y : DataW H × List MemPlace} (hf : DataW.trod enc Try.prog W 0 (fun _ => true) true fuel 26 [v] = some y) (hb : ∀ n ∈ y.1.weights Try.prog 26, n ≤ reachBytes) :
    ∃ a len cap ls, v = .slice a len cap ∧ TilesOK W a len ls ∧ len ≤ cap := by
  rcases Go.Deep.open_slice Try.underlying26 hf with ⟨hcs, _⟩ | ⟨x, l, c, m, n, D, Pl, hcs, _, hl, hm, hmm, hx, hall⟩
  · simp at hcs
    exact ⟨none, 0, 0, [], hcs, ⟨Recs.nil _ _ _, fun r hr => by cases hr⟩, by omega⟩
  · simp at hcs
    have hmm' : m = c := by simpa using hmm
    subst hmm'
    rw [cellsTile] at hall
    have hbd := hb ((l + (m - l)) * 40) (by rw [hx]; simp [DataW.weights, Try.underlying26, bytesTile])
    have hel : ∀ i, i < l → ∃ t : TileR, (Ints W t.ba t.bn t.d.blocks ∧ t.bn ≤ t.bc ∧ I64 t.d.kind ∧ I64 t.d.parent) ∧ ∀ j, j < 3 → W.cell? ((x.add (i * 3)).add j) = (tileC t)[j]? := fun i hi => by
      obtain ⟨cs', hc', ht'⟩ := hall i (by omega)
      obtain ⟨_, _, hat⟩ := World.cells?_some hc'
      obtain ⟨b, rfl, hok⟩ := tileE_in ht' (fun q hq => hb q (by
        rw [hx]
        simp only [DataW.weights, Try.underlying26, List.mem_cons, List.mem_append]
        exact Or.inr (Or.inl (weights_all (List.mem_map.2 ⟨i, List.mem_range.2 hi, rfl⟩) q hq))))
      exact ⟨b, hok, hat⟩
    obtain ⟨ls, hrl, hrs⟩ := list_of l _ hel
    have hsp : 0 < l → x.spot = none := fun h0 => by
      obtain ⟨r, _, hat⟩ := hel 0 h0
      have h1 := hat 0 (by omega)
      have h2 : (tileC r)[0]? = some (.int .i64 r.d.kind) := rfl
      rw [h2] at h1
      have := World.cell?_spot h1
      simpa [Addr.add] using this
    refine ⟨some x, l, m, ls, hcs, ⟨⟨hrl, ?_, fun k r hr => ?_⟩, fun r hr => ?_⟩, hl⟩
    · simp only [reachBytes] at hbd
      omega
    · have hk : k < l := by rw [← hrl]; exact (List.getElem?_eq_some_iff.1 hr).1
      have hs := hsp (by omega)
      obtain ⟨b, o, sp⟩ := x
      simp only at hs
      subst hs
      refine ⟨b, o, rfl, fun j hj => ?_⟩
      have := (hrs k r hr).2 j hj
      rwa [addr_add, addr_add] at this
    · obtain ⟨k, hk, e⟩ := List.mem_iff_getElem.1 hr
      exact (hrs k r (by rw [List.getElem?_eq_getElem hk, e])).1
end
end
end Go.Proofs.Ytblhmdhfhaencaa
