/-
  How tiles that came in read.
-/
import Derived.Test.YtblhmdhfhaencaaGreatOpenE
import Derived.Test.YtblhmdhfhaencaaGreatTL
namespace Go.Proofs.YtblhmdhfhaencaaGreat
set_option linter.unusedSimpArgs false
set_option linter.unusedVariables false
open Go.ChangeShapes Go.WideShapes Go.ChangeAt Go.RowKit

theorem cellsTile : Tryz.prog.cellsOf 76 = 3 := by kernel_rfl
theorem cellsTileKind : Tryz.prog.cellsOf 74 = 1 := by kernel_rfl
theorem bytesTile : Tryz.prog.bytesOf 76 = 40 := by kernel_rfl
section
variable {H : Type} {enc : TypeId × Value → H} {W : World}
set_option maxRecDepth 100000 in
/-- a tile, as an element -/
theorem tileE_in {fuel : Nat} {l : List Value} {y : DataW H × List MemPlace} (hf' : DataW.trod enc Tryz.prog W 0 (fun _ => true) true fuel 76 l = some y) (hb : ∀ n ∈ y.1.weights Tryz.prog 76, n ≤ reachBytes) :
    ∃ t : TileR, l = tileC t ∧ Ints W t.ba t.bn t.d.blocks ∧ t.bn ≤ t.bc ∧ I64 t.d.kind ∧ I64 t.d.parent := by
  obtain ⟨ys, n, -, hy, hlen, hyl, hfs⟩ := DataW.trod_struct Tryz.underlying76 hf'
  rw [cellsTile] at hlen
  obtain ⟨v0, v1, v2, rfl⟩ := len3 hlen
  obtain ⟨y0, y1, y2, rfl⟩ := len3 (show ys.length = 3 from hyl)
  have g0 : DataW.trod enc Tryz.prog W 0 (fun _ => true) true n 74 (([v0, v1, v2].drop 0).take (Tryz.prog.cellsOf 74)) = some y0 := hfs 0 _ rfl
  have g1 : DataW.trod enc Tryz.prog W 0 (fun _ => true) true n 3 (([v0, v1, v2].drop 1).take (Tryz.prog.cellsOf 3)) = some y1 := hfs 1 _ rfl
  have g2 : DataW.trod enc Tryz.prog W 0 (fun _ => true) true n 22 (([v0, v1, v2].drop 2).take (Tryz.prog.cellsOf 22)) = some y2 := hfs 2 _ rfl
  rw [cellsTileKind] at g0
  rw [cellsInt] at g1
  rw [cellsInts] at g2
  simp only [List.drop_succ_cons, List.drop_zero, List.take_succ_cons, List.take_zero] at g0 g1 g2
  obtain ⟨n0, rfl, i0⟩ := int_in Tryz.underlying74 g0 rfl
  obtain ⟨n1, rfl, i1⟩ := int_in Tryz.underlying3 g1 rfl
  obtain ⟨a, len, cap, zs, rfl, hI, hc⟩ := intsC_in (y := y2) g2 (fun q hq => hb q (by rw [hy]; simp [DataW.weights, DataW.weightsEach, Tryz.underlying76, hq]))
  exact ⟨⟨⟨n0, n1, zs⟩, a, len, cap⟩, rfl, hI, hc, i0, i1⟩
theorem tiles_in {fuel : Nat} {v : Value} {y : DataW H × List MemPlace} (hf : DataW.trod enc Tryz.prog W 0 (fun _ => true) true fuel 26 [v] = some y) (hb : ∀ n ∈ y.1.weights Tryz.prog 26, n ≤ reachBytes) :
    ∃ a len cap ls, v = .slice a len cap ∧ TilesOK W a len ls ∧ len ≤ cap := by
  rcases Go.Deep.open_slice Tryz.underlying26 hf with ⟨hcs, _⟩ | ⟨x, l, c, m, n, D, Pl, hcs, _, hl, hm, hmm, hx, hall⟩
  · simp at hcs
    exact ⟨none, 0, 0, [], hcs, ⟨Recs.nil _ _ _, fun r hr => by cases hr⟩, by omega⟩
  · simp at hcs
    have hmm' : m = c := by simpa using hmm
    subst hmm'
    rw [cellsTile] at hall
    have hbd := hb ((l + (m - l)) * 40) (by rw [hx]; simp [DataW.weights, Tryz.underlying26, bytesTile])
    have hel : ∀ i, i < l → ∃ t : TileR, (Ints W t.ba t.bn t.d.blocks ∧ t.bn ≤ t.bc ∧ I64 t.d.kind ∧ I64 t.d.parent) ∧ ∀ j, j < 3 → W.cell? ((x.add (i * 3)).add j) = (tileC t)[j]? := fun i hi => by
      obtain ⟨cs', hc', ht'⟩ := hall i (by omega)
      obtain ⟨_, _, hat⟩ := World.cells?_some hc'
      obtain ⟨b, rfl, hok⟩ := tileE_in ht' (fun q hq => hb q (by
        rw [hx]
        simp only [DataW.weights, Tryz.underlying26, List.mem_cons, List.mem_append]
        exact Or.inr (Or.inl (weights_all (List.mem_map.2 ⟨i, List.mem_range.2 hi, rfl⟩) q hq))))
      exact ⟨b, hok, hat⟩
    obtain ⟨ls, hrl, hrs⟩ := list_of l _ hel
    have hsp : 0 < l → x.spot = none := fun h0 => by
      obtain ⟨r, _, hat⟩ := hel 0 h0
      have h1 := hat 0 (by omega)
      have h2 : (tileC r)[0]? = some (.int .i64 r.d.kind) := rfl
      rw [h2] at h1
      have := World.cell?_spot h1
      simpa [Addr.add] using this
    refine ⟨some x, l, m, ls, hcs, ⟨⟨hrl, ?_, fun k r hr => ?_⟩, fun r hr => ?_⟩, hl⟩
    · simp only [reachBytes] at hbd
      omega
    · have hk : k < l := by rw [← hrl]; exact (List.getElem?_eq_some_iff.1 hr).1
      have hs := hsp (by omega)
      obtain ⟨b, o, sp⟩ := x
      simp only at hs
      subst hs
      refine ⟨b, o, rfl, fun j hj => ?_⟩
      have := (hrs k r hr).2 j hj
      rwa [addr_add, addr_add] at this
    · obtain ⟨k, hk, e⟩ := List.mem_iff_getElem.1 hr
      exact (hrs k r (by rw [List.getElem?_eq_getElem hk, e])).1
end
end Go.Proofs.YtblhmdhfhaencaaGreat
