/-
  Tile: how tiles lie in memory; parents.
-/
import Derived.Test.YtblhmdhfhaencaaTJ
import Derived.Test.YtblhmdhfhaencaaSortI
namespace Go.Proofs.Ytblhmdhfhaencaa
set_option linter.unusedSimpArgs false
set_option linter.unusedVariables false
set_option linter.unusedSectionVars false
section
open Go.RowKit

/-- a tile as it lies -/
structure TileR where
  d : TileD
  ba : Option Addr
  bn : Nat
  bc : Nat
def tileC (t : TileR) : List Value := [.int .i64 t.d.kind, .int .i64 t.d.parent, .slice t.ba t.bn t.bc]
theorem tileC_len (t : TileR) : (tileC t).length = 3 := rfl
def TilesOK (w : World) (a : Option Addr) (n : Nat) (ls : List TileR) : Prop := Recs 3 tileC w a n ls ∧ ∀ t ∈ ls, Ints w t.ba t.bn t.d.blocks ∧ t.bn ≤ t.bc ∧ I64 t.d.kind ∧ I64 t.d.parent
theorem TilesOK.ext {w w' : World} {a : Option Addr} {n : Nat} {ls : List TileR} (h : TilesOK w a n ls) (hb : Below w.heap.size w w') : TilesOK w' a n ls := ⟨h.1.ext tileC_len hb, fun t ht => ⟨(h.2 t ht).1.ext hb, (h.2 t ht).2⟩⟩
def tdOf (ls : List TileR) : List TileD := ls.map (·.d)
theorem tdOf_len (ls : List TileR) : (tdOf ls).length = ls.length := by simp [tdOf]
theorem tdOf_at (ls : List TileR) (k : Nat) (t : TileR) (h : ls[k]? = some t) : (tdOf ls).getD k zTile = t.d := by simp [tdOf, List.getD_eq_getElem?_getD, h]
abbrev tileO (t : TileR) : Obj := .cells #[.int .i64 t.d.kind, .int .i64 t.d.parent, .slice t.ba t.bn t.bc] 53
theorem TilesOK.cells {w : World} {a : Option Addr} {n : Nat} {ls : List TileR} (h : TilesOK w a n ls) {k : Nat} (hk : k < n) : ∃ t b o, ls[k]? = some t ∧ (Ints w t.ba t.bn t.d.blocks ∧ t.bn ≤ t.bc ∧ I64 t.d.kind ∧ I64 t.d.parent) ∧ a = some ⟨b, o, none⟩ ∧
    w.cell? ⟨b, o + k * 3, none⟩ = some (.int .i64 t.d.kind) ∧ w.cell? ⟨b, o + k * 3 + 1, none⟩ = some (.int .i64 t.d.parent) ∧ w.cell? ⟨b, o + k * 3 + 2, none⟩ = some (.slice t.ba t.bn t.bc) := by
  have hk' : k < ls.length := by rw [h.1.1]; exact hk
  obtain ⟨b, o, e, hc⟩ := h.1.2.2 k ls[k] (List.getElem?_eq_getElem hk')
  exact ⟨ls[k], b, o, List.getElem?_eq_getElem hk', h.2 _ (List.getElem_mem hk'), e, hc 0 (by omega), hc 1 (by omega), hc 2 (by omega)⟩
set_option maxHeartbeats 1000000 in
theorem parents_any (a : Option Addr) (n c : Nat) (ls : List TileR) (w : World) (h : TilesOK w a n ls) :
    Calls Try.prog 35 #[.slice a n c] w fun e w' => e = .returned (.bool (parentsB (tdOf ls))) ∧ Below w.heap.size w w' := by
  have hn := h.1.2.1
  have HL := Lib.hid h.1.1
  have H := Lib.hid h
  clear h
  go_enter Try.func35, Try.ntmps35
  go_wp2
  go_loopw [7] (fun i wr => ∃ (k : Nat), k ≤ n ∧ i = .int .i64 k ∧ Hid (∀ j, j < k → -1 ≤ parL (tdOf ls) j ∧ parL (tdOf ls) j < j) ∧ Hid (Below w.heap.size w wr)) (fun i _ => n - (intOf i).toNat)
  case atStart => exact ⟨0, by omega, rfl, fun j hj => absurd hj (by omega), Below.refl _ _⟩
  case round =>
    obtain ⟨k, hk, rfl, HR, HB⟩ := hrel
    by_cases hlt : k < n
    · obtain ⟨t, b, o, hlk, hok, rfl, c0, c1, c2⟩ := (H.out.ext HB.out).cells hlt
      obtain ⟨_, _, _, hp1, hp2⟩ := hok
      have htd := tdOf_at ls k t hlk
      have HTD : Hid (parL (tdOf ls) k = t.d.parent) := by rw [Hid, parL, htd]
      clear hlk htd
      have hlt' : (k : Int) < (n : Int) := by omega
      by_cases hg1 : t.d.parent < -1
      · have HE : Hid (parentsB (tdOf ls) = false) := by
          rw [Hid, Bool.eq_false_iff]
          intro h
          have := (parentsB_iff _).1 h k (by rw [tdOf_len, HL.out]; exact hlt)
          rw [HTD.out] at this
          omega
        go_wp2
        go_ret
        exact ⟨by rw [HE.out]; rfl, HB.out.alloc HB.out.size _⟩
      · by_cases hg2 : t.d.parent < k
        · have HR2 : Hid (∀ j, j < k + 1 → -1 ≤ parL (tdOf ls) j ∧ parL (tdOf ls) j < j) := fun j hj => by
            by_cases e : j = k
            · subst e; rw [HTD.out]; omega
            · exact HR.out j (by omega)
          go_wp2
          go_roundw
          case rel => exact ⟨k + 1, by omega, by go_num, HR2, HB.out.alloc HB.out.size _⟩
          case measure => simp [intOf]; omega
        · have HE : Hid (parentsB (tdOf ls) = false) := by
            rw [Hid, Bool.eq_false_iff]
            intro h
            have := (parentsB_iff _).1 h k (by rw [tdOf_len, HL.out]; exact hlt)
            rw [HTD.out] at this
            omega
          go_wp2
          go_ret
          exact ⟨by rw [HE.out]; rfl, HB.out.alloc HB.out.size _⟩
    · obtain rfl : k = n := by omega
      have HE : Hid (parentsB (tdOf ls) = true) := (parentsB_iff _).2 fun j hj => HR.out j (by rw [tdOf_len, HL.out] at hj; exact hj)
      go_wp2
      go_ret
      exact ⟨by rw [HE.out]; rfl, HB.out⟩
end

section
open Go.RowKit Go.Shelf

attribute [local go_sem] Oper.semAt_some wide_fn wide_depth wide_fnR wide_depthR
/-! ### a set gone through, wherever its cells lie -/
set_option maxRecDepth 100000 in
set_option maxHeartbeats 1000000 in
theorem each_iterC (f : Nat → Bool) (G S : Nat) : IterI Try.prog 89 #[.pointer (some ⟨G, 0, none⟩)] encN (listS f) (fun W => W.cell? ⟨G, 0, none⟩ = some (.pointer (some ⟨S, 0, none⟩)) ∧ ∀ k, k < 200 → W.cell? ⟨S, k, none⟩ = some (.bool (f k))) := by
  intro l K Kx W hK hKx hInv hY h0
  refine callsIn_of_wp Try.func89 rfl trivial ?_ rfl
  simp only [Try.ntmps89, List.size_toArray, List.length_cons, List.length_nil, Nat.reduceAdd, Nat.reduceSub, Array.replicate_succ, Array.replicate_zero, List.push_toArray, List.append_toArray, List.nil_append, List.cons_append]
  have HY := Lib.hid hY
  have HI := Lib.hid hInv
  have HK0 := Lib.hid hK
  have H0 : Hid (K (restL f 0) W) := by rw [Hid, restL_zero]; exact h0
  have hg0 : W.cell? ⟨G, 0, none⟩ = some (.pointer (some ⟨S, 0, none⟩)) := (hInv _ _ h0).1
  clear hY hInv hK hKx h0
  gi_wp2
  gi_loopw [6] (fun i wr => ∃ k : Nat, i = .int .i64 k ∧ k ≤ 200 ∧ Hid (K (restL f k) wr)) (fun i _ => 200 - (intOf i).toNat)
  case atStart => exact ⟨0, rfl, by omega, H0.out⟩
  case round =>
    obtain ⟨k, rfl, hk, HK⟩ := hrel
    clear hg0
    have hSr := (HI.out _ _ HK.out).2
    have hn : ∀ q, (wr.drewN q).cell? ⟨S, 0, none⟩ = some (.bool (f 0)) := fun q => hSr 0 (by omega)
    have hne : wr.cell? ⟨S, 0, none⟩ = some (.bool (f 0)) := hn 0
    by_cases hlt : k < 200
    · have hc : wr.cell? ⟨S, k, none⟩ = some (.bool (f k)) := hSr k hlt
      have HST := Lib.hid (restL_step f k hlt)
      have hlt' : (k : Int) < 200 := by omega
      clear hSr hn
      by_cases hf : f k = true
      · rw [hf] at hc
        have HR : Hid (restL f k = k :: restL f (k + 1)) := by rw [Hid, HST.out, if_pos hf]
        clear hf HST
        gi_wp2
        refine wide_quiet_lit (by kernel_rfl) (by kernel_rfl) ?_
        repeat (go_big_quiet_step (fail))
        refine wpQuiet_nil ?_
        rintro _ ⟨nq, rfl⟩
        have HKq : Hid (K (restL f k) (wr.drewN nq)) := HK0.out _ _ _ HK.out (ext_drewN (Below.refl _ _) nq)
        obtain ⟨fn, tmps, assign, body, hy, hR⟩ := HY.out (restL f k) k (wr.drewN nq) (by rw [HR.out]; rfl) HKq.out
        unfold encN at hy
        have hT : nxL (restL f k) k = restL f (k + 1) := by rw [HR.out]; rfl
        rw [hT] at hR
        have HR2 := Lib.hid hR
        clear hT hR HKq
        gi_wp2
        refine HR2.out.mono ?_
        rintro e W' (⟨rfl, hJ'⟩ | ⟨rfl, hX'⟩)
        · have HK1 := Lib.hid hJ'
          clear hJ' hy HR2
          gi_wp2
          go_roundw
          case rel => exact ⟨k + 1, by go_num, by omega, HK1.out⟩
          case measure => simp [intOf]; omega
        · have HX := Lib.hid hX'
          clear hX' hy HR2
          gi_wp2
          exact bodyPost_ret (v := .tuple #[]) (by simp [results, Try.results89, go_sem]) rfl ⟨⟨_, rfl⟩, Or.inr HX.out⟩
      · have hf' : f k = false := by simpa using hf
        rw [hf'] at hc
        have HR : Hid (restL f k = restL f (k + 1)) := by rw [Hid, HST.out, if_neg hf]
        clear hf hf' HST
        gi_wp2
        refine wide_quiet_lit (by kernel_rfl) (by kernel_rfl) ?_
        repeat (go_big_quiet_step (fail))
        refine wpQuiet_nil ?_
        rintro _ ⟨nq, rfl⟩
        have HKq : Hid (K (restL f (k + 1)) (wr.drewN nq)) := by rw [← HR.out]; exact HK0.out _ _ _ HK.out (ext_drewN (Below.refl _ _) nq)
        gi_wp2
        go_roundw
        case rel => exact ⟨k + 1, by go_num, by omega, HKq.out⟩
        case measure => simp [intOf]; omega
    · obtain rfl : k = 200 := by omega
      clear hSr hn
      gi_wp2
      go_end0
      exact ⟨⟨_, rfl⟩, Or.inl ⟨_, restL_end f, HK.out⟩⟩
/-! ### tiles of the call's own -/
abbrev bsV (t : TileR) : Value := .slice t.ba t.bn t.bc
structure TilesIn (W : World) (base : Nat) (v : Value) (ls : List TileR) : Prop where
  own : OwnR 53 3 tileC W base v ls
  each : ∀ t ∈ ls, OwnI W base (bsV t) t.d.blocks ∧ I64 t.d.kind ∧ I64 t.d.parent
  sepv : ∀ t ∈ ls, Sep (bsV t) v
  pw : ls.Pairwise fun s t => Sep (bsV s) (bsV t)
section
variable {W W' W3 : World} {base base' : Nat} {v : Value} {ls : List TileR}
theorem TilesIn.grown {row : Option Nat} (h : TilesIn W base v ls) (hg : W.grownBy W' row) (hr : ∀ q, row = some q → q < base ∨ W.heap.size ≤ q) : TilesIn W' base v ls where
  own := h.own.kept hg (by
    cases e : v.ownBlock with
    | none => exact .inl rfl
    | some q => exact .inr fun e2 => by have := h.own.low e; have := hr q e2.symm; omega)
  each := fun t ht => ⟨(h.each t ht).1.kept hg (by
    cases e : (bsV t).ownBlock with
    | none => exact .inl rfl
    | some q => exact .inr fun e2 => by have := (h.each t ht).1.1.lt q e; have := hr q e2.symm; omega), (h.each t ht).2⟩
  sepv := h.sepv
  pw := h.pw
theorem TilesIn.ext (h : TilesIn W base v ls) (hb : Below W.heap.size W W') : TilesIn W' base v ls :=
  h.grown (row := none) ⟨hb.os, hb.tape, hb.output, hb.size, fun k hk _ => hb.block k hk⟩ fun q e => by cases e
theorem TilesIn.mono (h : TilesIn W base v ls) (hb : base' ≤ base) : TilesIn W base' v ls := ⟨h.own.mono hb, fun t ht => ⟨(h.each t ht).1.mono hb, (h.each t ht).2⟩, h.sepv, h.pw⟩
theorem TilesIn.steady {D : Nat} : Steady D (fun W => TilesIn W base v ls) := fun W W' row h hg hr =>
  ⟨(Steady.ownR D base v ls) W W' row h.own hg hr, fun t ht => ⟨(Steady.ownI D base (bsV t) t.d.blocks) W W' row (h.each t ht).1 hg hr, (h.each t ht).2⟩, h.sepv, h.pw⟩
theorem own_le {w : World} {base : Nat} {a : Option Addr} {n c : Nat} {xs : List Int} (h : OwnI w base (.slice a n c) xs) : n ≤ c := by
  rcases h.1.2 with ⟨e, _⟩ | ⟨g, cap, cur, e, _, _, hc, _⟩
  · injection e with _ e1 e2; omega
  · injection e with _ e1 e2; omega
theorem TilesIn.ok {a : Option Addr} {n c : Nat} (h : TilesIn W base (.slice a n c) ls) : TilesOK W a n ls :=
  ⟨h.own.recs tileC_len, fun t ht => ⟨(h.each t ht).1.ints, own_le (h.each t ht).1, (h.each t ht).2⟩⟩
theorem tiles_one (W : World) (B : Nat) (t : TileR) (h : W.heap[B]? = some (.cells (tileC t).toArray 53 (0, 0))) (base : Nat) (hb : base ≤ B) (ho : OwnI W base (bsV t) t.d.blocks) (hk : I64 t.d.kind ∧ I64 t.d.parent) (hn : (bsV t).ownBlock ≠ some B) : TilesIn W base (.slice (some ⟨B, 0, none⟩) 1 1) [t] where
  own := by
    refine ⟨⟨by simp [tileC], .inr ⟨B, 1, (tileC t).toArray, rfl, hb, h, by simp, by simp [maxLen], by simp [tileC], ?_⟩⟩, by simp⟩
    simp [tileC]
  each := fun s hs => by
    have : s = t := by simpa using hs
    subst this
    exact ⟨ho, hk⟩
  sepv := fun s hs g hg e => by
    have : s = t := by simpa using hs
    subst this
    simp only [Value.ownBlock, Option.some.injEq] at e
    subst e
    exact hn hg
  pw := List.pairwise_singleton _ _
/-- one more tile, without blocks, behind -/
theorem TilesIn.add {v' : Value} (h : TilesIn W base v ls) (x : TileR) (hx : x.ba = none) (hx2 : x.bn = 0) (hx3 : x.bc = 0) (hx4 : x.d.blocks = []) (hk : I64 x.d.kind ∧ I64 x.d.parent) (hg : W.grownBy W3 v.ownBlock)
    (ho : W3.ownsRow base 53 3 v' (ls.length + 1) (ls.flatMap tileC ++ tileC x)) (hat : v'.ownBlock = v.ownBlock ∨ ∃ q, v'.ownBlock = some q ∧ W.heap.size ≤ q) (hn : ls.length ≤ 1000) : TilesIn W3 base v' (ls ++ [x]) where
  own := by
    refine ⟨?_, by simp; omega⟩
    rw [List.length_append, List.flatMap_append]
    simpa using ho
  each := fun t ht => by
    rcases List.mem_append.1 ht with ht | ht
    · refine ⟨(h.each t ht).1.kept hg ?_, (h.each t ht).2⟩
      cases e : (bsV t).ownBlock with
      | none => exact .inl rfl
      | some q => exact .inr fun e2 => h.sepv t ht q e e2.symm
    · have : t = x := by simpa using ht
      subst this
      refine ⟨?_, hk⟩
      rw [bsV, hx, hx2, hx3, hx4]
      exact OwnI.nil _ _
  sepv := fun t ht g hg1 hg2 => by
    rcases List.mem_append.1 ht with ht | ht
    · rcases hat with e | ⟨q, e, hq⟩
      · rw [e] at hg2; exact h.sepv t ht g hg1 hg2
      · rw [e] at hg2
        injection hg2 with hg2
        have := ((h.each t ht).1.1.lt g hg1).2
        omega
    · have : t = x := by simpa using ht
      subst this
      rw [bsV, hx] at hg1
      cases hg1
  pw := by
    rw [List.pairwise_append]
    refine ⟨h.pw, List.pairwise_singleton _ _, fun s _ t ht g _ hg2 => ?_⟩
    have : t = x := by simpa using ht
    subst this
    rw [bsV, hx] at hg2
    cases hg2
theorem flat_set3 : ∀ (ls : List TileR) (k : Nat) (t t' : TileR), ls[k]? = some t → t'.d.kind = t.d.kind ∧ t'.d.parent = t.d.parent → (ls.flatMap tileC).set (k * 3 + 2) (bsV t') = (ls.set k t').flatMap tileC
  | x :: ls, 0, t, t', h, he => by
    simp only [List.getElem?_cons_zero, Option.some.injEq] at h
    subst h
    simp [tileC, he.1, he.2]
  | x :: ls, k + 1, t, t', h, he => by
    have ih := flat_set3 ls k t t' (by simpa using h) he
    rw [List.flatMap_cons, List.set_cons_succ, List.flatMap_cons, ← ih]
    have e : (k + 1) * 3 + 2 = (tileC x).length + (k * 3 + 2) := by rw [tileC_len]; omega
    rw [e, List.set_append_right _ _ (by omega)]
    congr 2
    omega
/-- one tile's blocks are turned -/
theorem TilesIn.turn {g n c : Nat} (h : TilesIn W base (.slice (some ⟨g, 0, none⟩) n c) ls) {k : Nat} {t t' : TileR} (hk : ls[k]? = some t) (hg : W.grownBy W3 (bsV t).ownBlock) (ho : OwnI W3 base (bsV t') t'.d.blocks) (he : t'.d.kind = t.d.kind ∧ t'.d.parent = t.d.parent)
    (hat : (bsV t').ownBlock = (bsV t).ownBlock ∨ ∃ q, (bsV t').ownBlock = some q ∧ W.heap.size ≤ q) : TilesIn (W3.setCell ⟨g, k * 3 + 2, none⟩ (bsV t')) base (.slice (some ⟨g, 0, none⟩) n c) (ls.set k t') := by
  have hlt := (List.getElem?_eq_some_iff.1 hk).1
  have htm := List.mem_of_getElem? hk
  have hlen : ls.length = n := by obtain ⟨a, c', e⟩ := h.own.form; injection e with _ e _; exact e.symm
  have hgb := h.own.low (k := g) rfl
  have g2 := grown_setCell W3 g (k * 3 + 2) (bsV t')
  have hne : ∀ s ∈ ls, (bsV s).ownBlock ≠ some g := fun s hs e => h.sepv s hs g e rfl
  -- the others' blocks stay
  have keep : ∀ s, OwnI W base (bsV s) s.d.blocks → Sep (bsV t) (bsV s) → (bsV s).ownBlock ≠ some g → OwnI (W3.setCell ⟨g, k * 3 + 2, none⟩ (bsV t')) base (bsV s) s.d.blocks := fun s hs hsep hng => by
    refine (hs.kept hg ?_).kept g2 ?_
    · cases e : (bsV s).ownBlock with
      | none => exact .inl rfl
      | some q => exact .inr fun e2 => hsep q e2.symm e
    · cases e : (bsV s).ownBlock with
      | none => exact .inl rfl
      | some q => exact .inr fun e2 => hng (e.trans e2)
  have sepT : ∀ s, OwnI W base (bsV s) s.d.blocks → Sep (bsV t) (bsV s) → Sep (bsV t') (bsV s) := fun s hs hsep q e1 e2 => by
    rcases hat with e | ⟨q', e, hq⟩
    · rw [e] at e1; exact hsep q e1 e2
    · rw [e] at e1
      injection e1 with e1
      have := (hs.1.lt q e2).2
      omega
  have sepg : (bsV t').ownBlock ≠ some g := fun e => by
    rcases hat with e1 | ⟨q', e1, hq⟩
    · rw [e1] at e; exact hne t htm e
    · rw [e1] at e; injection e with e; omega
  have hpw : ∀ i s, ls[i]? = some s → i ≠ k → Sep (bsV t) (bsV s) := fun i s hi hik => by
    have hil := (List.getElem?_eq_some_iff.1 hi).1
    have e1 := (List.getElem?_eq_some_iff.1 hi).2
    have e2 := (List.getElem?_eq_some_iff.1 hk).2
    rcases Nat.lt_or_ge i k with hl | hl
    · have := (List.pairwise_iff_getElem.1 h.pw) i k hil hlt hl
      rw [e1, e2] at this
      exact this.symm
    · have := (List.pairwise_iff_getElem.1 h.pw) k i hlt hil (by omega)
      rw [e1, e2] at this
      exact this
  refine ⟨?_, fun s hs => ?_, fun s hs => ?_, ?_⟩
  · have h3 : OwnR 53 3 tileC W3 base (.slice (some ⟨g, 0, none⟩) n c) ls := h.own.kept hg (.inr fun e => hne t htm e.symm)
    have h4 : OwnR 53 3 tileC (W3.setCell ⟨g, k * 3 + 2, none⟩ (bsV t')) base (.slice (some ⟨g, 0, none⟩) n c) (ls.set k t') := by
      refine ⟨?_, by rw [List.length_set]; exact h.own.2⟩
      have h6 := h3.1
      rw [hlen] at h6
      have h5 := (h6.stored (k * 3 + 2) (bsV t')).1
      rw [List.length_set, hlen]
      have e : (ls.flatMap tileC).set (k * 3 + 2) (bsV t') = (ls.set k t').flatMap tileC := flat_set3 ls k t t' hk he
      rw [← e]
      exact h5
    exact h4
  · obtain ⟨i, hi, e⟩ := List.mem_iff_getElem.1 hs
    rw [List.getElem_set] at e
    split at e
    · rename_i hki
      subst e
      refine ⟨ho.kept g2 ?_, by rw [he.1, he.2]; exact (h.each t htm).2⟩
      cases e : (bsV t').ownBlock with
      | none => exact .inl rfl
      | some q => exact .inr fun e2 => sepg (e.trans e2)
    · rename_i hki
      have hi' : i < ls.length := by simpa using hi
      have hsm : s ∈ ls := by rw [← e]; exact List.getElem_mem hi'
      exact ⟨keep s (h.each s hsm).1 (hpw i s (by rw [List.getElem?_eq_getElem hi', e]) (fun e => hki e.symm)) (hne s hsm), (h.each s hsm).2⟩
  · obtain ⟨i, hi, e⟩ := List.mem_iff_getElem.1 hs
    rw [List.getElem_set] at e
    split at e
    · subst e
      intro q e1 e2
      simp only [Value.ownBlock, Option.some.injEq] at e2
      subst e2
      exact sepg e1
    · have hi' : i < ls.length := by simpa using hi
      exact h.sepv s (by rw [← e]; exact List.getElem_mem hi')
  · rw [List.pairwise_iff_getElem]
    intro i j hi hj hij
    have hi' : i < ls.length := by simpa using hi
    have hj' : j < ls.length := by simpa using hj
    rw [List.getElem_set, List.getElem_set]
    by_cases e1 : k = i
    · subst e1
      rw [if_pos rfl, if_neg (by omega)]
      exact sepT _ (h.each _ (List.getElem_mem hj')).1 (hpw j _ (List.getElem?_eq_getElem hj') (by omega))
    · rw [if_neg e1]
      by_cases e2 : k = j
      · subst e2
        rw [if_pos rfl]
        exact (sepT _ (h.each _ (List.getElem_mem hi')).1 (hpw i _ (List.getElem?_eq_getElem hi') (by omega))).symm
      · rw [if_neg e2]
        exact (List.pairwise_iff_getElem.1 h.pw) i j hi' hj' hij
end
end
end Go.Proofs.Ytblhmdhfhaencaa
