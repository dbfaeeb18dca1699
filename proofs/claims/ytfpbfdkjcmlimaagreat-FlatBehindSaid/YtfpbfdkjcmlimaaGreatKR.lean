/-
  maps.Keys of a set of facts as an iterator; slices.Collect of its facts.
-/
import Derived.Test.YtfpbfdkjcmlimaaGreatKQ
import Derived.Test.YtfpbfdkjcmlimaaGreatRangeM
import Derived.OwnWalkIn
namespace Go.Proofs.YtfpbfdkjcmlimaaGreat
set_option linter.unusedSimpArgs false
set_option linter.unusedVariables false
set_option linter.unusedSectionVars false
set_option maxRecDepth 100000
set_option maxHeartbeats 40000000
section
open Go.RowKit Go.Shelf
attribute [local go_sem] Oper.semAt_some wide_fn wide_depth wide_fnR wide_depthR
section
variable {α : Type} {F : Fence} {n : Nat} {P : Program} {t kt et : TypeId} {enc : α → Value} {dec : Value → α} {one : Value} {w : World} {b : Nat} {L : List α} {ops : Array Oper} {rest : List Oper} {o : Oper} {a : Act} {Q : Exit → Act → World → Prop}
theorem wpListIn_rangeM (hg : o.guard = none) (m : Operand) (hop : o.op = Op.range t m) (ht : P.underlying t = some (.map kt et)) (h : SetM enc dec one w b L) (hm : a.eval m = .map (some b))
    (hK : ∀ w', SetI enc dec one w' b w.heap.size L L → Below w.heap.size w w' → w'.heap.size = w.heap.size + 1 → wpListIn F n P ops Q rest (a.put o.dst (.pointer (some ⟨w.heap.size, 0, none⟩))) w') : wpListIn F n P ops Q (o :: rest) a w := by
  refine wpListIn_plain hg fun K' hK' => ?_
  obtain ⟨o', _, hrun, r1⟩ := h.range ht
  unfold Oper.wpIn
  refine ⟨by simp [Oper.about, hop], ?_⟩
  rw [Oper.semAt_plain F _ _ (by rw [hop]; intro c hc'; cases hc')]
  simp [execOp, hop, hm, hrun, Result.andThen]
  exact hK' _ _ (hK _ r1 ((Below.refl _ w).alloc (Nat.le_refl _) _) (by simp))
theorem wpListIn_nextM {r : Nat} {R : List α} (hg : o.guard = none) (it : Operand) (hop : o.op = Op.next it false) (hit : a.eval it = .pointer (some ⟨r, 0, none⟩)) (h : SetI enc dec one w b r L R)
    (hDone : R = [] → wpListIn F n P ops Q rest (a.put o.dst (.tuple #[.bool false])) w)
    (hMore : ∀ x R' w', x ∈ R → (∀ y, y ∈ R' ↔ y ∈ R ∧ y ≠ x) → R'.length < R.length → SetI enc dec one w' b r L R' → w.grownBy w' (some r) → w'.heap.size = w.heap.size →
      (Instr.entry (.pointer (some ⟨r, 0, none⟩))).run P w' = .ok (.tuple #[enc x, one]) w' → wpListIn F n P ops Q rest (a.put o.dst (.tuple #[.bool true, enc x, one])) w') : wpListIn F n P ops Q (o :: rest) a w := by
  refine wpListIn_plain hg fun K' hK' => ?_
  unfold Oper.wpIn
  refine ⟨by simp [Oper.about, hop], ?_⟩
  rw [Oper.semAt_plain F _ _ (by rw [hop]; intro c hc'; cases hc')]
  rcases h.next (P := P) o.type with ⟨h0, hrun⟩ | ⟨x, R', w', hx, hR', hlt, hrun, hSI, hgr, hsz, hen⟩
  · simp [execOp, hop, hit, hrun, Result.andThen]
    exact hK' _ _ (hDone h0)
  · simp [execOp, hop, hit, hrun, Result.andThen]
    exact hK' _ _ (hMore x R' w' hx hR' hlt hSI hgr hsz hen)
end
def encF (x : Fct) : Array Value := #[fctV x]
def okK (L : List Fct) (d : List Fct) (x : Fct) : Prop := x ∈ L ∧ x ∉ d
def nxK (d : List Fct) (x : Fct) : List Fct := d ++ [x]
def finK (L : List Fct) (d : List Fct) : Prop := ∀ y ∈ L, y ∈ d
def IterK (P : Program) (gf : Nat) (lb : Array Value) (L : List Fct) (I : World → Prop) : Prop := IterM P gf lb encF (okK L) nxK [] (finK L) (fun _ W => I W)
theorem IterK.mono {P : Program} {gf : Nat} {lb : Array Value} {L : List Fct} {I I' : World → Prop} (h : IterK P gf lb L I) (hi : ∀ W, I' W → I W) : IterK P gf lb L I' :=
  fun lp K Kx T W hK hKx hInv h1 h2 hY h0 => h lp K Kx T W hK hKx (fun s W hs => hi W (hInv s W hs)) h1 h2 hY h0
theorem SetI.iter {α : Type} {enc : α → Value} {dec : Value → α} {one : Value} {w : World} {b r : Nat} {L R : List α} (h : SetI enc dec one w b r L R) : ∃ o : Obj, w.heap[r]? = some o ∧ isIt o = true := by
  obtain ⟨es, clock, since, seen, c0, _, _, _, _, _, h6, _⟩ := h
  exact ⟨_, h6, rfl⟩
theorem grown_none {W W' : World} (h : Below W.heap.size W W') : W.grownBy W' none := ⟨h.os, h.tape, h.output, h.size, fun k hk _ => h.block k hk⟩
theorem SetM.obj {α : Type} {enc : α → Value} {dec : Value → α} {one : Value} {w : World} {b : Nat} {L : List α} (h : SetM enc dec one w b L) : ∃ o, w.heap[b]? = some o ∧ ∀ W, W.heap[b]? = some o → SetM enc dec one W b L := by
  obtain ⟨es, c, hb, h2⟩ := h
  exact ⟨_, hb, fun W hW => ⟨es, c, hW, h2⟩⟩
theorem keys_iter (b G : Nat) (L : List Fct) (o : Obj) (hS : ∀ W : World, W.heap[b]? = some o → FSet W b L) : IterK Tryz.prog 60 #[.pointer (some ⟨G, 0, none⟩)] L (fun W => W.heap[G]? = some (.cells #[.map (some b)] 59) ∧ W.heap[b]? = some o) := by
  intro l K Kx T W hK hKx hInv hT0 hTg hY h0
  refine callsIn_of_wp Tryz.func60 rfl trivial ?_ rfl
  simp only [Tryz.ntmps60, List.size_toArray, List.length_cons, List.length_nil, Nat.reduceAdd, Nat.reduceSub, Array.replicate_succ, Array.replicate_zero, List.push_toArray, List.append_toArray, List.nil_append, List.cons_append]
  have HY := Lib.hid hY
  have HI := Lib.hid hInv
  have HK0 := Lib.hid hK
  have HT0 := Lib.hid hT0
  have HTG := Lib.hid hTg
  have H0 := Lib.hid h0
  have HSS := Lib.hid hS
  have hg0 : W.cell? ⟨G, 0, none⟩ = some (.map (some b)) := by rw [cell_of_row _ _ _ _ _ _ (hInv _ _ h0).1]; rfl
  have hb0 : W.heap[b]? = some o := (hInv _ _ h0).2
  have HB0 := Lib.hid hb0
  clear hY hInv hK hKx h0 hT0 hTg hS hb0
  gi_wp2_with (
    (refine wpListIn_rangeM rfl _ rfl mapT (HSS.out W HB0.out) rfl ?_
     intro w1 hi hb hz
     have HSI := Lib.hid hi
     have HK1 := Lib.hid (HK0.out _ _ _ none H0.out (grown_none hb) (fun q e => by cases e))
     have HNT : Hid (¬ T w1 W.heap.size) := (fun ht => by
       have h1 := HT0.out _ _ _ H0.out (HTG.out _ _ _ none _ H0.out (grown_none hb) (fun q e => by cases e) ht)
       omega)
     clear hi hb hz hg0))
  obtain ⟨r, hr⟩ : ∃ r, r = W.heap.size := ⟨_, rfl⟩
  rw [← hr] at HSI HNT ⊢
  have HWE : Hid (W.heap.size ≤ r) := by rw [Hid, hr]; exact Nat.le_refl _
  clear hr
  gi_loopw [3] (fun _ wr => ∃ d R, Hid (FIter wr b r L R) ∧ Hid (K d wr) ∧ Hid (∀ y, y ∈ R ↔ y ∈ L ∧ y ∉ d) ∧ Hid (¬ T wr r)) (fun _ wr => wr.rangeLeft b r)
  case atStart => exact ⟨[], L, HSI, HK1, fun y => by simp, HNT⟩
  case round =>
    obtain ⟨d, R, HIr, HK, HM, HNTr⟩ := hrel
    have HLT := Lib.hid (SetI.left HIr.out)
    obtain ⟨io, hio, hit⟩ := HIr.out.iter
    have HIO := Lib.hid hio
    have HIT := Lib.hid hit
    clear hio hit
    gi_wp2_with (
      (refine wpListIn_nextM rfl _ rfl rfl HIr.out (fun h0 => ?_) (fun x R' w2 hx hR' hR hi hg hz hen => ?_)))
    · subst h0
      have HF : Hid (finK L d) := fun y hy => by
        have := (HM.out y)
        simp only [List.not_mem_nil, false_iff, not_and, Classical.not_not] at this
        exact this hy
      clear HM HLT HIr
      gi_wp2
      go_end0
      exact ⟨⟨_, rfl⟩, Or.inl ⟨d, HF.out, HK.out⟩⟩
    · have hrow : ∀ q, some r = some q → W.heap.size ≤ q ∧ ∃ o : Obj, wr.heap[q]? = some o ∧ isIt o = true := fun q e => by injection e with e; subst e; exact ⟨HWE.out, io, HIO.out, HIT.out⟩
      have hk2 : K d w2 := HK0.out _ _ _ _ HK.out hg hrow
      have hn2 : ¬ T w2 r := fun ht => HNTr.out (HTG.out _ _ _ _ _ HK.out hg hrow ht)
      have HR2 := Lib.hid hR
      have HX2 := Lib.hid hx
      have HMR := Lib.hid hR'
      have HI2 := Lib.hid hi
      clear hi hg hz hR hrow HK HIr HIO HIT HNTr hR' hx
      obtain ⟨v, s, n⟩ := x
      have hb3 : Below w2.heap.size w2 (w2.alloc (fctO v s n)) := ext_alloc _ _
      have hk3 : K d (w2.alloc (fctO v s n)) := HK0.out _ _ _ none hk2 (grown_none hb3) (fun q e => by cases e)
      have hn3 : ¬ T (w2.alloc (fctO v s n)) r := fun ht => hn2 (HTG.out _ _ _ none _ hk2 (grown_none hb3) (fun q e => by cases e) ht)
      have HI3 := Lib.hid (HI2.out.ext hb3)
      have hmm := (HM.out (v, s, n)).1 HX2.out
      obtain ⟨fn, tmps, assign, body, hy, hR⟩ := HY.out d (v, s, n) _ hmm hk3
      unfold encF at hy
      have HY3 := Lib.hid hR
      have HN3 := Lib.hid hn3
      have HKK3 := Lib.hid hk3
      clear hR hk2 hn2 hb3 hk3 hn3 HI2 hmm
      gi_wp2
      refine HY3.out.mono ?_
      rintro e W' (⟨rfl, hJ', hT'⟩ | ⟨rfl, hX'⟩)
      · have HKn := Lib.hid hJ'
        have hrb : W'.heap[r]? = (w2.alloc (fctO v s n)).heap[r]? := hT'.2.1 r HI3.out.lt.2.1 HN3.out
        have hbb : W'.heap[b]? = (w2.alloc (fctO v s n)).heap[b]? := by rw [(HI.out _ _ hJ').2, (HI.out _ _ HKK3.out).2]
        have HIn := Lib.hid (HI3.out.of_blocks hbb hrb)
        have HNn : Hid (¬ T W' r) := fun ht => by
          rcases hT'.2.2 r ht with h | h
          · exact HN3.out h
          · have := HI3.out.lt.2.1
            omega
        have HMn : Hid (∀ y, y ∈ R' ↔ y ∈ L ∧ y ∉ nxK d (v, s, n)) := fun y => by
          rw [HMR.out, HM.out]
          simp [nxK, and_assoc]
        clear hJ' hT' hy HY3 HN3 HKK3 hrb hbb HI3 HM HMR
        gi_wp2
        go_roundw
        case rel => exact ⟨_, R', HIn, HKn, HMn, HNn⟩
        case measure => rw [SetI.left HIn.out, HLT.out]; exact HR2.out
      · have HX := Lib.hid hX'
        clear hX' hy HY3
        gi_wp2
        exact bodyPost_ret (v := .tuple #[]) (by simp [results, Tryz.results60, go_sem]) rfl ⟨⟨_, rfl⟩, Or.inr HX.out⟩
theorem keysM_any (b : Nat) (w : World) : Calls Tryz.prog 37 #[.map (some b)] w fun e w' => e = .returned (.func (.func 60) #[] #[.pointer (some ⟨w.heap.size, 0, none⟩)]) ∧ w' = w.alloc (.cells #[.map (some b)] 59) := by
  go_enter Tryz.func37, Tryz.ntmps37
  go_wp2
  go_ret
  exact ⟨rfl, rfl⟩
theorem enter_keys (args : Array Value) (w : World) : (callFunc 60 args).run Tryz.prog w = .ok (.enter 60 args) w := enters_of Tryz.func60 (by kernel_rfl) rfl args w
theorem own_nobook' {w : World} {base : Nat} {e : TypeId} {size : Nat} {v : Value} {n : Nat} {xs : List Value} (h : w.ownsRow base e size v n xs) : ∀ (j : Nat) (o : Obj), v.ownBlock = some j → w.heap[j]? = some o → isBook o = false := by
  intro j o hj ho
  rcases h.2 with ⟨rfl, _⟩ | ⟨g, cap, cur, rfl, _, hh, _⟩
  · cases hj
  · simp only [Value.ownBlock, Option.some.injEq] at hj
    subst hj
    rw [hh] at ho
    cases ho
    rfl
theorem grown_row {w w' : World} {row : Option Nat} (hg : w.grownBy w' row) {k : Nat} {o : Obj} (hk : w.heap[k]? = some o) (hne : row ≠ some k) : w'.heap[k]? = some o :=
  (hg.block k (Array.getElem?_eq_some_iff.1 hk).1 (fun e => hne e.symm)).trans hk
theorem grown_setCell (w : World) (b o : Nat) (u : Value) : w.grownBy (w.setCell ⟨b, o, none⟩ u) (some b) :=
  ⟨rfl, rfl, rfl, by simp, fun k _ hne => Below.heap_setCell _ _ _ _ (fun e => hne (by rw [e]))⟩
def SetPostF (w : World) (L : List Fct) (e : Ending) (w' : World) : Prop := ∃ v d, e = .returned v ∧ OwnF w' w.heap.size v d ∧ d.Nodup ∧ (∀ y, y ∈ d ↔ y ∈ L) ∧ Below w.heap.size w w'
def AJF (w : World) (B base : Nat) (xs : List Fct) (W : World) : Prop :=
  ∃ v, W.heap[B]? = some (.cells #[v] 32 (0, 0)) ∧ OwnF W base v xs ∧ v.ownBlock ≠ some B ∧ Below w.heap.size w W ∧ w.heap.size < W.heap.size
theorem AJF.steady {w : World} {B base : Nat} {xs : List Fct} {D : Nat} (hD : w.heap.size ≤ D) : SteadyM D (AJF w B base xs) := by
  unfold AJF
  exact SteadyM.ex fun v => (SteadyM.block _ _ rfl).and ((SteadyM.ownR _ _ _ _).and ((SteadyM.pure _ _).and ((SteadyM.below (Nat.le_refl _) hD).and (SteadyM.size _ _))))
theorem appendSeqF_any (gf : Nat) (lb : Array Value) (L : List Fct) (w : World) (eg : ∀ args w, (callFunc gf args).run Tryz.prog w = .ok (.enter gf args) w) (hit : IterK Tryz.prog gf lb L (fun W => Below w.heap.size w W)) (hl : L.length ≤ 1000000000000) :
    Calls Tryz.prog 74 #[.slice none 0 0, .func (.func gf) #[] lb] w (SetPostF w L) := by
  refine (callsIn_wide (n := 0)).1 ?_
  refine callsIn_of_wp_marks Tryz.func74 rfl trivial ?_
  simp only [Tryz.ntmps74, List.size_toArray, List.length_cons, List.length_nil, Nat.reduceAdd, Nat.reduceSub, Array.replicate_succ, Array.replicate_zero, List.push_toArray, List.append_toArray, List.nil_append, List.cons_append]
  have HIT := Lib.hid hit
  clear hit
  gi_wp2
  refine range_outerM (ps := #[7]) (gf := gf) (lb := lb) (enc := encF) rfl eg HIT.out (fun _ => rfl)
    (fun d W => Hid (AJF w w.heap.size w.heap.size d W ∧ d.Nodup ∧ ∀ y ∈ d, y ∈ L))
    (fun _ _ => False)
    (fun d x a1 W => ∃ g, a1 = { tmps := #[.slice none 0 0, .func (.func gf) #[] lb, .pointer (some ⟨w.heap.size, 0, none⟩), undef, .slice none 0 0, .pointer (some ⟨g, 0, none⟩), .func (.func gf) #[] lb, fctV x, undef, undef, undef, undef, undef], defers := [] } ∧ W.heap[g]? = some (fctO x.1 x.2.1 x.2.2))
    (fun d => (AJF.steady (by simp)).and ((SteadyM.pure _ _).and (SteadyM.pure _ _))) (fun c => SteadyM.pure _ _) (fun d x a1 => SteadyM.ex fun g => (SteadyM.pure _ _).and (SteadyM.block _ _ rfl)) (fun d W h => by obtain ⟨⟨v, _, _, _, hb, _⟩, _⟩ := h.out; exact hb)
    (TV w.heap.size 32) ?t0 ?tg ?start ?assign ?body ?done ?stop
  case t0 =>
    intro d W k h ht
    obtain ⟨⟨v, hv, ho, _, _, h1⟩, _⟩ := h.out
    rcases ht with rfl | ⟨u, hu, hk⟩
    · exact h1
    · rw [hv] at hu
      simp only [Option.some.injEq, Obj.cells.injEq, Array.mk.injEq, List.cons.injEq, and_true] at hu
      subst hu
      exact (ho.low hk).2
  case tg =>
    rintro W W' row hg hr ⟨d, h⟩ k ht
    obtain ⟨⟨v, hv, _⟩, _⟩ := h.out
    refine ht.ext (hg.block _ (Array.getElem?_eq_some_iff.1 hv).1 fun e => ?_)
    obtain ⟨_, o, ho, hb⟩ := hr _ e.symm
    rw [hv] at ho
    cases ho
    cases hb
  case start => exact ⟨⟨_, heap_alloc_new _ _, OwnR.nil _ _ _ _ _, by simp [Value.ownBlock], (Below.refl _ w).alloc (Nat.le_refl _) _, by simp⟩, List.nodup_nil, by simp⟩
  case assign =>
    rintro lp d ⟨xv, xs, xn⟩ W hok hJ
    unfold encF
    gi_wp2
    obtain ⟨⟨v1, hv1, ho1, hne1, hb1, hlt1⟩, h2⟩ := hJ.out
    have hbW : Below W.heap.size W (W.alloc (fctO xv xs xn)) := ext_alloc _ _
    exact ⟨Keep.ext hbW, ⟨(AJF.steady (Nat.le_refl _)).ext hJ.out.1 hbW, h2⟩, ⟨W.heap.size, rfl, heap_alloc_new _ _⟩, tch_below hlt1 hbW⟩
  case body =>
    rintro lp d ⟨xv, xs, xn⟩ a1 W2 hok hJ ⟨g, rfl, hG⟩
    obtain ⟨⟨v, hv, ho, hne, hb, hlt0⟩, hnd, hsub⟩ := hJ.out
    obtain ⟨av, cv, rfl⟩ := ho.form
    have hc0 : W2.cell? ⟨w.heap.size, 0, none⟩ = some (.slice av d.length cv) := by rw [cell_of_row _ _ _ _ _ _ hv]; rfl
    have hf0 : W2.frozen? ⟨w.heap.size, 0, none⟩ = false := frozen_of_row _ _ _ _ _ hv
    have hg0 : W2.cell? ⟨g, 0, none⟩ = some (.int .i64 xv) := by rw [cell_of_row _ _ _ _ _ _ hG]; rfl
    have hg1 : W2.cell? ⟨g, 1, none⟩ = some (.bool xs) := by rw [cell_of_row _ _ _ _ _ _ hG]; rfl
    have hg2 : W2.cell? ⟨g, 2, none⟩ = some (.int .i64 xn) := by rw [cell_of_row _ _ _ _ _ _ hG]; rfl
    have HO := Lib.hid ho
    have HV := Lib.hid hv
    have HB := Lib.hid hb
    have HNE := Lib.hid hne
    have HOK := Lib.hid hok
    have hlen : d.length ≤ 1000000000000 := Nat.le_trans (nodup_length_le hnd hsub) hl
    have HND := Lib.hid hnd
    have HSUB := Lib.hid hsub
    clear hv ho hb hJ hne hG hok hnd hsub
    gi_wp2_with (
      (gi_at_builtin
       refine listIn_of (by repeat (first | exact noOut_round | refine noOut_then ?_ | refine noOut_block ?_)) _ _ _ rfl ?_
       refine wpList_append1 rfl W2 (.tmp 8) (.tmp 10) 32 36 rfl w.heap.size _ 3 24 Tryz.underlying32 infoF rfl (by omega) (.slice av d.length cv) d.length _ (csF (xv, xs, xn)) rfl HO.out.1 W2.heap.size rfl rfl rfl (by simp [csF, Value.oneCell']) (by simp only [maxLen]; omega) (by omega) (by omega) ?_
       intro g2 cap w2 hown2 hgr2 hat2
       have HO2 := Lib.hid hown2
       have HG2 := Lib.hid hgr2
       have HA2 := Lib.hid hat2
       have hv2 := grown_row hgr2 HV.out HNE.out
       have hc2 : w2.cell? ⟨w.heap.size, 0, none⟩ = some (.slice av d.length cv) := (by rw [cell_of_row _ _ _ _ _ _ hv2]; rfl)
       have hf2 : w2.frozen? ⟨w.heap.size, 0, none⟩ = false := frozen_of_row _ _ _ _ _ hv2
       have hlt2 : w.heap.size < w2.heap.size := (Array.getElem?_eq_some_iff.1 hv2).1
       have HV2 := Lib.hid hv2
       clear hown2 hgr2 hat2 hv2 hc0 hf0))
    go_wp2
    have hb2 : Below w.heap.size w w2 := HB.out.grown HG2.out HB.out.size (fun k e => (HO.out.low e).1)
    have hgne : g2 ≠ w.heap.size := by
      rcases HA2.out with h | h
      · exact fun e => HNE.out (by rw [← h, e])
      · omega
    have hB2 := heap_setCell_same w2 w.heap.size 0 _ _ (.slice (some ⟨g2, 0, none⟩) (d.length + 1) cap) HV2.out
    simp only [List.setIfInBounds_toArray, List.set_cons_zero] at hB2
    refine ⟨(Keep.grown HG2.out (own_nobook' HO.out.1)).trans (Keep.setCell _ _ _), ⟨⟨_, hB2, ?_, by simpa [Value.ownBlock] using hgne, ?_⟩, ?_, ?_⟩, ?_⟩
    · refine OwnR.kept (row := some w.heap.size) (w := w2) ⟨?_, by simp [nxK]; omega⟩ (grown_setCell w2 w.heap.size 0 _) (.inr (by simp [Value.ownBlock]; omega))
      have := HO2.out
      simpa [nxK, List.flatMap_append] using this
    · exact ⟨hb2.setCell (Nat.le_refl _) _, by simpa using hlt2⟩
    · exact List.nodup_append.2 ⟨HND.out, by simp, fun c hc c' hc' e => by
        simp only [List.mem_singleton] at hc'
        subst hc' e
        exact HOK.out.2 hc⟩
    · intro y hy
      rcases List.mem_append.1 hy with hy | hy
      · exact HSUB.out y hy
      · rw [List.mem_singleton] at hy
        subst hy
        exact HOK.out.1
    · refine tch_var HV.out hB2 (by simpa using HG2.out.size) (fun k hk hkB hkv => ?_) (fun k hk => ?_)
      · rw [Below.heap_setCell _ _ _ _ (fun e => hkB e), HG2.out.block k hk (fun e => hkv e.symm)]
      · simp only [Value.ownBlock, Option.some.injEq] at hk
        subst hk
        rcases HA2.out with h | h
        · exact .inl h.symm
        · exact .inr (by omega)
  case done =>
    rintro D d W hD hfin hJ hK
    obtain ⟨⟨v, hv, ho, hne, hb, hlt0⟩, hnd, hsub⟩ := hJ.out
    obtain ⟨av, cv, rfl⟩ := ho.form
    have hc0 : W.cell? ⟨w.heap.size, 0, none⟩ = some (.slice av d.length cv) := by rw [cell_of_row _ _ _ _ _ _ hv]; rfl
    have HO := Lib.hid ho
    have HB := Lib.hid hb
    have HJ := hJ
    have HFIN := Lib.hid hfin
    have HND := Lib.hid hnd
    have HSUB := Lib.hid hsub
    clear hv ho hb hJ hne hfin hnd hsub
    gi_wp2
    obtain ⟨v2, hv2, ho2, _, hb2, _⟩ := (AJF.steady (w := w) (B := w.heap.size) (base := w.heap.size) (xs := d) (D := w.heap.size) (Nat.le_refl _)).put (.deferred none) (l := D) HJ.out.1 (by simp at hD; omega) hK rfl
    refine ⟨by simp, .inl ⟨_, _, rfl, run_takeDeferred hK, ?_⟩⟩
    have ho3 : OwnF (W.putObj D (.deferred none)) w.heap.size (.slice av d.length cv) d := (SteadyM.ownR w.heap.size w.heap.size (.slice av d.length cv) d).put (.deferred none) (l := D) HO.out (by simp at hD; omega) hK rfl
    exact ⟨.slice av d.length cv, by simp [results, Tryz.results74, go_sem], _, d, rfl, ho3, HND.out, fun y => ⟨HSUB.out y, HFIN.out y⟩, hb2⟩
  case stop => rintro D c W hD h; exact h.elim
theorem collectF_any (gf : Nat) (lb : Array Value) (L : List Fct) (w : World) (eg : ∀ args w, (callFunc gf args).run Tryz.prog w = .ok (.enter gf args) w) (hit : IterK Tryz.prog gf lb L (fun W => Below w.heap.size w W)) (hl : L.length ≤ 1000000000000) :
    Calls Tryz.prog 58 #[.func (.func gf) #[] lb] w (SetPostF w L) := by
  have HIT := Lib.hid hit
  have EG := Lib.hid eg
  clear hit eg
  go_enter Tryz.func58, Tryz.ntmps58
  go_wp2_with (go_at_call 74; refine (appendSeqF_any gf lb L w EG.out HIT.out hl).mono ?_; rintro e w' ⟨v, d, rfl, ho, hn, hm, hb⟩; have HO := Lib.hid ho; have HB := Lib.hid hb; have HN := Lib.hid hn; have HM := Lib.hid hm; clear ho hb hn hm)
  go_ret
  exact ⟨_, d, rfl, HO.out, HN.out, HM.out, HB.out⟩
end
end Go.Proofs.YtfpbfdkjcmlimaaGreat
