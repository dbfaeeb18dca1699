/-
  Flat: slices.Backward of events; what a fact asks for ahead of events.
-/
import Derived.Test.YtfpbfdkjcmlimaaGreatFR
import Derived.Test.YtfpbfdkjcmlimaaGreatRound
import Derived.Scope
namespace Go.Proofs.YtfpbfdkjcmlimaaGreat
set_option linter.unusedSimpArgs false
set_option linter.unusedVariables false
set_option linter.unusedSectionVars false
set_option maxRecDepth 100000
set_option maxHeartbeats 40000000
section
open Go.RowKit Go.Shelf
attribute [local go_sem] Oper.semAt_some wide_fn wide_depth wide_fnR wide_depthR
abbrev evC (e : EvD) : List Value := [evV e]
abbrev Evs := Recs 1 evC
theorem evC_len (e : EvD) : (evC e).length = 1 := rfl
theorem evs_cell {w : World} {a : Option Addr} {n : Nat} {es : List EvD} (h : Evs w a n es) {k : Nat} (hk : k < n) : ∃ e b o, es[k]? = some e ∧ a = some ⟨b, o, none⟩ ∧ w.cell? ⟨b, o + k, none⟩ = some (evV e) := by
  have hk' : k < es.length := by rw [h.1]; exact hk
  obtain ⟨e, he⟩ : ∃ e, es[k]? = some e := ⟨es[k], List.getElem?_eq_getElem hk'⟩
  obtain ⟨b, o, ea, hc⟩ := h.2.2 k e he
  have := hc 0 (by omega)
  rw [Nat.mul_one, Nat.add_zero] at this
  exact ⟨e, b, o, he, ea, this⟩
theorem backward_any (a : Option Addr) (n c : Nat) (w : World) : Calls Tryz.prog 42 #[.slice a n c] w fun e w' => e = .returned (.func (.func 64) #[] #[.pointer (some ⟨w.heap.size, 0, none⟩)]) ∧ w.alloc (.cells #[.slice a n c] 64) = w' := by
  go_enter Tryz.func42, Tryz.ntmps42
  go_wp2
  go_ret
  exact ⟨rfl, rfl⟩
def backOK (es : List EvD) (s : Nat) (x : Nat × EvD) : Prop := s + 1 + x.1 = es.length ∧ es[x.1]? = some x.2
theorem back_iter (B : Nat) (a : Option Addr) (n c : Nat) (es : List EvD) (hl : es.length = n) (hn : n ≤ 17592186044416) : Iter Tryz.prog 64 #[.pointer (some ⟨B, 0, none⟩)] (fun x : Nat × EvD => #[.int .i64 (x.1 : Int), evV x.2]) (backOK es) (fun s _ => s + 1) 0 (fun s => s = n) (fun s W => s ≤ n ∧ W.cell? ⟨B, 0, none⟩ = some (.slice a n c) ∧ Evs W a n es) := by
  intro l K Kx W hK hKx hInv hY h0
  refine callsIn_of_wp Tryz.func64 rfl trivial ?_ rfl
  simp only [Tryz.ntmps64, List.size_toArray, List.length_cons, List.length_nil, Nat.reduceAdd, Nat.reduceSub, Array.replicate_succ, Array.replicate_zero, List.push_toArray, List.append_toArray, List.nil_append, List.cons_append]
  have HY := Lib.hid hY
  have HI := Lib.hid hInv
  have HL := Lib.hid hl
  have hc0 := (hInv _ _ h0).2.1
  have H0 := Lib.hid h0
  clear hY hInv hK hKx hl h0
  gi_wp2
  gi_loopw [3] (fun i wr => ∃ s : Nat, s ≤ n ∧ i = .int .i64 ((n : Int) - 1 - s) ∧ Hid (K s wr)) (fun i _ => (intOf i + 1).toNat)
  case atStart => exact ⟨0, by omega, by simp, H0.out⟩
  case round =>
    obtain ⟨s, hs, rfl, HK⟩ := hrel
    obtain ⟨_, hc, hE⟩ := HI.out _ _ HK.out
    by_cases hlt : s < n
    · obtain ⟨k, hk⟩ : ∃ k : Nat, (n : Int) - 1 - s = k := ⟨n - 1 - s, by omega⟩
      have hkn : k < n := by omega
      obtain ⟨e, b, o, he, rfl, hce⟩ := evs_cell hE hkn
      have hok : backOK es s (k, e) := ⟨by rw [HL.out]; omega, he⟩
      obtain ⟨fn, tmps, assign, body, hy, hR⟩ := HY.out s (k, e) wr hok HK.out
      rw [hk]
      have hsk : s + 1 + k = n := by omega
      clear hk hE he hok
      gi_wp2
      refine hR.mono ?_
      rintro e W' (⟨rfl, hJ'⟩ | ⟨rfl, hX'⟩)
      · have HK1 := Lib.hid hJ'
        clear hJ' hy hR
        gi_wp2
        go_roundw
        case rel => exact ⟨s + 1, by omega, by congr 1; omega, HK1.out⟩
        case measure => simp [intOf]
      · have HX := Lib.hid hX'
        clear hX' hy hR
        gi_wp2
        exact bodyPost_ret (v := .tuple #[]) (by simp [results, Tryz.results64, go_sem]) rfl ⟨⟨_, rfl⟩, Or.inr HX.out⟩
    · obtain rfl : s = n := by omega
      have hneg : (s : Int) - 1 - s < 0 := by omega
      gi_wp2
      go_end0
      exact ⟨⟨_, rfl⟩, Or.inl ⟨s, rfl, HK.out⟩⟩
def beforeGo (m : MachD) : List EvD → (Int × Bool × Int) → Int × (Int × Bool × Int)
  | [], x => (3, x)
  | e :: es, x => if (aheadV m e x).1 = 3 then beforeGo m es (aheadV m e x).2 else ((aheadV m e x).1, (0, false, 0))
def beforeV (m : MachD) (es : List EvD) (x : Int × Bool × Int) : Int × (Int × Bool × Int) := beforeGo m es.reverse x
abbrev factO (x : Int × Bool × Int) : Obj := .cells #[.int .i64 x.1, .bool x.2.1, .int .i64 x.2.2] 36
def BJ (w : World) (mo : Obj) (v : Value) (x : Int × Bool × Int) (k : Int) (y : Int × Bool × Int) (W : World) : Prop :=
  W.heap[w.heap.size]? = some mo ∧ W.heap[w.heap.size + 1]? = some (factO x) ∧ W.heap[w.heap.size + 1 + 1]? = some (.cells #[.int .i64 k] 45 (0, 0)) ∧ W.heap[w.heap.size + 1 + 1 + 1]? = some (factO y) ∧ W.heap[w.heap.size + 1 + 1 + 1 + 1]? = some (.cells #[v] 64 (0, 0)) ∧ Below w.heap.size w W
theorem BJ.steady {w : World} {ms : Array Value} {mt : TypeId} {v : Value} {x : Int × Bool × Int} {k : Int} {y : Int × Bool × Int} {B : Nat} (hB : w.heap.size ≤ B) : Steady B (BJ w (.cells ms mt (0, 0)) v x k y) := by
  unfold BJ
  exact (Steady.block _ _ rfl).and ((Steady.block _ _ rfl).and ((Steady.block _ _ rfl).and ((Steady.block _ _ rfl).and ((Steady.block _ _ rfl).and (Steady.below (Nat.le_refl _) hB)))))
theorem row_set3 {W : World} {p : Nat} {x y : Int × Bool × Int} (h : W.heap[p]? = some (factO x)) : (((W.setCell ⟨p, 0, none⟩ (.int .i64 y.1)).setCell ⟨p, 1, none⟩ (.bool y.2.1)).setCell ⟨p, 2, none⟩ (.int .i64 y.2.2)).heap[p]? = some (factO y) := by
  have h1 := heap_setCell_same W p 0 _ _ (.int .i64 y.1) h
  have h2 := heap_setCell_same _ p 1 _ _ (.bool y.2.1) h1
  have h3 := heap_setCell_same _ p 2 _ _ (.int .i64 y.2.2) h2
  exact h3
theorem other3 {W : World} {p k : Nat} {o : Obj} {u v z : Value} (h : W.heap[k]? = some o) (hk : k ≠ p) : (((W.setCell ⟨p, 0, none⟩ u).setCell ⟨p, 1, none⟩ v).setCell ⟨p, 2, none⟩ z).heap[k]? = some o :=
  (heap_setCell_other _ _ _ _ hk).trans ((heap_setCell_other _ _ _ _ hk).trans ((heap_setCell_other _ _ _ _ hk).trans h))
theorem below3 {W w : World} {p : Nat} {u v z : Value} (h : Below w.heap.size w W) (hp : w.heap.size ≤ p) : Below w.heap.size w (((W.setCell ⟨p, 0, none⟩ u).setCell ⟨p, 1, none⟩ v).setCell ⟨p, 2, none⟩ z) := ((h.setCell hp _).setCell hp _).setCell hp _
theorem BJ.setX {w : World} {mo : Obj} {v : Value} {x : Int × Bool × Int} {k : Int} {y x' : Int × Bool × Int} {W : World} (h : BJ w mo v x k y W) : BJ w mo v x' k y (((W.setCell ⟨w.heap.size + 1, 0, none⟩ (.int .i64 x'.1)).setCell ⟨w.heap.size + 1, 1, none⟩ (.bool x'.2.1)).setCell ⟨w.heap.size + 1, 2, none⟩ (.int .i64 x'.2.2)) := by
  obtain ⟨h1, h2, h3, h4, h5, h6⟩ := h
  exact ⟨other3 h1 (by omega), row_set3 h2, other3 h3 (by omega), other3 h4 (by omega), other3 h5 (by omega), below3 h6 (by omega)⟩
theorem BJ.setY {w : World} {mo : Obj} {v : Value} {x : Int × Bool × Int} {k : Int} {y y' : Int × Bool × Int} {W : World} (h : BJ w mo v x k y W) : BJ w mo v x k y' (((W.setCell ⟨w.heap.size + 1 + 1 + 1, 0, none⟩ (.int .i64 y'.1)).setCell ⟨w.heap.size + 1 + 1 + 1, 1, none⟩ (.bool y'.2.1)).setCell ⟨w.heap.size + 1 + 1 + 1, 2, none⟩ (.int .i64 y'.2.2)) := by
  obtain ⟨h1, h2, h3, h4, h5, h6⟩ := h
  exact ⟨other3 h1 (by omega), other3 h2 (by omega), other3 h3 (by omega), row_set3 h4, other3 h5 (by omega), below3 h6 (by omega)⟩
theorem BJ.setK {w : World} {mo : Obj} {v : Value} {x : Int × Bool × Int} {k k' : Int} {y : Int × Bool × Int} {W : World} (h : BJ w mo v x k y W) : BJ w mo v x k' y (W.setCell ⟨w.heap.size + 1 + 1, 0, none⟩ (.int .i64 k')) := by
  obtain ⟨h1, h2, h3, h4, h5, h6⟩ := h
  exact ⟨(heap_setCell_other _ _ _ _ (by simp; omega)).trans h1, (heap_setCell_other _ _ _ _ (by simp)).trans h2, heap_setCell_same W _ 0 _ _ _ h3, (heap_setCell_other _ _ _ _ (by simp)).trans h4, (heap_setCell_other _ _ _ _ (by simp; omega)).trans h5, h6.setCell (by simp; omega) _⟩
theorem BJ.ext {w : World} {ms : Array Value} {mt : TypeId} {v : Value} {x : Int × Bool × Int} {k : Int} {y : Int × Bool × Int} {W W' : World} (h : BJ w (.cells ms mt (0, 0)) v x k y W) (hb : Below W.heap.size W W') : BJ w (.cells ms mt (0, 0)) v x k y W' := (BJ.steady (Nat.le_refl _)).ext h hb
theorem ahead_ok {w : World} {m : MachD} {e : EvD} {x : Int × Bool × Int} (he : EvOK w e) (hx : FactOK x) : FactOK (aheadV m e x).2 := by
  cases e with
  | copied d a =>
    unfold aheadV
    by_cases h : x.1 = d
    · simp only [if_pos h]; exact ⟨he.2, hx.2⟩
    · simp only [if_neg h]; exact hx
  | inserted f t =>
    unfold aheadV
    cases h : sameLoc x.2 t with
    | true => simp only [h, if_true]; exact ⟨hx.1, he.1⟩
    | false => simp only [h, Bool.false_eq_true, if_false]; exact hx
  | done s t l => exact hx
  | ended => exact hx
theorem back_drop (es : List EvD) (s k : Nat) (e : EvD) (h1 : s + 1 + k = es.length) (h2 : es[k]? = some e) : es.reverse.drop s = e :: es.reverse.drop (s + 1) := by
  have hs : s < es.reverse.length := by simp; omega
  rw [List.drop_eq_getElem_cons hs]
  congr 1
  rw [List.getElem_reverse]
  have hk := (List.getElem?_eq_some_iff.1 h2).1
  rw [List.getElem?_eq_getElem hk, Option.some.injEq] at h2
  rw [← h2]
  congr 1
  omega
theorem before_any (m : MachD) (a1 a2 : Option Addr) (n1 c1 n2 c2 : Nat) (a : Option Addr) (n c : Nat) (es : List EvD) (x : Int × Bool × Int) (w : World) (hm : MachOK w m a1 n1 c1 a2 n2 c2) (he : Evs w a n es) (heo : ∀ e ∈ es, EvOK w e) (hx : FactOK x) :
    Calls Tryz.prog 18 #[machV m a1 n1 c1 a2 n2 c2, .slice a n c, factV x] w (AskPost w (beforeV m es x)) := by
  refine (callsIn_wide (n := 0)).1 ?_
  refine callsIn_of_wp_marks Tryz.func18 rfl trivial ?_
  simp only [Tryz.ntmps18, List.size_toArray, List.length_cons, List.length_nil, Nat.reduceAdd, Nat.reduceSub, Array.replicate_succ, Array.replicate_zero, List.push_toArray, List.append_toArray, List.nil_append, List.cons_append]
  have HM := Lib.hid hm
  have HE := Lib.hid he
  have HEO := Lib.hid heo
  have HL := Lib.hid he.1
  have hn := he.2.1
  have HX := Lib.hid hx
  clear hm he heo hx
  gi_wp2_with (gi_at_call 42; refine (callsIn_wide.2 (backward_any _ _ _ _)).mono ?_; rintro e w' ⟨rfl, rfl⟩)
  have H0 : Hid (BJ w (machO m a1 n1 c1 a2 n2 c2) (.slice a n c) x 0 (0, false, 0) (((((w.alloc (machO m a1 n1 c1 a2 n2 c2)).alloc (factO x)).alloc (.cells #[.int .i64 0] 45)).alloc (factO (0, false, 0))).alloc (.cells #[.slice a n c] 64))) := by
    obtain ⟨b1, b2, b3, b4⟩ := box4 w (machO m a1 n1 c1 a2 n2 c2) (factO x) (.cells #[.int .i64 0] 45) (factO (0, false, 0))
    have b5 := heap_alloc_new ((((w.alloc (machO m a1 n1 c1 a2 n2 c2)).alloc (factO x)).alloc (.cells #[.int .i64 0] 45)).alloc (factO (0, false, 0))) (.cells #[.slice a n c] 64)
    simp only [World.size_alloc] at b5
    exact ⟨block_ext (ext_alloc _ _) b1, block_ext (ext_alloc _ _) b2, block_ext (ext_alloc _ _) b3, block_ext (ext_alloc _ _) b4, b5, ext_trans (ext_trans (ext_trans (ext_trans (ext_alloc _ _) (ext_alloc _ _)) (ext_alloc _ _)) (ext_alloc _ _)) (ext_alloc _ _)⟩
  obtain ⟨r, hr⟩ : ∃ r, beforeV m es x = r := ⟨_, rfl⟩
  have HBV := Lib.hid hr
  rw [hr]
  clear hr
  refine range_outer (ps := #[14, 15]) (gf := 64) (lb := #[.pointer (some ⟨w.heap.size + 1 + 1 + 1 + 1, 0, none⟩)]) rfl (enters_of Tryz.func64 (by kernel_rfl) rfl) (back_iter (w.heap.size + 1 + 1 + 1 + 1) a n c es HL.out hn) (fun _ => rfl)
    (fun s W => s ≤ n ∧ Hid (∃ xs, FactOK xs ∧ beforeGo m (es.reverse.drop s) xs = r ∧ BJ w (machO m a1 n1 c1 a2 n2 c2) (.slice a n c) xs 0 (0, false, 0) W))
    (fun c' W => Hid (c' = .ret ∧ ∃ y, BJ w (machO m a1 n1 c1 a2 n2 c2) (.slice a n c) y r.1 r.2 W))
    (fun s x' a1' W => Hid (a1' = { tmps := #[machV m a1 n1 c1 a2 n2 c2, .slice a n c, factV x, .pointer (some ⟨w.heap.size, 0, none⟩), undef, .pointer (some ⟨w.heap.size + 1, 0, none⟩), .pointer (some ⟨w.heap.size + 1 + 1, 0, none⟩), .pointer (some ⟨w.heap.size + 1 + 1 + 1, 0, none⟩), undef,
      evV x'.2, undef, undef, .slice a n c, .func (.func 64) #[] #[.pointer (some ⟨w.heap.size + 1 + 1 + 1 + 1, 0, none⟩)], .int .i64 (x'.1 : Int), evV x'.2, undef, undef, undef, undef, undef, undef, undef, undef, undef, undef, undef, undef, undef], defers := [] }))
    (fun s => (Steady.pure _ _).and (Steady.ex fun xs => (Steady.pure _ _).and ((Steady.pure _ _).and (BJ.steady (by simp; omega))))) (fun c => (Steady.pure _ _).and (Steady.ex fun y => BJ.steady (by simp; omega))) (fun _ _ _ => Steady.pure _ _) ?inv ⟨by omega, ⟨x, HX.out, by rw [List.drop_zero]; exact HBV.out, H0.out⟩⟩ ?assign ?body ?done ?stop
  case inv =>
    rintro s W ⟨h1, h2⟩
    obtain ⟨xs, _, _, hB⟩ := h2.out
    exact ⟨h1, by rw [cell_of_row _ _ _ _ _ _ hB.2.2.2.2.1]; rfl, HE.out.ext evC_len hB.2.2.2.2.2⟩
  case assign =>
    rintro l s x' W hok ⟨h1, h2⟩
    gi_wp2
    exact ⟨Keep.refl _, ⟨h1, h2⟩, trivial⟩
  case body =>
    rintro l s x' a1' W hok ⟨h1, h2⟩ ha
    obtain rfl := ha.out
    clear ha
    obtain ⟨xs, hxo, hgo, hB⟩ := h2.out
    obtain ⟨k, ev⟩ := x'
    obtain ⟨hk1, hk2⟩ := hok
    dsimp only at hk1 hk2 ⊢
    rw [back_drop es s k ev hk1 hk2, beforeGo] at hgo
    have hnx : s + 1 ≤ n := by have := HL.out; omega
    have HEV := Lib.hid (HEO.out ev (List.mem_of_getElem? hk2))
    obtain ⟨bM, bX, bK, bY, bL, bW⟩ := id hB
    have ca := (ahead_any m a1 a2 n1 c1 n2 c2 ev xs W (HM.out.ext bW) (HEV.out.ext bW) hxo)
    have HCA := Lib.hid ca
    have x0 : W.cell? ⟨w.heap.size, 0, none⟩ = some (.int .i64 m.regs) := by rw [cell_of_row _ _ _ _ _ _ bM]; rfl
    have x1 : W.cell? ⟨w.heap.size, 1, none⟩ = some (.slice a1 n1 c1) := by rw [cell_of_row _ _ _ _ _ _ bM]; rfl
    have x2 : W.cell? ⟨w.heap.size, 2, none⟩ = some (.int .i64 m.ret) := by rw [cell_of_row _ _ _ _ _ _ bM]; rfl
    have x3 : W.cell? ⟨w.heap.size, 3, none⟩ = some (.slice a2 n2 c2) := by rw [cell_of_row _ _ _ _ _ _ bM]; rfl
    have y0 : W.cell? ⟨w.heap.size + 1, 0, none⟩ = some (.int .i64 xs.1) := by rw [cell_of_row _ _ _ _ _ _ bX]; rfl
    have y1 : W.cell? ⟨w.heap.size + 1, 1, none⟩ = some (.bool xs.2.1) := by rw [cell_of_row _ _ _ _ _ _ bX]; rfl
    have y2 : W.cell? ⟨w.heap.size + 1, 2, none⟩ = some (.int .i64 xs.2.2) := by rw [cell_of_row _ _ _ _ _ _ bX]; rfl
    have HB := Lib.hid hB
    have HGO := Lib.hid hgo
    have HXO := Lib.hid hxo
    clear hB hgo hxo bM bX bK bY bL bW ca h2 hk1 hk2
    generalize hrr : aheadV m ev xs = rr at HCA HGO
    have HRR := Lib.hid hrr
    clear hrr
    gi_wp2_with (gi_at_call 43; refine (CallsIn.inRound _ (callsIn_wide.2 HCA.out)).mono ?_; rintro e w1 ⟨rfl, hb1⟩; have HB1 := Lib.hid (BJ.steady (Nat.le_refl _) |>.ext HB.out hb1); have HBW := Lib.hid hb1; clear hb1; obtain ⟨g1, g2, g3, g4, g5, g6⟩ := HB1.out; have u0 : w1.cell? ⟨w.heap.size + 1, 0, none⟩ = some (.int .i64 xs.1) := (by rw [cell_of_row _ _ _ _ _ _ g2]; rfl); have uf0 : w1.frozen? ⟨w.heap.size + 1, 0, none⟩ = false := frozen_of_row _ _ _ _ _ g2; have u1 : w1.cell? ⟨w.heap.size + 1, 1, none⟩ = some (.bool xs.2.1) := (by rw [cell_of_row _ _ _ _ _ _ g2]; rfl); have uf1 : w1.frozen? ⟨w.heap.size + 1, 1, none⟩ = false := frozen_of_row _ _ _ _ _ g2; have u2 : w1.cell? ⟨w.heap.size + 1, 2, none⟩ = some (.int .i64 xs.2.2) := (by rw [cell_of_row _ _ _ _ _ _ g2]; rfl); have uf2 : w1.frozen? ⟨w.heap.size + 1, 2, none⟩ = false := frozen_of_row _ _ _ _ _ g2; have ul : w.heap.size + 1 < w1.heap.size := (Array.getElem?_eq_some_iff.1 g2).1; have v0 : w1.cell? ⟨w.heap.size + 1 + 1, 0, none⟩ = some (.int .i64 0) := (by rw [cell_of_row _ _ _ _ _ _ g3]; rfl); have vf0 : w1.frozen? ⟨w.heap.size + 1 + 1, 0, none⟩ = false := frozen_of_row _ _ _ _ _ g3; have vl : w.heap.size + 1 + 1 < w1.heap.size := (Array.getElem?_eq_some_iff.1 g3).1; have z0 : w1.cell? ⟨w.heap.size + 1 + 1 + 1, 0, none⟩ = some (.int .i64 0) := (by rw [cell_of_row _ _ _ _ _ _ g4]; rfl); have zf0 : w1.frozen? ⟨w.heap.size + 1 + 1 + 1, 0, none⟩ = false := frozen_of_row _ _ _ _ _ g4; have z1 : w1.cell? ⟨w.heap.size + 1 + 1 + 1, 1, none⟩ = some (.bool false) := (by rw [cell_of_row _ _ _ _ _ _ g4]; rfl); have zf1 : w1.frozen? ⟨w.heap.size + 1 + 1 + 1, 1, none⟩ = false := frozen_of_row _ _ _ _ _ g4; have z2 : w1.cell? ⟨w.heap.size + 1 + 1 + 1, 2, none⟩ = some (.int .i64 0) := (by rw [cell_of_row _ _ _ _ _ _ g4]; rfl); have zf2 : w1.frozen? ⟨w.heap.size + 1 + 1 + 1, 2, none⟩ = false := frozen_of_row _ _ _ _ _ g4; have zl : w.heap.size + 1 + 1 + 1 < w1.heap.size := (Array.getElem?_eq_some_iff.1 g4).1; clear g1 g2 g3 g4 g5 g6)
    · have hne : ¬ rr.1 = 3 := by go_light; simp_all
      have hg := HGO.out
      rw [if_neg hne] at hg
      refine ⟨?_, rfl, xs, ?_⟩
      · exact ((((((Keep.ext HBW.out).trans (Keep.setCell _ _ _)).trans (Keep.setCell _ _ _)).trans (Keep.setCell _ _ _)).trans (Keep.setCell _ _ _)).trans (Keep.alloc _ _))
      · rw [← hg]
        exact BJ.ext (BJ.setY (y' := (0, false, 0)) (BJ.setK HB1.out)) (ext_alloc _ _)
    · have hne : rr.1 = 3 := by go_light; simp_all
      have hg := HGO.out
      rw [if_pos hne] at hg
      refine ⟨?_, hnx, rr.2, ?_, hg, ?_⟩
      · exact (((((Keep.ext HBW.out).trans (Keep.setCell _ _ _)).trans (Keep.setCell _ _ _)).trans (Keep.setCell _ _ _)).trans (Keep.alloc _ _))
      · rw [← HRR.out]; exact ahead_ok HEV.out HXO.out
      · exact BJ.ext (BJ.setX HB1.out) (ext_alloc _ _)
  case done =>
    rintro D s W hD rfl ⟨h1, h2⟩ hK
    obtain ⟨xs, hxo, hgo, hB⟩ := h2.out
    rw [List.drop_of_length_le (by rw [List.length_reverse, HL.out]; omega), beforeGo] at hgo
    subst hgo
    have u0 : W.cell? ⟨w.heap.size + 1, 0, none⟩ = some (.int .i64 xs.1) := by rw [cell_of_row _ _ _ _ _ _ hB.2.1]; rfl
    have uf0 : W.frozen? ⟨w.heap.size + 1, 0, none⟩ = false := frozen_of_row _ _ _ _ _ hB.2.1
    have u1 : W.cell? ⟨w.heap.size + 1, 1, none⟩ = some (.bool xs.2.1) := by rw [cell_of_row _ _ _ _ _ _ hB.2.1]; rfl
    have uf1 : W.frozen? ⟨w.heap.size + 1, 1, none⟩ = false := frozen_of_row _ _ _ _ _ hB.2.1
    have u2 : W.cell? ⟨w.heap.size + 1, 2, none⟩ = some (.int .i64 xs.2.2) := by rw [cell_of_row _ _ _ _ _ _ hB.2.1]; rfl
    have uf2 : W.frozen? ⟨w.heap.size + 1, 2, none⟩ = false := frozen_of_row _ _ _ _ _ hB.2.1
    have v0 : W.cell? ⟨w.heap.size + 1 + 1, 0, none⟩ = some (.int .i64 0) := by rw [cell_of_row _ _ _ _ _ _ hB.2.2.1]; rfl
    have vf0 : W.frozen? ⟨w.heap.size + 1 + 1, 0, none⟩ = false := frozen_of_row _ _ _ _ _ hB.2.2.1
    have z0 : W.cell? ⟨w.heap.size + 1 + 1 + 1, 0, none⟩ = some (.int .i64 0) := by rw [cell_of_row _ _ _ _ _ _ hB.2.2.2.1]; rfl
    have zf0 : W.frozen? ⟨w.heap.size + 1 + 1 + 1, 0, none⟩ = false := frozen_of_row _ _ _ _ _ hB.2.2.2.1
    have z1 : W.cell? ⟨w.heap.size + 1 + 1 + 1, 1, none⟩ = some (.bool false) := by rw [cell_of_row _ _ _ _ _ _ hB.2.2.2.1]; rfl
    have zf1 : W.frozen? ⟨w.heap.size + 1 + 1 + 1, 1, none⟩ = false := frozen_of_row _ _ _ _ _ hB.2.2.2.1
    have z2 : W.cell? ⟨w.heap.size + 1 + 1 + 1, 2, none⟩ = some (.int .i64 0) := by rw [cell_of_row _ _ _ _ _ _ hB.2.2.2.1]; rfl
    have zf2 : W.frozen? ⟨w.heap.size + 1 + 1 + 1, 2, none⟩ = false := frozen_of_row _ _ _ _ _ hB.2.2.2.1
    have HB := Lib.hid hB
    have HK := Lib.hid hK
    have HD := Lib.hid hD
    clear hB hK hD h2 hxo
    gi_wp2
    refine wpIn_wide.2 ?_
    go_region
    have hD' : w.heap.size + 1 + 1 + 1 + 1 + 1 ≤ D := by have := HD.out; simpa using this
    have hb1 := BJ.setY (y' := xs) (BJ.setK (k' := 3) HB.out)
    have hd1 := other3 (p := w.heap.size + 1 + 1 + 1) (u := .int .i64 xs.1) (v := .bool xs.2.1) (z := .int .i64 xs.2.2) ((heap_setCell_other W ⟨w.heap.size + 1 + 1, 0, none⟩ D (.int .i64 3) (by show D ≠ w.heap.size + 1 + 1; omega)).trans HK.out) (by omega)
    have HB1 : Hid (BJ w (machO m a1 n1 c1 a2 n2 c2) (.slice a s c) xs 3 xs (((((W.setCell ⟨w.heap.size + 1 + 1, 0, none⟩ (.int .i64 3)).setCell ⟨w.heap.size + 1 + 1 + 1, 0, none⟩ (.int .i64 xs.1)).setCell ⟨w.heap.size + 1 + 1 + 1, 1, none⟩ (.bool xs.2.1)).setCell ⟨w.heap.size + 1 + 1 + 1, 2, none⟩ (.int .i64 xs.2.2)).drew)) := BJ.ext hb1 (ext_drewN (Below.refl _ _) 1)
    have HD1 : Hid ((((((W.setCell ⟨w.heap.size + 1 + 1, 0, none⟩ (.int .i64 3)).setCell ⟨w.heap.size + 1 + 1 + 1, 0, none⟩ (.int .i64 xs.1)).setCell ⟨w.heap.size + 1 + 1 + 1, 1, none⟩ (.bool xs.2.1)).setCell ⟨w.heap.size + 1 + 1 + 1, 2, none⟩ (.int .i64 xs.2.2)).drew).heap[D]? = some (.deferred (some []))) := hd1
    clear hb1 hd1
    generalize (((((W.setCell ⟨w.heap.size + 1 + 1, 0, none⟩ (.int .i64 3)).setCell ⟨w.heap.size + 1 + 1 + 1, 0, none⟩ (.int .i64 xs.1)).setCell ⟨w.heap.size + 1 + 1 + 1, 1, none⟩ (.bool xs.2.1)).setCell ⟨w.heap.size + 1 + 1 + 1, 2, none⟩ (.int .i64 xs.2.2)).drew) = W5 at *
    gi_wp2
    have hL2 : BJ w (machO m a1 n1 c1 a2 n2 c2) (.slice a s c) xs 3 xs (W5.putObj D (.deferred none)) := (BJ.steady (Nat.le_refl _)).put _ HB1.out (by omega) HD1.out rfl
    have k0 : (W5.putObj D (.deferred none)).cell? ⟨w.heap.size + 1 + 1, 0, none⟩ = some (.int .i64 3) := by rw [cell_of_row _ _ _ _ _ _ hL2.2.2.1]; rfl
    have z0' : (W5.putObj D (.deferred none)).cell? ⟨w.heap.size + 1 + 1 + 1, 0, none⟩ = some (.int .i64 xs.1) := by rw [cell_of_row _ _ _ _ _ _ hL2.2.2.2.1]; rfl
    have z1' : (W5.putObj D (.deferred none)).cell? ⟨w.heap.size + 1 + 1 + 1, 1, none⟩ = some (.bool xs.2.1) := by rw [cell_of_row _ _ _ _ _ _ hL2.2.2.2.1]; rfl
    have z2' : (W5.putObj D (.deferred none)).cell? ⟨w.heap.size + 1 + 1 + 1, 2, none⟩ = some (.int .i64 xs.2.2) := by rw [cell_of_row _ _ _ _ _ _ hL2.2.2.2.1]; rfl
    refine ⟨by simp, .inl ⟨_, _, rfl, run_takeDeferred HD1.out, ?_⟩⟩
    exact ⟨.tuple #[.int .i64 3, factV xs], by simp [results, Tryz.results18, go_sem, k0, z0', z1', z2'], by rw [HBV.out], hL2.2.2.2.2.2⟩
  case stop =>
    rintro D c' W hD hx hK
    obtain ⟨rfl, y, hB⟩ := hx.out
    have hL2 : BJ w (machO m a1 n1 c1 a2 n2 c2) (.slice a n c) y r.1 r.2 (W.putObj D (.deferred none)) := (BJ.steady (Nat.le_refl _)).put _ hB (by simp at hD; omega) hK rfl
    have k0 : (W.putObj D (.deferred none)).cell? ⟨w.heap.size + 1 + 1, 0, none⟩ = some (.int .i64 r.1) := by rw [cell_of_row _ _ _ _ _ _ hL2.2.2.1]; rfl
    have z0 : (W.putObj D (.deferred none)).cell? ⟨w.heap.size + 1 + 1 + 1, 0, none⟩ = some (.int .i64 r.2.1) := by rw [cell_of_row _ _ _ _ _ _ hL2.2.2.2.1]; rfl
    have z1 : (W.putObj D (.deferred none)).cell? ⟨w.heap.size + 1 + 1 + 1, 1, none⟩ = some (.bool r.2.2.1) := by rw [cell_of_row _ _ _ _ _ _ hL2.2.2.2.1]; rfl
    have z2 : (W.putObj D (.deferred none)).cell? ⟨w.heap.size + 1 + 1 + 1, 2, none⟩ = some (.int .i64 r.2.2.2) := by rw [cell_of_row _ _ _ _ _ _ hL2.2.2.2.1]; rfl
    gi_wp2
    refine ⟨by simp, .inl ⟨_, _, rfl, run_takeDeferred hK, ?_⟩⟩
    exact ⟨.tuple #[.int .i64 r.1, factV r.2], by simp [results, Tryz.results18, go_sem, k0, z0, z1, z2], rfl, hL2.2.2.2.2.2⟩
end

section
def kStep (m : MachD) (e : EvD) (K : Int × Bool × Int → Bool) (x : Int × Bool × Int) : Bool :=
  match e with
  | .copied dst a => if x.1 = dst then K (a, x.2) else K x
  | .inserted f t => if sameLoc x.2 t then K (x.1, f) else K x
  | .done s t lost => if ownB s.d x && firstIs (writesL m t.d) x.2 then true else if ownB s.d x || hasLoc (writesL m t.d) x.2 then false else if lost && lostAt m x.2 then false else K x
  | .ended => K x
def knownV (m : MachD) (es : List EvD) (K : Int × Bool × Int → Bool) : Int × Bool × Int → Bool := es.foldl (fun K e => kStep m e K) K
def told (r : Int × (Int × Bool × Int)) (K : Int × Bool × Int → Bool) : Bool := if r.1 = 3 then K r.2 else decide (r.1 = 1)
theorem step_told (m : MachD) (e : EvD) (K : Int × Bool × Int → Bool) (x : Int × Bool × Int) : kStep m e K x = told (aheadV m e x) K := by
  cases e with
  | copied dst a =>
    simp only [kStep, aheadV, told, if_true]
    split <;> rfl
  | inserted f t =>
    simp only [kStep, aheadV, told, if_true]
    split <;> rfl
  | done s t lost =>
    simp only [kStep, aheadV, told, askV]
    split
    · simp
    · split
      · simp
      · split
        · simp
        · simp
  | ended => simp [kStep, aheadV, told]
theorem go_told (m : MachD) (K : Int × Bool × Int → Bool) : ∀ (l : List EvD) (x : Int × Bool × Int), l.foldr (fun e K => kStep m e K) K x = told (beforeGo m l x) K
  | [], x => by simp [beforeGo, told]
  | e :: l, x => by
    rw [List.foldr_cons, step_told, beforeGo]
    unfold told
    split
    · rw [go_told m K l]; rfl
    · rename_i h
      simp
theorem known_told (m : MachD) (es : List EvD) (K : Int × Bool × Int → Bool) (x : Int × Bool × Int) : knownV m es K x = told (beforeV m es x) K := by
  unfold knownV beforeV
  rw [← go_told m K, List.foldr_reverse]
end
end Go.Proofs.YtfpbfdkjcmlimaaGreat
