/-
  mach.Keeps; ir.Reads.
-/
import Derived.Test.YtfpbfdkjcmlimaaGreatKH
import Derived.Test.YtfpbfdkjcmlimaaGreatFN
import Derived.Test.YtfpbfdkjcmlimaaGreatFK
import Derived.Test.YtfpbfdkjcmlimaaGreatZed
namespace Go.Proofs.YtfpbfdkjcmlimaaGreat
set_option linter.unusedSimpArgs false
set_option linter.unusedVariables false
set_option linter.unusedSectionVars false
set_option maxRecDepth 100000
set_option maxHeartbeats 40000000
section
open Go.RowKit
def keepF (r : Int) : Fct := (-1 - r, false, r)
def keepsL (m : MachD) : List Fct := if rightB m then m.saved.map keepF else []
theorem right_saved {m : MachD} (h : rightB m = true) : m.saved.length ≤ 64 ∧ ∀ r ∈ m.saved, 0 ≤ r ∧ r < 64 := by
  simp only [rightB, Bool.and_eq_true, decide_eq_true_eq] at h
  obtain ⟨⟨⟨⟨⟨⟨h1, h2⟩, h3⟩, h4⟩, h5⟩, h6⟩, h7⟩ := h
  refine ⟨by omega, fun r hr => ?_⟩
  unfold ofB at h7
  rw [decide_eq_true_eq] at h7
  obtain ⟨j, hj, e⟩ := List.mem_iff_getElem.1 (List.mem_cons_of_mem m.ret hr)
  have := h7 ⟨j, hj⟩
  simp only [Fin.getElem_fin, e] at this
  omega
def OwnFPost (w : World) (l : List Fct) (e : Ending) (w' : World) : Prop := ∃ v, e = .returned v ∧ OwnF w' w.heap.size v l ∧ Below w.heap.size w w'
theorem keeps_any (m : MachD) (a1 a2 : Option Addr) (n1 c1 n2 c2 : Nat) (w : World) (h : MachOK w m a1 n1 c1 a2 n2 c2) :
    Calls Tryz.prog 57 #[machV m a1 n1 c1 a2 n2 c2] w (OwnFPost w (keepsL m)) := by
  have HM := Lib.hid h
  have HL := Lib.hid h.2.1.1
  clear h
  cases hr : rightB m with
  | false =>
    have HR := Lib.hid hr
    clear hr
    go_enter Tryz.func57, Tryz.ntmps57
    go_wp2_with (
      (go_at_call 25
       refine (right_any m a1 a2 n1 c1 n2 c2 _ (HM.out.ext (ext_alloc w _))).mono ?_
       rintro e w1 ⟨rfl, hb1⟩
       rw [HR.out]
       have HB1 := Lib.hid (ext_trans (ext_alloc w _) hb1)
       clear hb1))
    go_ret
    exact ⟨_, rfl, by unfold keepsL; rw [HR.out]; exact OwnR.nil _ _ _ _ _, HB1.out⟩
  | true =>
    have HR := Lib.hid hr
    have HSV := Lib.hid (right_saved hr)
    clear hr
    go_enter Tryz.func57, Tryz.ntmps57
    go_wp2_with (
      (go_at_call 25
       refine (right_any m a1 a2 n1 c1 n2 c2 _ (HM.out.ext (ext_alloc w _))).mono ?_
       rintro e w1 ⟨rfl, hb1⟩
       rw [HR.out]
       have hx1 := block_ext hb1 (heap_alloc_new w (machO m a1 n1 c1 a2 n2 c2))
       have x3 : w1.cell? ⟨w.heap.size, 3, none⟩ = some (.slice a2 n2 c2) := (by rw [cell_of_row _ _ _ _ _ _ hx1]; rfl)
       have HB1 := Lib.hid (ext_trans (ext_alloc w _) hb1)
       clear hb1 hx1))
    have hn2 : n2 ≤ 64 := by have := HSV.out.1; rw [HL.out] at this; exact this
    go_loopw [2, 4, 11] (fun v _ i wr => ∃ k, k ≤ n2 ∧ i = .int .i64 (k : Nat) ∧ Hid (OwnF wr w.heap.size v ((m.saved.take k).map keepF)) ∧ Hid (Below w.heap.size w wr)) (fun _ _ i _ => n2 - (intOf i).toNat)
    case atStart => exact ⟨0, by omega, rfl, OwnR.nil _ _ _ _ _, HB1⟩
    case round =>
      obtain ⟨k, hk, rfl, HO, HB⟩ := hrel
      clear x3
      by_cases hlt : k < n2
      · obtain ⟨b, o, rfl, hc, _⟩ := (HM.out.ext HB.out).2.1.2.2 k hlt
        have hsv := HSV.out.2 (m.saved.getD k 0) (by
          have hk' : k < m.saved.length := by rw [HL.out]; exact hlt
          rw [List.getD_eq_getElem?_getD, List.getElem?_eq_getElem hk']
          exact List.getElem_mem hk')
        have HS : Hid ((m.saved.take (k + 1)).map keepF = (m.saved.take k).map keepF ++ [keepF (m.saved.getD k 0)]) := by
          have hk' : k < m.saved.length := by rw [HL.out]; exact hlt
          rw [Hid, takeS m.saved k 0 hk', List.map_append]
          rfl
        have HTL : Hid (((m.saved.take k).map keepF).length = k) := by rw [Hid, List.length_map, List.length_take, HL.out]; omega
        generalize m.saved.getD k 0 = x at *
        obtain ⟨hs0, hs1⟩ := hsv
        generalize (m.saved.take k).map keepF = ls at *
        obtain ⟨av, cv, rfl⟩ := HO.out.form
        have hll := HTL.out
        have hl2 : ls.length ≤ 64 := by omega
        clear hll
        go_wp2_with (
          (at_builtin
           refine wpList_append1 rfl wr (.tmp 15) (.tmp 21) 32 36 rfl w.heap.size _ 3 24 Tryz.underlying32 infoF rfl (by omega) (.slice av ls.length cv) ls.length _ (csF (keepF x)) rfl HO.out.1 wr.heap.size rfl rfl rfl (by simp [csF, Value.oneCell']) (by simp only [maxLen]; omega) (by omega) HB.out.size ?_
           intro g2 cap w3 hown3 hgr3 hat3
           have HO3 : Hid (OwnF w3 w.heap.size (.slice (some ⟨g2, 0, none⟩) (ls.length + 1) cap) (ls ++ [keepF x])) := (⟨by simpa [List.flatMap_append] using hown3, by simp; omega⟩)
           have HB3 : Hid (Below w.heap.size w w3) := (HB.out.grown hgr3 HB.out.size (fun q e => (HO.out.low e).1))
           clear hown3 hgr3 hat3))
        go_roundw
        case rel => exact ⟨k + 1, by omega, by go_num, by rw [Hid, HS.out]; exact HO3.out, HB3⟩
        case measure => simp [intOf]; omega
      · obtain rfl : k = n2 := by omega
        go_wp2
        go_ret
        refine ⟨_, rfl, ?_, HB.out⟩
        unfold keepsL
        rw [HR.out, if_pos rfl]
        have := HO.out
        rw [← HL.out, List.take_length] at this
        exact this
theorem row_form {w : World} {base : Nat} {e : TypeId} {size : Nat} {v : Value} {n : Nat} {xs : List Value} (h : w.ownsRow base e size v n xs) : ∃ a c, v = .slice a n c := by
  rcases h.2 with ⟨rfl, h0⟩ | ⟨g, cap, cur, hv, _⟩
  · rw [h0]; exact ⟨none, 0, rfl⟩
  · exact ⟨_, _, hv⟩
def readsI (i : InsD) : List Int := if isInsB i then ([i.a, i.b].filter fun x => x != 0) ++ i.args else []
def twoL (i : InsD) (k : Nat) : List Int := ([i.a, i.b].take k).filter fun x => x != 0
theorem twoL_len (i : InsD) (k : Nat) : (twoL i k).length ≤ 2 := by
  have h1 := List.length_filter_le (fun x : Int => x != 0) ([i.a, i.b].take k)
  have h2 := List.length_take_le k [i.a, i.b]
  have h3 : ([i.a, i.b].take k).length ≤ 2 := by rw [List.length_take]; simp; omega
  exact Nat.le_trans h1 h3
theorem twoL_step (i : InsD) (k : Nat) (x : Int) (h : [i.a, i.b][k]? = some x) : twoL i (k + 1) = if x != 0 then twoL i k ++ [x] else twoL i k := by
  unfold twoL
  rw [List.take_add_one, h, List.filter_append]
  cases hx : (x != 0) <;> simp [hx]
theorem ints_news {w : World} {a : Option Addr} {n : Nat} {xs : List Int} (h : Ints w a n xs) : ∀ j u, (xs.map (Value.int .i64))[j]? = some u → ∃ ad, a = some ad ∧ w.cell? (ad.add j) = some u := h.news
theorem index_two (w : World) (x y : Int) : (Instr.index 27 (.agg #[.int .i64 x, .int .i64 y]) (.int .i64 0)).run Tryz.prog w = .ok (.int .i64 x) w ∧ (Instr.index 27 (.agg #[.int .i64 x, .int .i64 y]) (.int .i64 1)).run Tryz.prog w = .ok (.int .i64 y) w := by
  have hz : (sizeOf 3).run Tryz.prog w = .ok 1 w := Tryz.sizeOf3 w
  have p0 : (part 3 #[.int .i64 x, .int .i64 y] 0).run Tryz.prog w = .ok (.int .i64 x) w := part_int _ _ _ w rfl
  have p1 : (part 3 #[.int .i64 x, .int .i64 y] 1).run Tryz.prog w = .ok (.int .i64 y) w := part_int _ _ _ w rfl
  constructor
  · simp [Instr.index, asIntOf, run_underlying (w := w) Tryz.underlying27, hz, p0, Result.andThen]
  · simp [Instr.index, asIntOf, run_underlying (w := w) Tryz.underlying27, hz, p1, Result.andThen]
theorem readsI_any (i : InsD) (aa : Option Addr) (na ca : Nat) (w : World) (h : Ints w aa na i.args) (h1 : I64 i.a) (h2 : I64 i.b) (h3 : I64 i.imm) (h4 : I64 i.callee) (h5 : na ≤ 1000000) :
    Calls Tryz.prog 53 #[insV i aa na ca] w fun e w' => ∃ a c, e = .returned (.slice a (readsI i).length c) ∧ Ints w' a (readsI i).length (readsI i) ∧ Below w.heap.size w w' ∧ ∀ q o s, a = some ⟨q, o, s⟩ → w.heap.size ≤ q := by
  have H := Lib.hid h
  have HL := Lib.hid h.1
  have H1 := Lib.hid h1
  have H2 := Lib.hid h2
  have HC := Lib.hid (fun W (hb : Below w.heap.size w W) => isIns_any i aa na ca W (h.ext hb) h1 h2 h3 h4)
  have hix := fun w => (index_two w i.a i.b).1
  have hiy := fun w => (index_two w i.a i.b).2
  have HX : Hid (∀ q ∈ i.args, I64 q) := fun q hq => by
    obtain ⟨k, hk, rfl⟩ := List.mem_iff_getElem.1 hq
    obtain ⟨_, _, _, _, hi⟩ := h.2.2 k (by rw [← h.1]; exact hk)
    rw [List.getD_eq_getElem?_getD, List.getElem?_eq_getElem hk] at hi
    exact hi
  clear h h1 h2 h3 h4
  cases hr : isInsB i with
  | false =>
    have HR := Lib.hid hr
    clear hr
    go_enter Tryz.func53, Tryz.ntmps53
    go_wp2_with (
      (go_at_call 73
       refine (HC.out _ (ext_alloc w _)).mono ?_
       rintro e w1 ⟨rfl, hb1⟩
       rw [HR.out]
       have HB1 := Lib.hid (ext_trans (ext_alloc w _) hb1)
       clear hb1))
    go_ret
    have e : readsI i = [] := by unfold readsI; rw [HR.out]; rfl
    rw [e]
    exact ⟨none, 0, rfl, ⟨rfl, by simp, fun k hk => by simp at hk⟩, HB1.out, fun q o s e => by cases e⟩
  | true =>
    have HR := Lib.hid hr
    clear hr
    go_enter Tryz.func53, Tryz.ntmps53
    go_wp2_with (
      (go_at_call 73
       refine (HC.out _ (ext_alloc w _)).mono ?_
       rintro e w1 ⟨rfl, hb1⟩
       rw [HR.out]
       have hx1 := block_ext hb1 (heap_alloc_new w (insO i aa na ca))
       have HX1 := Lib.hid hx1
       have x2 : w1.cell? ⟨w.heap.size, 2, none⟩ = some (.int .i64 i.a) := (by rw [cell_of_row _ _ _ _ _ _ hx1]; rfl)
       have x3 : w1.cell? ⟨w.heap.size, 3, none⟩ = some (.int .i64 i.b) := (by rw [cell_of_row _ _ _ _ _ _ hx1]; rfl)
       have HB1 := Lib.hid (ext_trans (ext_alloc w _) hb1)
       clear hb1 hx1))
    have hsz1 : w.heap.size < w1.heap.size := (Array.getElem?_eq_some_iff.1 HX1.out).1
    have HSZ := Lib.hid hsz1
    clear hsz1
    go_loopw [2, 4, 13] (fun v _ t wr => ∃ k, k ≤ 2 ∧ t = .int .i64 (k : Nat) ∧ Hid (wr.ownsRow w1.heap.size 3 1 v (twoL i k).length ((twoL i k).map (Value.int .i64))) ∧ Hid (Below w1.heap.size w1 wr)) (fun _ _ t _ => 2 - (intOf t).toNat)
    case atStart => exact ⟨0, by omega, rfl, World.ownsRow_nil _ _ _ _, Below.refl _ _⟩
    case round =>
      obtain ⟨k, hk, rfl, HO, HB⟩ := hrel
      clear x2 x3
      have hl2 := twoL_len i k
      by_cases hlt : k < 2
      · obtain rfl | rfl : k = 0 ∨ k = 1 := by omega
        · by_cases hx : i.a = 0
          · have hb : (i.a != 0) = false := by simpa using hx
            have HT : Hid (twoL i 1 = twoL i 0) := by rw [Hid, twoL_step i 0 (i.a) rfl, hb]; rfl
            clear hx
            go_wp2
            go_roundw
            case rel => exact ⟨1, by omega, by go_num, by rw [Hid, HT.out]; exact HO.out, HB⟩
            case measure => simp [intOf]
          · have hb : (i.a != 0) = true := by simpa using hx
            have HT : Hid (twoL i 1 = twoL i 0 ++ [i.a]) := by rw [Hid, twoL_step i 0 (i.a) rfl, hb]; rfl
            clear hx
            generalize twoL i 0 = ls at *
            obtain ⟨av, cv, rfl⟩ := row_form HO.out
            go_wp2_with (
              (at_builtin
               refine wpList_append1 rfl wr (.tmp 18) (.tmp 20) 22 3 rfl w1.heap.size _ 1 8 Tryz.underlying22 info_int rfl (by omega) (.slice av ls.length cv) ls.length _ [.int .i64 (i.a)] rfl HO.out wr.heap.size rfl rfl rfl (by simp [Value.oneCell']) (by simp only [maxLen]; omega) (by omega) HB.out.size ?_
               intro g2 cap w3 hown3 hgr3 hat3
               have HO3 : Hid (w3.ownsRow w1.heap.size 3 1 (.slice (some ⟨g2, 0, none⟩) (ls.length + 1) cap) (ls ++ [i.a]).length ((ls ++ [i.a]).map (Value.int .i64))) := (by rw [Hid, List.map_append, List.length_append]; exact hown3)
               have HB3 : Hid (Below w1.heap.size w1 w3) := (HB.out.grown hgr3 HB.out.size (fun q e => (HO.out.lt q e).1))
               clear hown3 hgr3 hat3))
            go_roundw
            case rel => exact ⟨1, by omega, by go_num, by rw [Hid, HT.out]; exact HO3.out, HB3⟩
            case measure => simp [intOf]
        · by_cases hx : i.b = 0
          · have hb : (i.b != 0) = false := by simpa using hx
            have HT : Hid (twoL i 2 = twoL i 1) := by rw [Hid, twoL_step i 1 (i.b) rfl, hb]; rfl
            clear hx
            go_wp2
            go_roundw
            case rel => exact ⟨2, by omega, by go_num, by rw [Hid, HT.out]; exact HO.out, HB⟩
            case measure => simp [intOf]
          · have hb : (i.b != 0) = true := by simpa using hx
            have HT : Hid (twoL i 2 = twoL i 1 ++ [i.b]) := by rw [Hid, twoL_step i 1 (i.b) rfl, hb]; rfl
            clear hx
            generalize twoL i 1 = ls at *
            obtain ⟨av, cv, rfl⟩ := row_form HO.out
            go_wp2_with (
              (at_builtin
               refine wpList_append1 rfl wr (.tmp 18) (.tmp 20) 22 3 rfl w1.heap.size _ 1 8 Tryz.underlying22 info_int rfl (by omega) (.slice av ls.length cv) ls.length _ [.int .i64 (i.b)] rfl HO.out wr.heap.size rfl rfl rfl (by simp [Value.oneCell']) (by simp only [maxLen]; omega) (by omega) HB.out.size ?_
               intro g2 cap w3 hown3 hgr3 hat3
               have HO3 : Hid (w3.ownsRow w1.heap.size 3 1 (.slice (some ⟨g2, 0, none⟩) (ls.length + 1) cap) (ls ++ [i.b]).length ((ls ++ [i.b]).map (Value.int .i64))) := (by rw [Hid, List.map_append, List.length_append]; exact hown3)
               have HB3 : Hid (Below w1.heap.size w1 w3) := (HB.out.grown hgr3 HB.out.size (fun q e => (HO.out.lt q e).1))
               clear hown3 hgr3 hat3))
            go_roundw
            case rel => exact ⟨2, by omega, by go_num, by rw [Hid, HT.out]; exact HO3.out, HB3⟩
            case measure => simp [intOf]
      · obtain rfl : k = 2 := by omega
        have HT : Hid (readsI i = twoL i 2 ++ i.args) := by rw [Hid]; unfold readsI; rw [HR.out, if_pos rfl]; rfl
        have HI2 : Hid (∀ q ∈ twoL i 2, I64 q) := fun q hq => by
          have := (List.mem_filter.1 hq).1
          simp at this
          rcases this with rfl | rfl
          · exact H1.out
          · exact H2.out
        have hxr := block_ext HB.out HX1.out
        have x6 : wr.cell? ⟨w.heap.size, 6, none⟩ = some (.slice aa na ca) := by rw [cell_of_row _ _ _ _ _ _ hxr]; rfl
        have HHr := Lib.hid (H.out.ext (ext_trans HB1.out HB.out))
        have hsz := HSZ.out
        clear hxr HC HX1
        generalize twoL i 2 = ls at *
        obtain ⟨av, cv, rfl⟩ := row_form HO.out
        go_wp2_with (
          (at_builtin
           refine wpList_appendS wr rfl (.tmp 23) (.tmp 25) 22 3 rfl w1.heap.size (.int .i64 0) 8 Tryz.underlying22 info_int rfl (.slice av ls.length cv) ls.length _ rfl HO.out aa na ca rfl (i.args.map (Value.int .i64)) (by rw [List.length_map, HL.out]) (ints_news HHr.out) (by intro u hu; obtain ⟨q, _, rfl⟩ := List.mem_map.1 hu; rfl) (by simp only [maxLen]; omega) (by omega) HB.out.size ?_
           intro v3 w3 hown3 hgr3 hat3
           have HO3 : Hid (w3.ownsRow w1.heap.size 3 1 v3 (readsI i).length ((readsI i).map (Value.int .i64))) := (by rw [Hid, HT.out, List.map_append, List.length_append, HL.out]; exact hown3)
           have HB3 : Hid (Below w.heap.size w w3) := (ext_trans HB1.out (HB.out.grown hgr3 HB.out.size (fun q e => (HO.out.lt q e).1)))
           clear hown3 hgr3 hat3))
        go_ret
        obtain ⟨a3, c3, e3⟩ := row_form HO3.out
        have ho := HO3.out
        rw [e3] at ho
        refine ⟨a3, c3, by rw [← e3]; rfl, ?_, HB3.out, fun q o s e => by
          have h1 := (ho.lt q (by rw [e]; rfl)).1
          have h2 := HSZ.out
          omega⟩
        have hq : ∀ q ∈ readsI i, I64 q := fun q hq => by
          rw [HT.out] at hq
          rcases List.mem_append.1 hq with hq | hq
          · exact HI2.out q hq
          · exact HX.out q hq
        have hle : (readsI i).length ≤ 1000002 := by rw [HT.out, List.length_append, HL.out]; omega
        rcases ho.2 with ⟨hv, h0⟩ | ⟨g, cap, cur, hv, _⟩
        · injection hv with e1 e2 e4
          subst e1
          rw [e2]
          have : readsI i = [] := List.eq_nil_of_length_eq_zero e2
          rw [this]
          exact ⟨rfl, by omega, fun k hk => by omega⟩
        · injection hv with e1 e2 e4
          subst e1
          exact intsOwn ho hq (by omega)
end
end Go.Proofs.YtfpbfdkjcmlimaaGreat
