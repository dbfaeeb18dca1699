/-
  SlotOrder: the walk of the law.
-/
import Derived.Test.YtkakanjoeofjcaaOrder
import Derived.Test.YtkakanjoeofjcaaShares
namespace Go.Proofs.Ytkakanjoeofjcaa
open Go.RowKit

theorem info_clash : (Try.prog.info? 41).map (fun i => (i.zero, i.size, i.bytes)) = some (some (.agg #[.int .i64 0, .int .i64 0]), 2, 16) := by kernel_rfl
theorem flat2_at (ps : List (Int × Int)) (k : Nat) (hk : k < ps.length) : (flat2 ps)[k * 2]? = some (.int .i64 (ps.getD k (0, 0)).1) ∧ (flat2 ps)[k * 2 + 1]? = some (.int .i64 (ps.getD k (0, 0)).2) := by
  induction ps generalizing k with
  | nil => simp at hk
  | cons p ps ih =>
    have e : flat2 (p :: ps) = .int .i64 p.1 :: .int .i64 p.2 :: flat2 ps := rfl
    rw [e]
    cases k with
    | zero => exact ⟨rfl, rfl⟩
    | succ k =>
      have := ih k (by simpa using hk)
      rw [show (k + 1) * 2 = k * 2 + 1 + 1 from by omega]
      simpa using this
theorem prs_of_own {W : World} {base : Nat} {e : TypeId} {v : Value} {qs : List (Int × Int)} (h : W.ownsRow base e 2 v qs.length (flat2 qs)) (hl : qs.length ≤ 17592186044416) (hw : ∀ p ∈ qs, I64 p.1 ∧ I64 p.2) :
    ∃ a c, v = .slice a qs.length c ∧ Prs W a qs.length qs := by
  rcases h.2 with ⟨rfl, h0⟩ | ⟨g, cap, cur, rfl, _⟩
  · exact ⟨none, 0, by rw [h0], rfl, hl, fun k hk => by omega⟩
  · refine ⟨some ⟨g, 0, none⟩, cap, rfl, rfl, hl, fun k hk => ⟨g, 0, rfl, ?_⟩⟩
    obtain ⟨e1, e2⟩ := flat2_at qs k hk
    have hadd : ∀ j, (⟨g, 0, none⟩ : Addr).add j = ⟨g, 0 + j, none⟩ := by intro j; unfold Addr.add; split <;> simp_all
    have hc1 := h.cells (g := g) rfl (k * 2) _ e1
    have hc2 := h.cells (g := g) rfl (k * 2 + 1) _ e2
    rw [hadd] at hc1 hc2
    refine ⟨hc1, by rw [Nat.add_assoc]; exact hc2, ?_⟩
    exact hw _ (by rw [List.getD_eq_getElem?_getD, List.getElem?_eq_getElem hk]; simp)

theorem Prs.wf {w : World} {a : Option Addr} {m : Nat} {ps : List (Int × Int)} (h : Prs w a m ps) : ∀ p ∈ ps, I64 p.1 ∧ I64 p.2 := by
  intro p hp
  obtain ⟨k, hk, rfl⟩ := List.mem_iff_getElem.1 hp
  obtain ⟨b, o, _, _, _, h1⟩ := h.2.2 k (by rw [← h.1]; exact hk)
  rw [List.getD_eq_getElem?_getD, List.getElem?_eq_getElem hk] at h1
  exact h1
theorem others_wf {ps : List (Int × Int)} (h : ∀ p ∈ ps, I64 p.1 ∧ I64 p.2) (K : Nat) : ∀ p ∈ othersOf ps K ps.length, I64 p.1 ∧ I64 p.2 := by
  rintro ⟨a, b⟩ hp
  rcases (mem_others_all _ _ _ _).1 hp with hp | hp
  · exact h _ hp
  · exact ⟨(h _ hp).2, (h _ hp).1⟩

theorem Ints.wf {w : World} {a : Option Addr} {n : Nat} {xs : List Int} (h : Ints w a n xs) : ∀ x ∈ xs, I64 x := by
  intro p hp
  obtain ⟨k, hk, rfl⟩ := List.mem_iff_getElem.1 hp
  obtain ⟨b, o, _, _, h1⟩ := h.2.2 k (by rw [← h.1]; exact hk)
  rw [List.getD_eq_getElem?_getD, List.getElem?_eq_getElem hk] at h1
  exact h1
theorem Ints.take {w : World} {a : Option Addr} {n : Nat} {xs : List Int} (h : Ints w a n xs) (m : Nat) (hm : m ≤ n) : Ints w a m (xs.take m) := by
  refine ⟨by rw [List.length_take, h.1]; omega, by have := h.2.1; omega, fun k hk => ?_⟩
  have e : (xs.take m).getD k 0 = xs.getD k 0 := by simp [List.getD_eq_getElem?_getD, List.getElem?_take, hk]
  rw [e]
  exact h.2.2 k (by omega)

theorem fr_err (xs : List Int) (ps : List (Int × Int)) (rs : List Int) (t : Bool) : (frOf xs ps rs t).err = 0 ∨ (frOf xs ps rs t).err = 2 := by
  unfold frOf
  split
  · exact .inl rfl
  · exact .inr rfl

theorem nil_ints (w : World) : Ints w none 0 [] := ⟨rfl, by omega, fun k hk => by omega⟩

set_option maxRecDepth 100000 in
set_option maxHeartbeats 1000000 in
theorem order_walk (a a' : Option Addr) (n c m c' : Nat) (xs : List Int) (ps : List (Int × Int)) (turn more : Int) (w : World) (h : Ints w a n xs) (h' : Prs w a' m ps) (ht : I64 turn) (hmore : I64 more) :
    Calls Try.prog 7 #[.slice a n c, .slice a' m c', .int .i64 turn, .int .i64 more] w fun e w' => e = .returned (.bool true) ∧ Below w.heap.size w w' := by
  have q1 := h.2.1
  have q2 := h'.2.1
  have H := Lib.hid h
  have H' := Lib.hid h'
  have HT := Lib.hid ht
  have HM := Lib.hid hmore
  clear h h' ht hmore
  by_cases hbig : 300 < n + m + 0
  · have hg : greatB n m 0 = true := decide_eq_true hbig
    go_enter Try.func7, Try.ntmps7
    go_wp2_with (first
      | (go_at_call 9; refine (awake_any _).mono ?_; rintro e w' ⟨rfl, hb⟩; have HB := Lib.hid hb; clear hb)
      | (go_at_call 8; refine (great_any a a' none n c m c' 0 0 _ (by omega) (by omega) (by omega)).mono ?_; rintro e w' ⟨rfl, rfl⟩; rw [hg]))
    go_ret
    exact ⟨rfl, HB.out⟩
  · have hg : greatB n m 0 = false := decide_eq_false hbig
    go_enter Try.func7, Try.ntmps7
    go_wp2_with (first
      | (go_at_call 9; refine (awake_any _).mono ?_; rintro e w1 ⟨rfl, hb⟩; have HB := Lib.hid hb; clear hb)
      | (go_at_call 8; refine (great_any a a' none n c m c' 0 0 _ (by omega) (by omega) (by omega)).mono ?_; rintro e w' ⟨rfl, rfl⟩; rw [hg])
      | (go_at_call 11
         refine (of_any a n c xs a' m c' ps none 0 0 [] false _ (by exact H.out.ext HB.out) (by exact H'.out.ext HB.out) (nil_ints _) (by omega)).mono ?_
         rintro e w2 ⟨a1, c1, a2, c2, rfl, -, -, hi1, -, k1, -, k1', -, -, hb⟩
         have HI1 := Lib.hid hi1
         have HB2 := Lib.hid (ext_trans HB.out hb)
         generalize hF : (frOf xs ps [] false) = F at *
         have HF := Lib.hid hF
         clear hi1 hb hF)
      | (go_at_call 19; refine (pick_any turn _ _ HT.out ⟨by omega, by omega⟩).mono ?_; rintro e w' ⟨rfl, rfl⟩))
    have hpk : ∃ K : Nat, pickI turn ((m : Int) + 1) = (K : Int) ∧ K ≤ m := by
      have h1 : pickI turn ((m : Int) + 1) = turn % ((m : Int) + 1) := if_neg (by omega)
      have h2 := Int.emod_nonneg turn (show ((m : Int) + 1) ≠ 0 by omega)
      have h3 := Int.emod_lt_of_pos turn (show (0 : Int) < (m : Int) + 1 by omega)
      exact ⟨(turn % ((m : Int) + 1)).toNat, by rw [h1]; omega, by omega⟩
    obtain ⟨K, hK, hKm⟩ := hpk
    rw [hK]
    clear hK
    have hb3 := ext_trans HB2.out (ext_alloc w2 (frC (.slice a1 F.vars.length c1) (.slice a2 F.homes.length c2) F.temp F.size 28))
    have hfr : (w2.alloc (frC (.slice a1 F.vars.length c1) (.slice a2 F.homes.length c2) F.temp F.size 28)).heap[w2.heap.size]? = some (frC (.slice a1 F.vars.length c1) (.slice a2 F.homes.length c2) F.temp F.size 28) := World.alloc_heap_new w2 _
    have HI3 := Lib.hid (HI1.out.ext (ext_alloc w2 (frC (.slice a1 F.vars.length c1) (.slice a2 F.homes.length c2) F.temp F.size 28)))
    have hlt3 : w2.heap.size < (w2.alloc (frC (.slice a1 F.vars.length c1) (.slice a2 F.homes.length c2) F.temp F.size 28)).heap.size := by simp
    have HB3 := Lib.hid hb3
    have HFR := Lib.hid hfr
    have HL := Lib.hid (H'.out.1)
    clear hb3 hfr HI1 HB2 HB
    generalize w2.alloc (frC (.slice a1 F.vars.length c1) (.slice a2 F.homes.length c2) F.temp F.size 28) = W at *
    generalize w2.heap.size = f at *
    have HP := Lib.hid (H'.out.ext HB3.out)
    have HX := Lib.hid (H.out.ext HB3.out)
    clear H H'
    go_loopw [12, 13, 14] (fun v i x wr => ∃ (k : Nat), k ≤ m ∧ i = .int .i64 k ∧ Hid (wr.ownsRow W.heap.size 41 2 v (k * 2) (flat2 (othersOf ps K k))) ∧ Hid (Below W.heap.size W wr)) (fun _ i _ _ => m - (intOf i).toNat)
    case atStart => exact ⟨0, by omega, rfl, World.ownsRow_nil _ _ _ _, Below.refl _ _⟩
    case round =>
      obtain ⟨k, hk, rfl, HO, HB⟩ := hrel
      by_cases hlt : k < m
      · have hr0 : (k + K) % m < m := Nat.mod_lt _ (by omega)
        have hr : ((k : Int) + (K : Int)).tmod (m : Int) = (((k + K) % m : Nat) : Int) := by
          rw [Int.tmod_eq_emod_of_nonneg (by omega)]
          simp
        have HS : Hid (flat2 (othersOf ps K (k + 1)) = flat2 (othersOf ps K k) ++ [.int .i64 (ps.getD ((k + K) % m) (0, 0)).2, .int .i64 (ps.getD ((k + K) % m) (0, 0)).1, .int .i64 (ps.getD ((k + K) % m) (0, 0)).1, .int .i64 (ps.getD ((k + K) % m) (0, 0)).2]) := by
          rw [Hid, othersOf, rotAt, HL.out]
          simp [flat2]
        generalize (k + K) % m = r at *
        obtain ⟨b, o, rfl, hcell, hcell', ⟨hw1, hw2⟩, hw3, hw4⟩ := (HP.out.ext HB.out).2.2 r hr0
        generalize ps.getD r (0, 0) = p at *
        obtain ⟨p1, p2⟩ := p
        simp only at hcell hcell' hw1 hw2 hw3 hw4
        go_wp2_with (first
          | (at_builtin
             refine wpList_appendN rfl (wr.alloc (.cells #[.int .i64 p1, .int .i64 p2] 41)) (.tmp 50) (.tmp 57) 23 41 rfl W.heap.size _ 2 16 2 Try.underlying23 info_clash rfl (by omega) (by omega) u12 (k * 2) _ [.int .i64 p2, .int .i64 p1, .int .i64 p1, .int .i64 p2] rfl (HO.out.alloc _) (wr.heap.size + 1) (by simp) rfl rfl (by simp [Value.oneCell']) (by simp only [maxLen]; omega) (by omega) (by simp; have := HB.out.size; omega) ?_
             intro g cap w3 hown2 hg2 hat2
             have HO2 : Hid (w3.ownsRow W.heap.size 41 2 (.slice (some ⟨g, 0, none⟩) (k * 2 + 2) cap) ((k + 1) * 2) (flat2 (othersOf ps K (k + 1)))) := by
               rw [Hid, HS.out, show (k + 1) * 2 = k * 2 + 2 from by omega]; exact hown2
             have HB2 : Hid (Below W.heap.size W w3) := (ext_trans HB.out (ext_alloc wr _)).grown hg2 (by simp; have := HB.out.size; omega) (fun j e => (HO.out.lt j e).1)
             clear hown2 hg2 hat2))
        go_roundw
        case rel => exact ⟨k + 1, by omega, by go_num, HO2, HB2⟩
        case measure => simp [intOf]; omega
      · obtain rfl : k = m := by omega
        have hp0 := HP.out.wf
        have hoth := others_wf hp0 K
        have HO1 := HO.out
        have hlen := othersOf_len ps K ps.length
        rw [← HL.out, ← hlen] at HO1
        obtain ⟨a3, c3, hu12, hp3⟩ := prs_of_own HO1 (by rw [hlen, HL.out]; omega) hoth
        rw [hlen, HL.out] at hu12 hp3
        subst hu12
        have HP3 := Lib.hid hp3
        have HFO : Hid (frOf xs (othersOf ps K k) [] false = F) := by
          have := frOf_others xs ps [] false K
          rw [HL.out] at this
          exact this.trans HF.out
        have HL3 : Hid ((othersOf ps K k).length = k * 2) := othersOf_len ps K k
        clear hp0 hoth HO1 hlen hp3 HO
        go_wp2_with (first
          | (go_at_call 11
             refine (of_any a n c xs a3 (k * 2) c3 (othersOf ps K k) none 0 0 [] false _ (by exact HX.out.ext HB.out) (by rw [← HL3.out]; rw [HL3.out]; exact HP3.out) (nil_ints _) (by omega)).mono ?_
             rw [HFO.out]
             rintro e w3 ⟨a5, c5, a6, c6, rfl, -, -, hi5, -, k5, -, k5', -, -, hb⟩
             have HI5 := Lib.hid hi5
             have HB5 := Lib.hid (ext_trans HB.out hb)
             have y0 : w3.cell? ⟨f, 0, none⟩ = some (.slice a1 F.vars.length c1) := by simp [World.cell?, HB5.out.block _ hlt3, HFR.out]
             have y3 : w3.cell? ⟨f, 3, none⟩ = some (.int .i64 F.size) := by simp [World.cell?, HB5.out.block _ hlt3, HFR.out]
             have z0 : ∀ o, (w3.alloc o).cell? ⟨f, 0, none⟩ = some (.slice a1 F.vars.length c1) := fun o => cell_ext (ext_alloc w3 o) y0
             have z3 : ∀ o, (w3.alloc o).cell? ⟨f, 3, none⟩ = some (.int .i64 F.size) := fun o => cell_ext (ext_alloc w3 o) y3
             clear hi5 hb y0 y3))
        refine (sameInts_any a1 a5 _ _ c1 c5 F.vars F.vars _ (by exact HI3.out.ext (ext_trans HB5.out (ext_alloc _ _))) (by exact HI5.out.ext (ext_alloc _ _))).mono ?_
        rintro e w4 ⟨rfl, q, hq⟩
        rw [show decide (F.vars = F.vars) = true from decide_eq_true rfl]
        have HB6 : Hid (Below W.heap.size W w4) := by rw [Hid, hq]; exact ext_drewN (ext_trans HB5.out (ext_alloc _ _)) q
        have y3 : w4.cell? ⟨f, 3, none⟩ = some (.int .i64 F.size) := by rw [hq]; exact z3 _
        have x3 : w4.cell? ⟨w3.heap.size, 3, none⟩ = some (.int .i64 F.size) := by rw [hq]; exact (cell_of_row _ _ _ _ _ _ (World.alloc_heap_new w3 _)).trans rfl
        have y0 : w4.cell? ⟨f, 0, none⟩ = some (.slice a1 F.vars.length c1) := by rw [hq]; exact z0 _
        clear hq z0 z3
        go_wp2_with (first
          | (at_builtin
             refine wpList_appendS _ rfl (.tmp 84) (.tmp 85) 22 3 rfl W.heap.size (.int .i64 0) 8 Try.underlying22 info_int rfl (.slice (some ⟨w4.heap.size, 0, none⟩) 0 0) 0 [] rfl (World.ownsRow_lit w4 #[] 0 HB6.out.size (by simp) rfl) a n c rfl (intVals xs) (by rw [intVals_len, HX.out.1]) (by
               intro j u hu
               have hj : j < n := by
                 have := (List.getElem?_eq_some_iff.1 hu).1
                 rwa [intVals_len, HX.out.1] at this
               obtain ⟨b, o, rfl, hc, _⟩ := (HX.out.ext (ext_trans HB6.out (ext_alloc w4 _))).2.2 j hj
               refine ⟨_, rfl, ?_⟩
               have hadd : (⟨b, o, none⟩ : Addr).add j = ⟨b, o + j, none⟩ := by unfold Addr.add; split <;> simp_all
               rw [hadd, hc]
               have hj' : j < xs.length := by rw [HX.out.1]; exact hj
               simp [intVals, hj'] at hu
               simp [List.getD, hj', hu]) (intVals_one xs) (by simp only [maxLen]; omega) (by omega) (by simp; have := HB6.out.size; omega) ?_
             intro v7 w7 hown7 hg7 hat7
             rw [Nat.zero_add, List.nil_append] at hown7
             have HO7 := Lib.hid hown7
             have HB7 : Hid (Below W.heap.size W w7) := (ext_trans HB6.out (ext_alloc w4 _)).grown hg7 (by simp; have := HB6.out.size; omega) (fun j e => by simp [Value.ownBlock] at e; have := HB6.out.size; omega)
             clear hown7 hg7 hat7)
          | (at_builtin
             refine wpList_append1 rfl w7 (.tmp 86) (.tmp 88) 22 3 rfl W.heap.size _ 1 8 Try.underlying22 info_int rfl (by omega) v7 n _ [.int .i64 more] rfl HO7.out w7.heap.size rfl rfl rfl (by simp [Value.oneCell']) (by simp only [maxLen]; omega) (by omega) HB7.out.size ?_
             intro g cap w8 hown8 hg8 hat8
             have HO8 : Hid (w8.ownsRow W.heap.size 3 1 (.slice (some ⟨g, 0, none⟩) (n + 1) cap) (n + 1) (intVals (xs ++ [more]))) := by rw [Hid, intVals, List.map_append]; exact hown8
             have HB8 : Hid (Below W.heap.size W w8) := HB7.out.grown hg8 HB7.out.size (fun j e => (HO7.out.lt j e).1)
             clear hown8 hg8 hat8))
        have hx8 : Ints w8 (some ⟨g, 0, none⟩) (n + 1) (xs ++ [more]) := by
          have hlen : (xs ++ [more]).length = n + 1 := by rw [List.length_append, HX.out.1]; rfl
          have ho := HO8.out
          rw [intVals, ← hlen] at ho
          obtain ⟨aa, cc, e, hi⟩ := ints_of_own ho (by rw [hlen]; omega) (fun x hx => by
            rcases List.mem_append.1 hx with hx | hx
            · exact HX.out.wf x hx
            · rw [List.mem_singleton.1 hx]; exact HM.out)
          simp only [Value.slice.injEq] at e
          rw [hlen, ← e.1] at hi
          exact hi
        have HX8 := Lib.hid hx8
        clear hx8 HO7 HO8 HB7 HI5 HB5 HB y0 y3 x3 HP3 HFO HL3
        refine (of_any _ (n + 1) cap (xs ++ [more]) a' k c' ps none 0 0 [] false w8 HX8.out (HP.out.ext HB8.out) (nil_ints _) (by omega)).mono ?_
        have HG := Lib.hid (fun (h1 : F.err = 0) => frOf_more xs ps false more (by rw [HF.out]; exact h1))
        rw [HF.out] at HG
        have HFE := Lib.hid (fr_err xs ps [] false)
        rw [HF.out] at HFE
        have HGE := Lib.hid (fr_err (xs ++ [more]) ps [] false)
        generalize frOf (xs ++ [more]) ps [] false = G at *
        rintro e w9 ⟨a7, c7, a8, c8, rfl, -, -, hi7, -, k7, -, k7', -, -, hb⟩
        have HB9 := Lib.hid (ext_trans HB8.out hb)
        have HI7 := Lib.hid hi7
        clear hi7 hb HX8
        go_wp2_with fail
        have hb10 := ext_trans HB9.out (ext_alloc w9 (frC (.slice a7 G.vars.length c7) (.slice a8 G.homes.length c8) G.temp G.size 28))
        have hfg : (w9.alloc (frC (.slice a7 G.vars.length c7) (.slice a8 G.homes.length c8) G.temp G.size 28)).heap[w9.heap.size]? = some (frC (.slice a7 G.vars.length c7) (.slice a8 G.homes.length c8) G.temp G.size 28) := World.alloc_heap_new w9 _
        have HI8 := Lib.hid (HI7.out.ext (ext_alloc w9 (frC (.slice a7 G.vars.length c7) (.slice a8 G.homes.length c8) G.temp G.size 28)))
        have hltg : w9.heap.size < (w9.alloc (frC (.slice a7 G.vars.length c7) (.slice a8 G.homes.length c8) G.temp G.size 28)).heap.size := by simp
        have HB10 := Lib.hid hb10
        have HFG := Lib.hid hfg
        clear hb10 hfg HI7 HB9 HB8 HB6
        generalize w9.alloc (frC (.slice a7 G.vars.length c7) (.slice a8 G.homes.length c8) G.temp G.size 28) = Z at *
        generalize w9.heap.size = gg at *
        have yF : ∀ m : ExtW Z, m.val.cell? ⟨f, 0, none⟩ = some (.slice a1 F.vars.length c1) := fun m => by simp [World.cell?, (ext_trans HB10.out m.ext).block _ hlt3, HFR.out]
        have yG : ∀ m : ExtW Z, m.val.cell? ⟨gg, 0, none⟩ = some (.slice a7 G.vars.length c7) := fun m => by simp [World.cell?, m.ext.block _ hltg, HFG.out]
        have hne : Nonempty (ExtW Z) := ⟨⟨Z, Below.refl _ _⟩⟩
        have fin : ∀ m : ExtW Z, Below w.heap.size w m.val := fun m => ext_trans (ext_trans HB3.out HB10.out) m.ext
        have FIN := Lib.hid fin
        clear fin
        by_cases hF0 : F.err = 0
        · by_cases hG0 : G.err = 0
          · obtain ⟨e1, e2⟩ := HG.out hF0 hG0
            rw [HX.out.1] at e1 e2
            have HT8 := Lib.hid (HI8.out.take n (by omega))
            rw [e1] at HT8
            clear e1
            refine region_ext (by kernel_rfl) (by kernel_rfl) ?_
            repeat (go_big_quiet_step (first
              | (go_at_call 14; exact quiet_ext_drew (sameInts_any _ _ _ _ _ _ F.vars F.vars _ (HT8.out.ext (ExtW.ext _)) (HI3.out.ext (ext_trans HB10.out (ExtW.ext _)))))))
            refine wpQuiet_nil ?_
            rintro _ ⟨mm, rfl⟩
            have hm := Lib.hid (FIN.out mm)
            generalize mm.val = Y at *
            go_wp2
            go_ret
            exact ⟨rfl, hm.out⟩
          · have hG1 : G.err = 2 := (HGE.out).resolve_left hG0
            clear hG0
            refine region_ext (by kernel_rfl) (by kernel_rfl) ?_
            repeat (go_big_quiet_step (fail))
            refine wpQuiet_nil ?_
            rintro _ ⟨mm, rfl⟩
            have hm := Lib.hid (FIN.out mm)
            generalize mm.val = Y at *
            go_wp2
            go_ret
            exact ⟨rfl, hm.out⟩
        · have hF1 : F.err = 2 := (HFE.out).resolve_left hF0
          clear hF0
          refine region_ext (by kernel_rfl) (by kernel_rfl) ?_
          repeat (go_big_quiet_step (fail))
          refine wpQuiet_nil ?_
          rintro _ ⟨mm, rfl⟩
          have hm := Lib.hid (FIN.out mm)
          generalize mm.val = Y at *
          go_wp2
          go_ret
          exact ⟨rfl, hm.out⟩
end Go.Proofs.Ytkakanjoeofjcaa
