/-
  SlotFrames: the walk of the law.
-/
import Derived.Test.YtkakanjoeofjcaaOf25Walk
import Derived.Test.YtkakanjoeofjcaaApartInts
namespace Go.Proofs.Ytkakanjoeofjcaa
open Go.RowKit

section
variable {P : Program} {Q : Exit → Act → World → Prop}
/-- append of a whole slice of elements of some cells (nil let in) onto a row of the call's own -/
theorem run_append_size (w : World) (base : Nat) (t ty e : TypeId) (z : Value) (size bytes : Nat) (ht : P.underlying t = some (.slice e)) (hinfo : (P.info? e).map (fun i => (i.zero, i.size, i.bytes)) = some (some z, size, bytes)) (hzs : z.cells.size = size) (hsz : 0 < size)
    (v : Value) (n : Nat) (xs : List Value) (hown : w.ownsRow base e size v n xs) (A : Option Addr) (m c : Nat) (news : List Value) (hl : news.length = m * size)
    (hr : ∀ j u, news[j]? = some u → ∃ ad, A = some ad ∧ w.cell? (ad.add j) = some u) (h1 : ∀ u ∈ news, u.oneCell' = true)
    (h63 : n + m ≤ maxLen) (hbytes : (n + m) * bytes ≤ 140737488355328) (hbase : base ≤ w.heap.size) :
    ∃ v' w', (Builtin.append_ #[t, t] ty #[v, .slice A m c]).run P w = .ok v' w' ∧ w'.ownsRow base e size v' (n + m) (xs ++ news) ∧ w.grownBy w' v.ownBlock ∧ (v'.ownBlock = v.ownBlock ∨ v'.ownBlock = some w.heap.size) := by
  obtain ⟨i, hi, hz, hsize, hby⟩ := info_parts hinfo
  rcases A with _ | ad
  · have hm : news = [] := by
      cases news with
      | nil => rfl
      | cons u l => obtain ⟨ad, h, _⟩ := hr 0 u rfl; cases h
    subst hm
    obtain rfl : m = 0 := by
      rcases Nat.eq_zero_or_pos m with h | h
      · exact h
      · have := Nat.mul_pos h hsz
        simp only [List.length_nil] at hl
        omega
    refine ⟨v, w, ?_, by simpa using hown, ⟨rfl, rfl, rfl, Nat.le_refl _, fun _ _ _ => rfl⟩, Or.inl rfl⟩
    rcases hown.2 with ⟨rfl, rfl⟩ | ⟨g, cap, cur, rfl, _, _, hnc, _⟩
    · simp [Builtin.append_, run_underlying ht, sizeOf, typeInfo, hi, Builtin.lenOf, Builtin.firstCells]
    · simp [Builtin.append_, run_underlying ht, sizeOf, typeInfo, hi, Builtin.lenOf, Builtin.firstCells, hnc, storeCells]
  · obtain ⟨v', w', hrun, h2, h3, _, h5⟩ := run_append_own_at (P := P) w base t ty e i z size bytes ht hi hz hsize hby hzs hsz v n xs hown ad m c news hl
      (fun j u hu => by obtain ⟨ad', h, hc⟩ := hr j u hu; cases h; exact hc) h1 h63 hbytes hbase
    exact ⟨v', w', hrun, h2, h3, h5⟩
theorem wpList_appendZ {ops : Array Oper} {rest : List Oper} {o : Oper} {a : Act} (w : World) (hgd : o.guard = none) (s x : Operand) (t e : TypeId) (ho : o.op = .call { callee := .builtin .append, args := #[s, x], argTypes := #[t, t] })
    (base : Nat) (z : Value) (size bytes : Nat) (ht : P.underlying t = some (.slice e)) (hinfo : (P.info? e).map (fun i => (i.zero, i.size, i.bytes)) = some (some z, size, bytes)) (hzs : z.cells.size = size) (hsz : 0 < size)
    (v : Value) (n : Nat) (xs : List Value) (hs : a.eval s = v) (hown : w.ownsRow base e size v n xs) (A : Option Addr) (m c : Nat) (hx : a.eval x = .slice A m c) (news : List Value) (hl : news.length = m * size)
    (hr : ∀ j u, news[j]? = some u → ∃ ad, A = some ad ∧ w.cell? (ad.add j) = some u) (h1 : ∀ u ∈ news, u.oneCell' = true)
    (h63 : n + m ≤ maxLen) (hbytes : (n + m) * bytes ≤ 140737488355328) (hbase : base ≤ w.heap.size)
    (h : ∀ v' w', w'.ownsRow base e size v' (n + m) (xs ++ news) → w.grownBy w' v.ownBlock → (v'.ownBlock = v.ownBlock ∨ v'.ownBlock = some w.heap.size) → wpList P ops Q rest (a.put o.dst v') w') :
    wpList P ops Q (o :: rest) a w := by
  refine wpList_plain hgd fun K hK => ?_
  obtain ⟨v', w', hrun, h2, h3, h5⟩ := run_append_size (P := P) w base t o.type e z size bytes ht hinfo hzs hsz v n xs hown A m c news hl hr h1 h63 hbytes hbase
  unfold Oper.wp execOp
  simp only [ho, resolve, invoke, builtin, Sem.run_bind, Sem.run_pure, Result.andThen_ok, List.map_toArray, List.map_cons, List.map_nil, hs, hx, hrun]
  exact hK _ _ (h v' w' h2 h3 h5)
end
theorem prs_cells {w : World} {a : Option Addr} {m : Nat} {ps : List (Int × Int)} (h : Prs w a m ps) : ∀ j u, (flat2 ps)[j]? = some u → ∃ ad, a = some ad ∧ w.cell? (ad.add j) = some u := by
  intro j u hu
  have hj := (List.getElem?_eq_some_iff.1 hu).1
  rw [flat2_len, h.1] at hj
  have hk : j / 2 < m := by omega
  obtain ⟨b, o, rfl, h1, h2, _⟩ := h.2.2 (j / 2) hk
  obtain ⟨e1, e2⟩ := flat2_at ps (j / 2) (by rw [h.1]; exact hk)
  have hadd : (⟨b, o, none⟩ : Addr).add j = ⟨b, o + j, none⟩ := by unfold Addr.add; split <;> simp_all
  refine ⟨_, rfl, ?_⟩
  rw [hadd]
  rcases Nat.mod_two_eq_zero_or_one j with hm | hm
  · obtain ⟨k, rfl⟩ : ∃ k, j = k * 2 := ⟨j / 2, by omega⟩
    rw [show k * 2 / 2 = k by omega] at *
    rw [e1] at hu
    rw [← hu]
    exact h1
  · obtain ⟨k, rfl⟩ : ∃ k, j = k * 2 + 1 := ⟨j / 2, by omega⟩
    rw [show (k * 2 + 1) / 2 = k by omega] at *
    rw [e2] at hu
    rw [← hu, ← Nat.add_assoc]
    exact h2
theorem flat2_one (ps : List (Int × Int)) : ∀ u ∈ flat2 ps, u.oneCell' = true := by
  intro u hu
  simp only [flat2, List.mem_flatMap] at hu
  obtain ⟨p, _, hp⟩ := hu
  simp only [List.mem_cons, List.not_mem_nil, or_false] at hp
  rcases hp with rfl | rfl <;> rfl

theorem Lent.chg {S : Nat → Prop} {w w' : World} {base : Nat} {v : Value} {xs : List Int} (h : Lent w base v xs) (hc : Chg S w w') (hn : ∀ g, v.ownBlock = some g → ¬ S g) : Lent w' base v xs := by
  obtain ⟨g, cap, rfl, hown⟩ := h
  exact ⟨g, cap, rfl, ownsRow_chg hown hc (fun b hb => hn b hb)⟩
theorem Lent.lt {w : World} {base : Nat} {v : Value} {xs : List Int} (h : Lent w base v xs) : ∀ g, v.ownBlock = some g → g < w.heap.size := by
  obtain ⟨g, cap, rfl, hown⟩ := h
  intro b hb
  exact (hown.lt b hb).2
/-- four by number -/
def four {α : Type} (x0 x1 x2 x3 : α) (j : Nat) : α := if j = 0 then x0 else if j = 1 then x1 else if j = 2 then x2 else x3
theorem four_all {α : Type} {p : Nat → α → Prop} {x0 x1 x2 x3 : α} (h0 : p 0 x0) (h1 : p 1 x1) (h2 : p 2 x2) (h3 : p 3 x3) : ∀ j, j < 4 → p j (four x0 x1 x2 x3 j) := by
  intro j hj
  match j, hj with
  | 0, _ => exact h0
  | 1, _ => exact h1
  | 2, _ => exact h2
  | 3, _ => exact h3

set_option maxRecDepth 100000 in
set_option maxHeartbeats 4000000 in
theorem frames_walk (a a' a'' : Option Addr) (n c m c' l c'' : Nat) (xs : List Int) (ps : List (Int × Int)) (rs : List Int) (t : Bool) (x y : Int) (w : World) (h : Ints w a n xs) (h' : Prs w a' m ps) (h'' : Ints w a'' l rs) :
    Calls Try.prog 3 #[.slice a n c, .slice a' m c', .slice a'' l c'', .bool t, .int .i64 x, .int .i64 y] w fun e w' => e = .returned (.bool true) ∧ Below w.heap.size w w' := by
  have e1 := h.1
  subst e1
  have e2 := h'.1
  subst e2
  have e3 := h''.1
  subst e3
  have q1 := h.2.1
  have q2 := h'.2.1
  have q3 := h''.2.1
  have H := Lib.hid h
  have H' := Lib.hid h'
  have H'' := Lib.hid h''
  clear h h' h''
  by_cases hbig : 300 < xs.length + ps.length + rs.length
  · have hg : greatB xs.length ps.length rs.length = true := decide_eq_true hbig
    go_enter Try.func3, Try.ntmps3
    go_wp2_with (first
      | (go_at_call 9; refine (awake_any _).mono ?_; rintro e w' ⟨rfl, hb⟩; have HB := Lib.hid hb; clear hb)
      | (go_at_call 8; refine (great_any a a' a'' xs.length c ps.length c' rs.length c'' _ (by omega) (by omega) (by omega)).mono ?_; rintro e w' ⟨rfl, rfl⟩; rw [hg]))
    go_ret
    exact ⟨rfl, HB.out⟩
  · have hg : greatB xs.length ps.length rs.length = false := decide_eq_false hbig
    go_enter Try.func3, Try.ntmps3
    go_upto_region 3 with (first
      | (go_at_call 8; refine (great_any a a' a'' xs.length c ps.length c' rs.length c'' _ (by omega) (by omega) (by omega)).mono ?_; rintro e w' ⟨rfl, hw⟩; obtain rfl := hw.symm; rw [hg]))
    clear hg
    go_upto_region 4 with (first
      | (go_at_call 10
         (with_reducible refine (lentInts_any a xs.length c xs w H.out (by omega)).mono ?_)
         rintro e w1 ⟨v1, rfl, hL1, hb1⟩
         obtain ⟨b1, k1, e1, _⟩ := id hL1
         subst e1
         have L1 := Lib.hid hL1
         have B1 := Lib.hid hb1
         clear hL1 hb1)
      | (go_at_call 10
         (with_reducible refine (lentInts_any a'' rs.length c'' rs w1 (H''.out.ext B1.out) (by omega)).mono ?_)
         rintro e w2 ⟨v2, rfl, hL2, hb2⟩
         obtain ⟨b2, k2, e2, _⟩ := id hL2
         subst e2
         have L2 := Lib.hid hL2
         have B2 := Lib.hid hb2
         clear hL2 hb2)
      | (at_builtin
         refine wpList_appendZ _ rfl (.tmp 32) (.tmp 33) 23 41 rfl w2.heap.size _ 2 16 Try.underlying23 info_clash rfl (by omega) (.slice (some ⟨w2.heap.size, 0, none⟩) 0 0) 0 [] rfl (World.ownsRow_lit w2 #[] 0 (Nat.le_refl _) (by simp) rfl) a' ps.length c' rfl (flat2 ps) (flat2_len ps) (prs_cells (H'.out.ext (ext_trans B1.out (ext_trans B2.out (ext_alloc w2 _))))) (flat2_one ps) (by simp only [maxLen]; omega) (by omega) (by simp) ?_
         intro v3 w3 hown3 hg3 hat3
         rw [Nat.zero_add, List.nil_append] at hown3
         obtain ⟨a3, c3, e3, hp3⟩ := prs_of_own hown3 (by omega) H'.out.wf
         subst e3
         have P3 := Lib.hid hp3
         have B3 : Hid (Below w2.heap.size w2 w3) := (ext_alloc w2 _).grown hg3 (by simp) (fun j e => by simp [Value.ownBlock] at e; omega)
         clear hown3 hg3 hat3 hp3))
    have E3 := Lib.hid (ext_trans B1.out (ext_trans B2.out B3.out))
    have L13 := Lib.hid (L1.out.ext (ext_trans B2.out B3.out))
    have L23 := Lib.hid (L2.out.ext B3.out)
    have I13 := Lib.hid (lent_ints L13.out H.out)
    have I23 := Lib.hid (lent_ints L23.out H''.out)
    have hw13 : w1.heap.size ≤ w3.heap.size := Nat.le_trans B2.out.size B3.out.size
    clear L1 L2 B1 B2 B3
    go_upto_region 5 with (first
      | (go_at_call 11
         refine (of_any _ xs.length k1 xs a3 ps.length c3 ps _ rs.length k2 rs t w3 I13.out P3.out I23.out (by omega)).mono ?_
         rintro e w4 ⟨a1, c1, a2, c2, rfl, ht1, ht2, hi1, hi2, k3, k4, k5, k6, hs12, hb4⟩
         have T1 := Lib.hid ht1
         have T2 := Lib.hid ht2
         have I1 := Lib.hid hi1
         have I2 := Lib.hid hi2
         have S12 := Lib.hid hs12
         have B4 := Lib.hid hb4
         clear ht1 ht2 hi1 hi2 hs12 hb4))
    obtain ⟨F, hF⟩ : ∃ F, frOf xs ps rs t = F := ⟨_, rfl⟩
    have HF := Lib.hid hF
    rw [hF] at T1 T2 I1 I2 S12 k3 k4 ⊢
    clear hF
    have hB5 := ext_alloc w4 (frC (.slice a1 F.vars.length c1) (.slice a2 F.homes.length c2) F.temp F.size 28)
    have hfr : (w4.alloc (frC (.slice a1 F.vars.length c1) (.slice a2 F.homes.length c2) F.temp F.size 28)).heap[w4.heap.size]? = some (frC (.slice a1 F.vars.length c1) (.slice a2 F.homes.length c2) F.temp F.size 28) := World.alloc_heap_new w4 _
    have B5 := Lib.hid (ext_trans B4.out hB5)
    have T15 := Lib.hid (T1.out.ext hB5)
    have T25 := Lib.hid (T2.out.ext hB5)
    have I15 := Lib.hid (I1.out.ext hB5)
    have I25 := Lib.hid (I2.out.ext hB5)
    have FR5 := Lib.hid hfr
    clear hB5 hfr B4 T1 T2 I1 I2
    generalize w4.alloc (frC (.slice a1 F.vars.length c1) (.slice a2 F.homes.length c2) F.temp F.size 28) = w5 at *
    generalize w4.heap.size = f at *
    go_upto_region 6 with (first
      | (go_at_call 13
         refine (refs_any a' ps.length c' ps w5 (H'.out.ext (ext_trans E3.out B5.out)) (by omega)).mono ?_
         rintro e w6 ⟨v6, rfl, ho6, hb6⟩
         obtain ⟨a4, c4, e4, hp6⟩ := prs_of_own ho6 (by omega) H'.out.wf
         subst e4
         clear ho6
         have P6 := Lib.hid hp6
         have B6 := Lib.hid hb6
         clear hp6 hb6)
      | (go_at_call 12
         refine (of25_any a xs.length c xs a4 ps.length c4 ps a'' rs.length c'' rs t w6 (H.out.ext (ext_trans (ext_trans E3.out B5.out) B6.out)) P6.out (H''.out.ext (ext_trans (ext_trans E3.out B5.out) B6.out))).mono ?_
         rw [HF.out]
         rintro e w7 ⟨a5, c5, a6, c6, rfl, hi5, hi6, hb7⟩
         have I5 := Lib.hid hi5
         have I6 := Lib.hid hi6
         have B7 := Lib.hid hb7
         clear hi5 hi6 hb7))
    have hB8 := ext_alloc w7 (frC (.slice a5 F.vars.length c5) (.slice a6 F.homes.length c6) F.temp F.size 32)
    have hgr : (w7.alloc (frC (.slice a5 F.vars.length c5) (.slice a6 F.homes.length c6) F.temp F.size 32)).heap[w7.heap.size]? = some (frC (.slice a5 F.vars.length c5) (.slice a6 F.homes.length c6) F.temp F.size 32) := World.alloc_heap_new w7 _
    have B8 := Lib.hid (ext_trans (ext_trans B6.out B7.out) hB8)
    have I58 := Lib.hid (I5.out.ext hB8)
    have I68 := Lib.hid (I6.out.ext hB8)
    have GR8 := Lib.hid hgr
    clear hB8 hgr B6 B7 I5 I6 P6
    generalize w7.alloc (frC (.slice a5 F.vars.length c5) (.slice a6 F.homes.length c6) F.temp F.size 32) = w8 at *
    generalize w7.heap.size = g at *
    go_upto_region 7 with (first
      | (go_at_call 11
         refine (of_any _ xs.length k1 xs a3 ps.length c3 ps _ rs.length k2 rs t w8 (I13.out.ext (ext_trans B5.out B8.out)) (P3.out.ext (ext_trans B5.out B8.out)) (I23.out.ext (ext_trans B5.out B8.out)) (by omega)).mono ?_
         rw [HF.out]
         rintro e w9 ⟨a7, c7, a8, c8, rfl, ht7, ht8, -, -, k7, k8, k9, k10, hs78, hb9⟩
         have T7 := Lib.hid ht7
         have T8 := Lib.hid ht8
         have S78 := Lib.hid hs78
         have B9 := Lib.hid hb9
         clear ht7 ht8 hs78 hb9))
    have hB10 := ext_alloc w9 (frC (.slice a7 F.vars.length c7) (.slice a8 F.homes.length c8) F.temp F.size 28)
    have har : (w9.alloc (frC (.slice a7 F.vars.length c7) (.slice a8 F.homes.length c8) F.temp F.size 28)).heap[w9.heap.size]? = some (frC (.slice a7 F.vars.length c7) (.slice a8 F.homes.length c8) F.temp F.size 28) := World.alloc_heap_new w9 _
    have B10 := Lib.hid (ext_trans B9.out hB10)
    have T710 := Lib.hid (T7.out.ext hB10)
    have T810 := Lib.hid (T8.out.ext hB10)
    have AR10 := Lib.hid har
    clear hB10 har B9 T7 T8
    generalize w9.alloc (frC (.slice a7 F.vars.length c7) (.slice a8 F.homes.length c8) F.temp F.size 28) = W at *
    generalize w9.heap.size = ag at *
    have hsm := fr_small xs ps rs t
    rw [HF.out] at hsm
    obtain ⟨z1, z2, -, -, z3, z4, z5, z6⟩ := hsm
    have B8W := Lib.hid (ext_trans B8.out B10.out)
    have B5W := Lib.hid (ext_trans B5.out B8W.out)
    have FRW : Hid (W.heap[f]? = some (frC (.slice a1 F.vars.length c1) (.slice a2 F.homes.length c2) F.temp F.size 28)) := (B8W.out.block f (Array.getElem?_eq_some_iff.1 FR5.out).1).trans FR5.out
    have GRW : Hid (W.heap[g]? = some (frC (.slice a5 F.vars.length c5) (.slice a6 F.homes.length c6) F.temp F.size 32)) := (B10.out.block g (Array.getElem?_eq_some_iff.1 GR8.out).1).trans GR8.out
    have dF := fun mm : ExtW W => (mm.ext.block f (Array.getElem?_eq_some_iff.1 FRW.out).1).trans FRW.out
    have dG := fun mm : ExtW W => (mm.ext.block g (Array.getElem?_eq_some_iff.1 GRW.out).1).trans GRW.out
    have f0 : ∀ mm : ExtW W, mm.val.cell? ⟨f, 0, none⟩ = some (.slice a1 F.vars.length c1) := fun mm => by simp [World.cell?, dF mm]
    have f1 : ∀ mm : ExtW W, mm.val.cell? ⟨f, 1, none⟩ = some (.slice a2 F.homes.length c2) := fun mm => by simp [World.cell?, dF mm]
    have f2 : ∀ mm : ExtW W, mm.val.cell? ⟨f, 2, none⟩ = some (.int .i64 F.temp) := fun mm => by simp [World.cell?, dF mm]
    have f3 : ∀ mm : ExtW W, mm.val.cell? ⟨f, 3, none⟩ = some (.int .i64 F.size) := fun mm => by simp [World.cell?, dF mm]
    have g0 : ∀ mm : ExtW W, mm.val.cell? ⟨g, 0, none⟩ = some (.slice a5 F.vars.length c5) := fun mm => by simp [World.cell?, dG mm]
    have g1 : ∀ mm : ExtW W, mm.val.cell? ⟨g, 1, none⟩ = some (.slice a6 F.homes.length c6) := fun mm => by simp [World.cell?, dG mm]
    have g2 : ∀ mm : ExtW W, mm.val.cell? ⟨g, 2, none⟩ = some (.int .i64 F.temp) := fun mm => by simp [World.cell?, dG mm]
    have g3 : ∀ mm : ExtW W, mm.val.cell? ⟨g, 3, none⟩ = some (.int .i64 F.size) := fun mm => by simp [World.cell?, dG mm]
    clear dF dG
    have hvv : decide (F.vars = F.vars) = true := by simp
    have hhh : decide (F.homes = F.homes) = true := by simp
    have C1 : Hid (∀ mm : ExtW W, Calls Try.prog 14 #[.slice a1 F.vars.length c1, .slice a5 F.vars.length c5] mm.val fun e w' => e = .returned (.bool true) ∧ ∃ q, w' = mm.val.drewN q) := fun mm => by
      have := sameInts_any a1 a5 F.vars.length F.vars.length c1 c5 F.vars F.vars mm.val ((I15.out.ext B8W.out).ext mm.ext) ((I58.out.ext B10.out).ext mm.ext)
      rw [hvv] at this
      exact this
    have C2 : Hid (∀ mm : ExtW W, Calls Try.prog 14 #[.slice a2 F.homes.length c2, .slice a6 F.homes.length c6] mm.val fun e w' => e = .returned (.bool true) ∧ ∃ q, w' = mm.val.drewN q) := fun mm => by
      have := sameInts_any a2 a6 F.homes.length F.homes.length c2 c6 F.homes F.homes mm.val ((I25.out.ext B8W.out).ext mm.ext) ((I68.out.ext B10.out).ext mm.ext)
      rw [hhh] at this
      exact this
    clear hvv hhh
    refine region_ext (by kernel_rfl) (by kernel_rfl) ?_
    repeat (go_big_quiet_step (first
      | (go_at_call 15; exact quiet_ext (share_any _ _ _ _ _ _ _ _ _ F.vars xs _ _ _ _ _ ((I15.out.ext B8W.out).ext (ExtW.ext _)) ((I13.out.ext B5W.out).ext (ExtW.ext _))))
      | (go_at_call 16; exact quiet_ext (share25_any _ _ _ _ _ _ _ _ _ F.vars xs _ _ _ _ _ ((I58.out.ext B10.out).ext (ExtW.ext _)) ((H.out.ext (ext_trans E3.out B5W.out)).ext (ExtW.ext _))))
      | (go_at_call 14; (first | with_reducible exact quiet_ext_drew (C1.out _) | with_reducible exact quiet_ext_drew (C2.out _)))))
    refine wpQuiet_nil ?_
    rintro _ ⟨mm, rfl⟩
    clear f0 f1 f2 f3 g0 g1 g2 g3 C1 C2
    have HM := Lib.hid mm.ext
    generalize mm.val = X at *
    go_wp2
    go_loopw [22] (fun ii wr => ∃ (k q : Nat), k ≤ ps.length ∧ ii = .int .i64 k ∧ wr = X.drewN q) (fun ii _ => ps.length - (intOf ii).toNat)
    case atStart => exact ⟨0, 0, by omega, rfl, rfl⟩
    case round =>
      obtain ⟨k, q, hk, rfl, rfl⟩ := hrel
      by_cases hlt : k < ps.length
      · obtain ⟨b, o, rfl, hcell, hcell', ⟨hw1, hw2⟩, hw3, hw4⟩ := (H'.out.ext (ext_trans E3.out (ext_trans B5W.out HM.out))).2.2 k hlt
        obtain ⟨b', o', e, hd, hd', _⟩ := (P3.out.ext (ext_trans B5W.out HM.out)).2.2 k hlt
        subst e
        generalize ps.getD k (0, 0) = p at *
        obtain ⟨p1, p2⟩ := p
        simp only at hcell hcell' hw1 hw2 hw3 hw4 hd hd'
        go_wp2
        go_quiet (fail)
        go_wp2
        go_roundw
        case rel => exact ⟨k + 1, _, by omega, by go_num, rfl⟩
        case measure => simp [intOf]; omega
      · have HM2 := Lib.hid (below_drewN HM.out q)
        clear HM
        generalize X.drewN q = Y at *
        have fY : Y.heap[f]? = some _ := (HM2.out.block f (Array.getElem?_eq_some_iff.1 FRW.out).1).trans FRW.out
        have aY : Y.heap[ag]? = some _ := (HM2.out.block ag (Array.getElem?_eq_some_iff.1 AR10.out).1).trans AR10.out
        have f0 : Y.cell? ⟨f, 0, none⟩ = some (.slice a1 F.vars.length c1) := by simp [World.cell?, fY]
        have f1 : Y.cell? ⟨f, 1, none⟩ = some (.slice a2 F.homes.length c2) := by simp [World.cell?, fY]
        have r0 : Y.cell? ⟨ag, 0, none⟩ = some (.slice a7 F.vars.length c7) := by simp [World.cell?, aY]
        have r1 : Y.cell? ⟨ag, 1, none⟩ = some (.slice a8 F.homes.length c8) := by simp [World.cell?, aY]
        clear fY aY
        have hs38 : w3.heap.size ≤ w8.heap.size := Nat.le_trans B5.out.size B8.out.size
        have hs58 : w5.heap.size ≤ w8.heap.size := B8.out.size
        have hsb : ∀ gg, SB 4 (four (.slice a1 F.vars.length c1) (.slice a2 F.homes.length c2) (.slice a7 F.vars.length c7) (.slice a8 F.homes.length c8)) gg → w3.heap.size ≤ gg := by
          rintro gg ⟨j, hj, e⟩
          have := four_all (p := fun _ v => ∀ gg, Value.ownBlock v = some gg → w3.heap.size ≤ gg) (fun gg e => (T15.out.lt gg e).1) (fun gg e => (T25.out.lt gg e).1) (fun gg e => by have := (T710.out.lt gg e).1; omega) (fun gg e => by have := (T810.out.lt gg e).1; omega) j hj
          exact this gg e
        have HSB := Lib.hid hsb
        clear hsb
        have hB0 : w3.heap.size ≤ Y.heap.size := Nat.le_trans B5W.out.size HM2.out.size
        have HAP : Hid (∀ o, Calls Try.prog 17 #[.slice (some ⟨Y.heap.size, 0, none⟩) 4 4] (Y.alloc (.cells #[.slice a1 F.vars.length c1, .slice a2 F.homes.length c2, .slice a7 F.vars.length c7, .slice a8 F.homes.length c8] 22 o)) fun e w' => e = .returned (.bool true) ∧ Chg (SB 4 (four (.slice a1 F.vars.length c1) (.slice a2 F.homes.length c2) (.slice a7 F.vars.length c7) (.slice a8 F.homes.length c8))) (Y.alloc (.cells #[.slice a1 F.vars.length c1, .slice a2 F.homes.length c2, .slice a7 F.vars.length c7, .slice a8 F.homes.length c8] 22 o)) w') := fun o => by
          have hx := ext_alloc Y (.cells #[.slice a1 F.vars.length c1, .slice a2 F.homes.length c2, .slice a7 F.vars.length c7, .slice a8 F.homes.length c8] 22 o)
          have hall := ext_trans HM2.out hx
          have hh := World.alloc_heap_new Y (.cells #[.slice a1 F.vars.length c1, .slice a2 F.homes.length c2, .slice a7 F.vars.length c7, .slice a8 F.homes.length c8] 22 o)
          refine apartInts_any _ _ 4 4 w3.heap.size (four (.slice a1 F.vars.length c1) (.slice a2 F.homes.length c2) (.slice a7 F.vars.length c7) (.slice a8 F.homes.length c8)) (four F.vars.length F.homes.length F.vars.length F.homes.length) ?_ ?_ ?_ (by omega) ?_ (by simp; omega)
          · refine four_all (p := fun j v => ∃ b o', (some (⟨Y.heap.size, 0, none⟩ : Addr)) = some ⟨b, o', none⟩ ∧ World.cell? _ ⟨b, o' + j, none⟩ = some v) ?_ ?_ ?_ ?_
            all_goals exact ⟨_, _, rfl, by rw [cell_of_row _ _ _ _ _ _ hh]; rfl⟩
          · intro j hj
            match j, hj with
            | 0, _ => exact ⟨_, (T15.out.ext (ext_trans B8W.out hall))⟩
            | 1, _ => exact ⟨_, (T25.out.ext (ext_trans B8W.out hall))⟩
            | 2, _ => exact ⟨_, (T710.out.ext hall).mono hs38⟩
            | 3, _ => exact ⟨_, (T810.out.ext hall).mono hs38⟩
          · have s02 : ∀ {v v' : Value} {l l' : List Int}, Told w5 w3.heap.size v l → Told W w8.heap.size v' l' → Sep v v' := fun h1 h2 gg e1 e2 => by
              have := (h1.lt gg e1).2
              have := (h2.lt gg e2).1
              omega
            have a01 : Sep (.slice a1 F.vars.length c1) (.slice a2 F.homes.length c2) := S12.out
            have a23 : Sep (.slice a7 F.vars.length c7) (.slice a8 F.homes.length c8) := S78.out
            have a02 := s02 T15.out T710.out
            have a03 := s02 T15.out T810.out
            have a12 := s02 T25.out T710.out
            have a13 := s02 T25.out T810.out
            intro i j hi hj hij
            match i, j, hi, hj, hij with
            | 0, 0, _, _, h => exact absurd rfl h
            | 0, 1, _, _, _ => exact a01
            | 0, 2, _, _, _ => exact a02
            | 0, 3, _, _, _ => exact a03
            | 1, 0, _, _, _ => exact a01.symm
            | 1, 1, _, _, h => exact absurd rfl h
            | 1, 2, _, _, _ => exact a12
            | 1, 3, _, _, _ => exact a13
            | 2, 0, _, _, _ => exact a02.symm
            | 2, 1, _, _, _ => exact a12.symm
            | 2, 2, _, _, h => exact absurd rfl h
            | 2, 3, _, _, _ => exact a23
            | 3, 0, _, _, _ => exact a03.symm
            | 3, 1, _, _, _ => exact a13.symm
            | 3, 2, _, _, _ => exact a23.symm
            | 3, 3, _, _, h => exact absurd rfl h
          · intro j hj
            match j, hj with
            | 0, _ => show F.vars.length ≤ _; omega
            | 1, _ => show F.homes.length ≤ _; omega
            | 2, _ => show F.vars.length ≤ _; omega
            | 3, _ => show F.homes.length ≤ _; omega
        go_wp2_with (first
          | (go_at_call 17
             refine (HAP.out _).mono ?_
             rintro e w11 ⟨rfl, hc11⟩
             have hx := ext_trans (ext_trans B5W.out HM2.out) (ext_alloc Y (.cells #[.slice a1 F.vars.length c1, .slice a2 F.homes.length c2, .slice a7 F.vars.length c7, .slice a8 F.homes.length c8] 22))
             have hbel := hc11.below (B := w3.heap.size) (by simp; omega) HSB.out
             have B11 : Hid (Below w.heap.size w w11) := (ext_trans E3.out hx).trans (hbel.mono E3.out.size)
             have L11 : Hid (Lent w11 w.heap.size (.slice (some ⟨b1, 0, none⟩) xs.length k1) xs) := (L13.out.ext hx).chg hc11 (fun gg e hs => by have := L13.out.lt gg e; have := HSB.out gg hs; omega)
             have L21 : Hid (Lent w11 w1.heap.size (.slice (some ⟨b2, 0, none⟩) rs.length k2) rs) := (L23.out.ext hx).chg hc11 (fun gg e hs => by have := L23.out.lt gg e; have := HSB.out gg hs; omega)
             clear hx hbel hc11 f0 f1 r0 r1)
          | (go_at_call 18
             (with_reducible refine (keptInts_any w.heap.size (.slice (some ⟨b1, 0, none⟩) xs.length k1) a xs.length c xs _ L11.out (H.out.ext B11.out) (by omega)).mono ?_)
             rintro e w12 ⟨rfl, q12, hq12⟩
             have B12 : Hid (Below w.heap.size w w12) := by rw [hq12]; exact below_drewN B11.out q12
             have L22 : Hid (Lent w12 w1.heap.size (.slice (some ⟨b2, 0, none⟩) rs.length k2) rs) := by rw [hq12]; exact L21.out
             clear hq12)
          | (go_at_call 18
             (with_reducible refine (keptInts_any w1.heap.size (.slice (some ⟨b2, 0, none⟩) rs.length k2) a'' rs.length c'' rs _ L22.out (H''.out.ext B12.out) (by omega)).mono ?_)
             rintro e w13 ⟨rfl, q13, hq13⟩
             have B13 : Hid (Below w.heap.size w w13) := by rw [hq13]; exact below_drewN B12.out q13
             clear hq13)
          | (go_at_call 9
             refine (awake_any _).mono ?_
             rintro e w14 ⟨rfl, hb14⟩
             have B14 := Lib.hid (ext_trans B13.out hb14)
             clear hb14))
        go_ret
        exact ⟨rfl, B14.out⟩
end Go.Proofs.Ytkakanjoeofjcaa
