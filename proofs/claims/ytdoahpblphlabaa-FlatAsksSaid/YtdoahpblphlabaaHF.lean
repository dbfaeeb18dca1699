/-
  Flat: the reference's before (30).
-/
import Derived.Test.YtdoahpblphlabaaHE
import Derived.Test.YtdoahpblphlabaaFW
namespace Go.Proofs.Ytdoahpblphlabaa
set_option linter.unusedSimpArgs false
set_option linter.unusedVariables false
open Go.RowKit

theorem ask30_any (m : MachD) (a1 a2 : Option Addr) (n1 c1 n2 c2 : Nat) (e : Ev30) (x : Int × Bool × Int) (w : World) (hm : MachOK w m a1 n1 c1 a2 n2 c2) (hok : Ev30OK w e) (hw : Ev30What e) :
    Calls Try.prog 52 #[machV m a1 n1 c1 a2 n2 c2, ev30V e, factV x] w (AskPost w (ask30V m e x)) := by
  obtain ⟨k, s, t⟩ := e
  rcases hw with h | ⟨h, hi⟩ | h | h
  · obtain rfl : k = 1 := h
    by_cases hd : x.1 = s.d.dst
    · have : ask30V m ⟨1, s, t⟩ x = (3, (s.d.a, x.2)) := by simp [ask30V, hd]
      rw [this]
      exact ask30_copy_yes m a1 a2 n1 c1 n2 c2 s t x w (by simpa using hd)
    · have : ask30V m ⟨1, s, t⟩ x = (3, x) := by simp [ask30V, hd]
      rw [this]
      exact ask30_copy_no m a1 a2 n1 c1 n2 c2 s t x w (by simpa using hd)
  · obtain rfl : k = 2 := h
    cases hf : first30 (w30 m t.d) x.2 with
    | true =>
      have : ask30V m ⟨2, s, t⟩ x = (3, (x.1, headL (reads06L t.d))) := by simp [ask30V, hf]
      rw [this]
      exact ask30_ins_yes m a1 a2 n1 c1 n2 c2 s t x w hi hf
    | false =>
      have : ask30V m ⟨2, s, t⟩ x = (3, x) := by simp [ask30V, hf]
      rw [this]
      exact ask30_ins_no m a1 a2 n1 c1 n2 c2 s t x w hi hf
  · obtain rfl : k = 3 := h
    exact ask30_done m a1 a2 n1 c1 n2 c2 s t x w hm hok.1
  · obtain rfl : k = 4 := h
    exact ask30_end m a1 a2 n1 c1 n2 c2 s t x w
/-- ahead of events, the last one first -/
def before30Go (m : MachD) : List Ev30 → (Int × Bool × Int) → Int × (Int × Bool × Int)
  | [], x => (3, x)
  | e :: es, x => if (ask30V m e x).1 = 3 then before30Go m es (ask30V m e x).2 else ((ask30V m e x).1, (0, false, 0))
def before30V (m : MachD) (es : List Ev30) (x : Int × Bool × Int) : Int × (Int × Bool × Int) := before30Go m es.reverse x
theorem before30_step (m : MachD) (es : List Ev30) (j : Nat) (e : Ev30) (he : es[j]? = some e) (x : Int × Bool × Int) : before30V m (es.take (j + 1)) x = if (ask30V m e x).1 = 3 then before30V m (es.take j) (ask30V m e x).2 else ((ask30V m e x).1, (0, false, 0)) := by
  unfold before30V
  rw [List.take_add_one, he]
  simp only [Option.toList_some, List.reverse_append, List.reverse_cons, List.reverse_nil, List.nil_append, List.cons_append, before30Go]
theorem ev30_cells {w : World} {a : Option Addr} {n : Nat} {es : List Ev30} (h : Ev30s w a n es) {k : Nat} (hk : k < n) : ∃ e b o, es[k]? = some e ∧ a = some ⟨b, o, none⟩ ∧ ∀ j, j < 17 → w.cell? ⟨b, o + k * 17 + j, none⟩ = (ev30C e)[j]? := by
  have hk' : k < es.length := by rw [h.1]; exact hk
  obtain ⟨e, he⟩ : ∃ e, es[k]? = some e := ⟨es[k], List.getElem?_eq_getElem hk'⟩
  obtain ⟨b, o, ea, hc⟩ := h.2.2 k e he
  exact ⟨e, b, o, he, ea, hc⟩
theorem ask30_i64 (m : MachD) (e : Ev30) (x : Int × Bool × Int) : True := trivial
set_option maxRecDepth 100000 in
set_option maxHeartbeats 8000000 in
theorem before30_any (m : MachD) (a1 a2 : Option Addr) (n1 c1 n2 c2 : Nat) (ea : Option Addr) (L ec n : Nat) (es : List Ev30) (x : Int × Bool × Int) (w : World) (hm : MachOK w m a1 n1 c1 a2 n2 c2) (he : Ev30s w ea L es) (hok : ∀ e ∈ es, Ev30OK w e ∧ Ev30What e) (hn : n ≤ L) :
    Calls Try.prog 25 #[machV m a1 n1 c1 a2 n2 c2, .slice ea L ec, .int .i64 (n : Int), factV x] w (AskPost w (before30V m (es.take n) x)) := by
  have HM := Lib.hid hm
  have HE := Lib.hid he
  have hL := he.2.1
  have HOKS := Lib.hid hok
  clear hm he hok
  obtain ⟨W0, HW0, hM, hF, hR, hW0⟩ : ∃ W0, Hid (Below w.heap.size w W0) ∧ W0.heap[w.heap.size]? = some (machO m a1 n1 c1 a2 n2 c2) ∧ W0.heap[w.heap.size + 1]? = some (factO x) ∧ W0.heap[w.heap.size + 1 + 1]? = some (factO (0, false, 0)) ∧ ((w.alloc (machO m a1 n1 c1 a2 n2 c2)).alloc (factO x)).alloc (factO (0, false, 0)) = W0 :=
    ⟨_, ext_trans (ext_trans (ext_alloc _ _) (ext_alloc _ _)) (ext_alloc _ _), (box3 w _ _ _).1, (box3 w _ _ _).2.1, (box3 w _ _ _).2.2, rfl⟩
  obtain ⟨total, htot⟩ : ∃ total, before30V m (es.take n) x = total := ⟨_, rfl⟩
  rw [htot]
  have HTot := Lib.hid htot
  have HM0 := Lib.hid hM
  have HF0 := Lib.hid hF
  have HR0 := Lib.hid hR
  clear htot hM hF hR
  go_enter Try.func25, Try.ntmps25
  go_wp2
  go_loopw [10, 11, 12] (fun i _ _ wr => ∃ (j : Nat) (y : Int × Bool × Int), j ≤ n ∧ i = .int .i64 ((j : Int) - 1) ∧ wr.heap[w.heap.size]? = some (machO m a1 n1 c1 a2 n2 c2) ∧ wr.heap[w.heap.size + 1]? = some (factO y) ∧ wr.heap[w.heap.size + 1 + 1]? = some (factO (0, false, 0)) ∧ Below w.heap.size w wr ∧ True ∧ Hid (before30V m (es.take j) y = total)) (fun i _ _ _ => (intOf i + 1).toNat)
  case atStart => exact ⟨n, x, by omega, rfl, HM0.out, HF0.out, HR0.out, HW0.out, trivial, HTot⟩
  case round =>
    obtain ⟨j', y, hj, rfl, hM, hF, hR, hB, HRok, HGo⟩ := hrel
    have HhM := Lib.hid hM
    have HhF := Lib.hid hF
    have HhR := Lib.hid hR
    have HB := Lib.hid hB
    have hRlt : w.heap.size + 1 + 1 < wr.heap.size := (Array.getElem?_eq_some_iff.1 hR).1
    cases j' with
    | zero =>
      have rr0 : wr.cell? ⟨w.heap.size + 1 + 1, 0, none⟩ = some (.int .i64 0) := by rw [cell_of_row _ _ _ _ _ _ hR]; rfl
      have rr1 : wr.cell? ⟨w.heap.size + 1 + 1, 1, none⟩ = some (.bool false) := by rw [cell_of_row _ _ _ _ _ _ hR]; rfl
      have rr2 : wr.cell? ⟨w.heap.size + 1 + 1, 2, none⟩ = some (.int .i64 0) := by rw [cell_of_row _ _ _ _ _ _ hR]; rfl
      have zr0 := frozen_of_row _ _ 0 _ _ hR
      have zr1 := frozen_of_row _ _ 1 _ _ hR
      have zr2 := frozen_of_row _ _ 2 _ _ hR
      have ff0 : wr.cell? ⟨w.heap.size + 1, 0, none⟩ = some (.int .i64 y.1) := by rw [cell_of_row _ _ _ _ _ _ hF]; rfl
      have ff1 : wr.cell? ⟨w.heap.size + 1, 1, none⟩ = some (.bool y.2.1) := by rw [cell_of_row _ _ _ _ _ _ hF]; rfl
      have ff2 : wr.cell? ⟨w.heap.size + 1, 2, none⟩ = some (.int .i64 y.2.2) := by rw [cell_of_row _ _ _ _ _ _ hF]; rfl
      clear hM hF hR hB
      have hi0 : IntKind.i64.wrap (((0 : Nat) : Int) - 1) = -1 := rfl
      go_wp2
      go_region
      all_goals
        go_wp2
        refine bodyPost_ret (v := .tuple #[.int .i64 3, .agg #[.int .i64 y.1, .bool y.2.1, .int .i64 y.2.2]]) ?_ rfl ⟨by rw [← HGo.out]; rfl, ?_⟩
        · simp [results, Try.results25, go_sem, rr0, rr1, rr2]
        · exact ext_drewN (below3 HB.out (by omega)) 1
    | succ j =>
      obtain ⟨ev, b, o, hev, rfl, hc⟩ := ev30_cells (HE.out.ext ev30C_len HB.out) (k := j) (by omega)
      have HOK := Lib.hid (HOKS.out ev (List.mem_of_getElem? hev))
      have hgo := HGo.out
      rw [before30_step m es j ev hev] at hgo
      obtain ⟨r, hr⟩ : ∃ r, ask30V m ev y = r := ⟨_, rfl⟩
      rw [hr] at hgo
      have HAR := Lib.hid hr
      clear HGo
      have HGo := Lib.hid hgo
      clear hgo hr
      have km0 : ∀ n : ExtW wr, n.val.cell? ⟨w.heap.size, 0, none⟩ = some (.int .i64 m.regs) := fun n => by rw [cell_of_row _ _ _ _ _ _ (block_ext n.ext hM)]; rfl
      have km1 : ∀ n : ExtW wr, n.val.cell? ⟨w.heap.size, 1, none⟩ = some (.slice a1 n1 c1) := fun n => by rw [cell_of_row _ _ _ _ _ _ (block_ext n.ext hM)]; rfl
      have km2 : ∀ n : ExtW wr, n.val.cell? ⟨w.heap.size, 2, none⟩ = some (.int .i64 m.ret) := fun n => by rw [cell_of_row _ _ _ _ _ _ (block_ext n.ext hM)]; rfl
      have km3 : ∀ n : ExtW wr, n.val.cell? ⟨w.heap.size, 3, none⟩ = some (.slice a2 n2 c2) := fun n => by rw [cell_of_row _ _ _ _ _ _ (block_ext n.ext hM)]; rfl
      have kf0 : ∀ n : ExtW wr, n.val.cell? ⟨w.heap.size + 1, 0, none⟩ = some (.int .i64 y.1) := fun n => by rw [cell_of_row _ _ _ _ _ _ (block_ext n.ext hF)]; rfl
      have kf1 : ∀ n : ExtW wr, n.val.cell? ⟨w.heap.size + 1, 1, none⟩ = some (.bool y.2.1) := fun n => by rw [cell_of_row _ _ _ _ _ _ (block_ext n.ext hF)]; rfl
      have kf2 : ∀ n : ExtW wr, n.val.cell? ⟨w.heap.size + 1, 2, none⟩ = some (.int .i64 y.2.2) := fun n => by rw [cell_of_row _ _ _ _ _ _ (block_ext n.ext hF)]; rfl
      have ke0 : ∀ n : ExtW wr, n.val.cell? ⟨b, o + j * 17, none⟩ = some (.int .i64 ev.what) := fun n => cell_ext n.ext (hc 0 (by omega))
      have ke1 : ∀ n : ExtW wr, n.val.cell? ⟨b, o + j * 17 + 1, none⟩ = some (.int .i64 ev.s.d.op) := fun n => cell_ext n.ext (hc 1 (by omega))
      have ke2 : ∀ n : ExtW wr, n.val.cell? ⟨b, o + j * 17 + 2, none⟩ = some (.int .i64 ev.s.d.dst) := fun n => cell_ext n.ext (hc 2 (by omega))
      have ke3 : ∀ n : ExtW wr, n.val.cell? ⟨b, o + j * 17 + 3, none⟩ = some (.int .i64 ev.s.d.a) := fun n => cell_ext n.ext (hc 3 (by omega))
      have ke4 : ∀ n : ExtW wr, n.val.cell? ⟨b, o + j * 17 + 4, none⟩ = some (.int .i64 ev.s.d.b) := fun n => cell_ext n.ext (hc 4 (by omega))
      have ke5 : ∀ n : ExtW wr, n.val.cell? ⟨b, o + j * 17 + 5, none⟩ = some (.int .i64 ev.s.d.imm) := fun n => cell_ext n.ext (hc 5 (by omega))
      have ke6 : ∀ n : ExtW wr, n.val.cell? ⟨b, o + j * 17 + 6, none⟩ = some (.int .i64 ev.s.d.callee) := fun n => cell_ext n.ext (hc 6 (by omega))
      have ke7 : ∀ n : ExtW wr, n.val.cell? ⟨b, o + j * 17 + 7, none⟩ = some (.slice ev.s.aa ev.s.na ev.s.ca) := fun n => cell_ext n.ext (hc 7 (by omega))
      have ke8 : ∀ n : ExtW wr, n.val.cell? ⟨b, o + j * 17 + 8, none⟩ = some (.int .i64 ev.s.d.many) := fun n => cell_ext n.ext (hc 8 (by omega))
      have ke9 : ∀ n : ExtW wr, n.val.cell? ⟨b, o + j * 17 + 9, none⟩ = some (.int .i64 ev.t.d.op) := fun n => cell_ext n.ext (hc 9 (by omega))
      have ke10 : ∀ n : ExtW wr, n.val.cell? ⟨b, o + j * 17 + 10, none⟩ = some (.int .i64 ev.t.d.dst) := fun n => cell_ext n.ext (hc 10 (by omega))
      have ke11 : ∀ n : ExtW wr, n.val.cell? ⟨b, o + j * 17 + 11, none⟩ = some (.int .i64 ev.t.d.a) := fun n => cell_ext n.ext (hc 11 (by omega))
      have ke12 : ∀ n : ExtW wr, n.val.cell? ⟨b, o + j * 17 + 12, none⟩ = some (.int .i64 ev.t.d.b) := fun n => cell_ext n.ext (hc 12 (by omega))
      have ke13 : ∀ n : ExtW wr, n.val.cell? ⟨b, o + j * 17 + 13, none⟩ = some (.int .i64 ev.t.d.imm) := fun n => cell_ext n.ext (hc 13 (by omega))
      have ke14 : ∀ n : ExtW wr, n.val.cell? ⟨b, o + j * 17 + 14, none⟩ = some (.int .i64 ev.t.d.callee) := fun n => cell_ext n.ext (hc 14 (by omega))
      have ke15 : ∀ n : ExtW wr, n.val.cell? ⟨b, o + j * 17 + 15, none⟩ = some (.slice ev.t.aa ev.t.na ev.t.ca) := fun n => cell_ext n.ext (hc 15 (by omega))
      have ke16 : ∀ n : ExtW wr, n.val.cell? ⟨b, o + j * 17 + 16, none⟩ = some (.int .i64 ev.t.d.many) := fun n => cell_ext n.ext (hc 16 (by omega))
      have hj0 : (0 : Int) ≤ (j : Int) := by omega
      have hj1 : (j : Int) < (L : Int) := by omega
      rw [show (((j + 1 : Nat) : Int) - 1) = (j : Int) by omega]
      clear hM hF hR hB hc hev
      go_wp2
      refine z_start (fun w' => ∃ n : ExtW wr, w' = n.val) (by kernel_rfl) ?_
      obtain ⟨v0, F0, hv0⟩ : ∃ v0, Below wr.heap.size wr v0 ∧ wr.drew = v0 := ⟨_, ext_drewN (Below.refl _ _) 1, rfl⟩
      rw [hv0]
      clear hv0
      refine z_reads 0 6 (by kernel_rfl) ⟨⟨_, F0⟩, rfl⟩ ?_
      simp only [List.take_succ_cons, List.take_zero, List.drop_succ_cons, List.drop_zero]
      repeat (go_big_quiet_step (fail))
      refine wpQuiet_nil ?_
      clear km0 km1 km2 km3 kf0 kf1 kf2 ke0 ke1 ke2 ke3 ke4 ke5 ke6 ke7 ke8 ke9 ke10 ke11 ke12 ke13 ke14 ke15 ke16
      refine z_two 6 10 (by kernel_rfl) ?_ ?_
      · refine wpOp_at rfl rfl ?_
        go_simp
        refine (ask30_any m a1 a2 n1 c1 n2 c2 ev y v0 ((HM.out.ext HB.out).ext F0) ((HOK.out.1.ext HB.out).ext F0) HOK.out.2).mono ?_
        rw [HAR.out]
        rintro e v1 ⟨rfl, hb⟩
        have F1 : Below wr.heap.size wr v1 := ext_trans F0 hb
        refine ⟨Or.inr ⟨⟨_, F1⟩, rfl⟩, ?_⟩
        try simp only [Act.put, List.setIfInBounds_toArray, List.set_cons_succ, List.set_cons_zero]
        clear hb
        refine z_reads 7 3 (by kernel_rfl) ⟨⟨_, F1⟩, rfl⟩ ?_
        simp only [List.take_succ_cons, List.take_zero, List.drop_succ_cons, List.drop_zero]
        repeat (go_big_quiet_step (fail))
        refine wpQuiet_nil ?_
        refine z_one 10 (by kernel_rfl) ?_
        refine wpOp_at rfl rfl ?_
        refine op_allocB 35 rfl _ zero_fact ?_
        intro px v2 hb hpx FX
        have F2 : Below wr.heap.size wr v2 := ext_trans F1 hb
        have hpB : wr.heap.size ≤ px := by rw [hpx]; exact F1.size
        refine ⟨Or.inr ⟨⟨_, F2⟩, rfl⟩, ?_⟩
        try simp only [Act.put, List.setIfInBounds_toArray, List.set_cons_succ, List.set_cons_zero]
        clear hb hpx
        refine z_reads 11 1 (by kernel_rfl) ⟨⟨_, F2⟩, rfl⟩ ?_
        simp only [List.take_succ_cons, List.take_zero, List.drop_succ_cons, List.drop_zero]
        repeat (go_big_quiet_step (fail))
        refine wpQuiet_nil ?_
        refine z_one 12 (by kernel_rfl) ?_
        refine wpOp_at rfl rfl ?_
        refine op_store_rowB 35 _ _ rfl px #[.int .i64 r.2.1, .bool r.2.2.1, .int .i64 r.2.2.2] rfl rfl 35 _ FX (by kernel_rfl) rfl (by simp [Value.oneCell']) _ _ F2 hpB ?_
        intro v3 F3 FX2
        refine ⟨Or.inr ⟨⟨_, F3⟩, rfl⟩, ?_⟩
        try simp only [Act.put, List.setIfInBounds_toArray, List.set_cons_succ, List.set_cons_zero]
        refine z_done (by kernel_rfl) ?_
        have bM := block_ext F3 HhM.out
        have bF := block_ext F3 HhF.out
        have bR := block_ext F3 HhR.out
        have HBv := Lib.hid (ext_trans HB.out F3)
        have hsz := F3.size
        have rr0 : v3.cell? ⟨w.heap.size + 1 + 1, 0, none⟩ = some (.int .i64 0) := by rw [cell_of_row _ _ _ _ _ _ bR]; rfl
        have rr1 : v3.cell? ⟨w.heap.size + 1 + 1, 1, none⟩ = some (.bool false) := by rw [cell_of_row _ _ _ _ _ _ bR]; rfl
        have rr2 : v3.cell? ⟨w.heap.size + 1 + 1, 2, none⟩ = some (.int .i64 0) := by rw [cell_of_row _ _ _ _ _ _ bR]; rfl
        have zr0 := frozen_of_row _ _ 0 _ _ bR
        have zr1 := frozen_of_row _ _ 1 _ _ bR
        have zr2 := frozen_of_row _ _ 2 _ _ bR
        have ff0 : v3.cell? ⟨w.heap.size + 1, 0, none⟩ = some (.int .i64 y.1) := by rw [cell_of_row _ _ _ _ _ _ bF]; rfl
        have ff1 : v3.cell? ⟨w.heap.size + 1, 1, none⟩ = some (.bool y.2.1) := by rw [cell_of_row _ _ _ _ _ _ bF]; rfl
        have ff2 : v3.cell? ⟨w.heap.size + 1, 2, none⟩ = some (.int .i64 y.2.2) := by rw [cell_of_row _ _ _ _ _ _ bF]; rfl
        have zf0 := frozen_of_row _ _ 0 _ _ bF
        have zf1 := frozen_of_row _ _ 1 _ _ bF
        have zf2 := frozen_of_row _ _ 2 _ _ bF
        have p0 : v3.cell? ⟨px, 0, none⟩ = some (.int .i64 r.2.1) := by rw [cell_of_row _ _ _ _ _ _ FX2]; rfl
        have p1 : v3.cell? ⟨px, 1, none⟩ = some (.bool r.2.2.1) := by rw [cell_of_row _ _ _ _ _ _ FX2]; rfl
        have p2 : v3.cell? ⟨px, 2, none⟩ = some (.int .i64 r.2.2.2) := by rw [cell_of_row _ _ _ _ _ _ FX2]; rfl
        have HbM := Lib.hid bM
        have HbF := Lib.hid bF
        have HbR := Lib.hid bR
        clear bM bF bR FX2
        by_cases h3 : r.1 = 3
        · have hb3 : (r.1 != 3) = false := by simp [h3]
          rw [if_pos h3] at HGo
          go_wp2
          go_roundw
          case measure => simp [intOf] <;> omega
          case rel => exact ⟨j, r.2, by omega, by rw [show (j : Int) - 1 = (j : Int) - 1 from rfl], other3 HbM.out (by omega), row_set3 HbF.out, other3 HbR.out (by omega), below3 HBv.out (by omega), HRok, HGo⟩
        · have hb3 : (r.1 != 3) = true := by simp [h3]
          rw [if_neg h3] at HGo
          go_wp2
          refine bodyPost_ret (v := .tuple #[.int .i64 r.1, .agg #[.int .i64 0, .bool false, .int .i64 0]]) ?_ rfl ⟨by rw [← HGo.out], ?_⟩
          · simp [results, Try.results25, go_sem, rr0, rr1, rr2]
          · exact below3 HBv.out (by omega)
      · refine wpOp_at rfl rfl ?_
        refine op_allocB 35 rfl _ zero_fact ?_
        intro px v1 hb hpx FX
        have F1 : Below wr.heap.size wr v1 := ext_trans F0 hb
        have hpB : wr.heap.size ≤ px := by rw [hpx]; exact F0.size
        refine ⟨Or.inr ⟨⟨_, F1⟩, rfl⟩, ?_⟩
        try simp only [Act.put, List.setIfInBounds_toArray, List.set_cons_succ, List.set_cons_zero]
        clear hb hpx
        refine z_one 6 (by kernel_rfl) ?_
        refine wpOp_at rfl rfl ?_
        go_simp
        refine (ask30_any m a1 a2 n1 c1 n2 c2 ev y v1 ((HM.out.ext HB.out).ext F1) ((HOK.out.1.ext HB.out).ext F1) HOK.out.2).mono ?_
        rw [HAR.out]
        rintro e v2 ⟨rfl, hb⟩
        have F2 : Below wr.heap.size wr v2 := ext_trans F1 hb
        replace FX := block_ext hb FX
        refine ⟨Or.inr ⟨⟨_, F2⟩, rfl⟩, ?_⟩
        try simp only [Act.put, List.setIfInBounds_toArray, List.set_cons_succ, List.set_cons_zero]
        clear hb
        refine z_reads 7 3 (by kernel_rfl) ⟨⟨_, F2⟩, rfl⟩ ?_
        simp only [List.take_succ_cons, List.take_zero, List.drop_succ_cons, List.drop_zero]
        repeat (go_big_quiet_step (fail))
        refine wpQuiet_nil ?_
        refine z_reads 11 1 (by kernel_rfl) ⟨⟨_, F2⟩, rfl⟩ ?_
        simp only [List.take_succ_cons, List.take_zero, List.drop_succ_cons, List.drop_zero]
        repeat (go_big_quiet_step (fail))
        refine wpQuiet_nil ?_
        refine z_one 12 (by kernel_rfl) ?_
        refine wpOp_at rfl rfl ?_
        refine op_store_rowB 35 _ _ rfl px #[.int .i64 r.2.1, .bool r.2.2.1, .int .i64 r.2.2.2] rfl rfl 35 _ FX (by kernel_rfl) rfl (by simp [Value.oneCell']) _ _ F2 hpB ?_
        intro v3 F3 FX2
        refine ⟨Or.inr ⟨⟨_, F3⟩, rfl⟩, ?_⟩
        try simp only [Act.put, List.setIfInBounds_toArray, List.set_cons_succ, List.set_cons_zero]
        refine z_done (by kernel_rfl) ?_
        have bM := block_ext F3 HhM.out
        have bF := block_ext F3 HhF.out
        have bR := block_ext F3 HhR.out
        have HBv := Lib.hid (ext_trans HB.out F3)
        have hsz := F3.size
        have rr0 : v3.cell? ⟨w.heap.size + 1 + 1, 0, none⟩ = some (.int .i64 0) := by rw [cell_of_row _ _ _ _ _ _ bR]; rfl
        have rr1 : v3.cell? ⟨w.heap.size + 1 + 1, 1, none⟩ = some (.bool false) := by rw [cell_of_row _ _ _ _ _ _ bR]; rfl
        have rr2 : v3.cell? ⟨w.heap.size + 1 + 1, 2, none⟩ = some (.int .i64 0) := by rw [cell_of_row _ _ _ _ _ _ bR]; rfl
        have zr0 := frozen_of_row _ _ 0 _ _ bR
        have zr1 := frozen_of_row _ _ 1 _ _ bR
        have zr2 := frozen_of_row _ _ 2 _ _ bR
        have ff0 : v3.cell? ⟨w.heap.size + 1, 0, none⟩ = some (.int .i64 y.1) := by rw [cell_of_row _ _ _ _ _ _ bF]; rfl
        have ff1 : v3.cell? ⟨w.heap.size + 1, 1, none⟩ = some (.bool y.2.1) := by rw [cell_of_row _ _ _ _ _ _ bF]; rfl
        have ff2 : v3.cell? ⟨w.heap.size + 1, 2, none⟩ = some (.int .i64 y.2.2) := by rw [cell_of_row _ _ _ _ _ _ bF]; rfl
        have zf0 := frozen_of_row _ _ 0 _ _ bF
        have zf1 := frozen_of_row _ _ 1 _ _ bF
        have zf2 := frozen_of_row _ _ 2 _ _ bF
        have p0 : v3.cell? ⟨px, 0, none⟩ = some (.int .i64 r.2.1) := by rw [cell_of_row _ _ _ _ _ _ FX2]; rfl
        have p1 : v3.cell? ⟨px, 1, none⟩ = some (.bool r.2.2.1) := by rw [cell_of_row _ _ _ _ _ _ FX2]; rfl
        have p2 : v3.cell? ⟨px, 2, none⟩ = some (.int .i64 r.2.2.2) := by rw [cell_of_row _ _ _ _ _ _ FX2]; rfl
        have HbM := Lib.hid bM
        have HbF := Lib.hid bF
        have HbR := Lib.hid bR
        clear bM bF bR FX2
        by_cases h3 : r.1 = 3
        · have hb3 : (r.1 != 3) = false := by simp [h3]
          rw [if_pos h3] at HGo
          go_wp2
          go_roundw
          case measure => simp [intOf] <;> omega
          case rel => exact ⟨j, r.2, by omega, by rw [show (j : Int) - 1 = (j : Int) - 1 from rfl], other3 HbM.out (by omega), row_set3 HbF.out, other3 HbR.out (by omega), below3 HBv.out (by omega), HRok, HGo⟩
        · have hb3 : (r.1 != 3) = true := by simp [h3]
          rw [if_neg h3] at HGo
          go_wp2
          refine bodyPost_ret (v := .tuple #[.int .i64 r.1, .agg #[.int .i64 0, .bool false, .int .i64 0]]) ?_ rfl ⟨by rw [← HGo.out], ?_⟩
          · simp [results, Try.results25, go_sem, rr0, rr1, rr2]
          · exact below3 HBv.out (by omega)
def events30N (m : MachD) (s t : BlkD) : Int := if does29B m s t then (go30 s.ins t.ins).length else 0
theorem even_of_29 {m : MachD} {s t : BlkD} (h : does29B m s t = true) : Even s.ins t.ins := by
  simp only [does29B, Bool.and_eq_true] at h
  by_cases e : (bareS s).length = (bareT t).length
  · exact e
  · have := eqFB_len (same29 m.args.length) _ _ e
    rw [this] at h
    simp at h
set_option maxRecDepth 100000 in
set_option maxHeartbeats 4000000 in
theorem events30N_any (m : MachD) (a1 a2 : Option Addr) (n1 c1 n2 c2 : Nat) (s t : BlkD) (sa ta : Option Addr) (ns cs nt ct : Nat) (w : World) (hm : MachOK w m a1 n1 c1 a2 n2 c2) (hs : BlkOK w s sa ns cs) (ht : BlkOK w t ta nt ct) :
    Calls Try.prog 13 #[machV m a1 n1 c1 a2 n2 c2, blkV s sa ns cs, blkV t ta nt ct] w fun e w' => e = .returned (.int .i64 (events30N m s t)) ∧ Below w.heap.size w w' := by
  have HM := Lib.hid hm
  have HS := Lib.hid hs
  have HT := Lib.hid ht
  have hbig := go30_len s.ins t.ins
  rw [hs.1.1.1, ht.1.1.1] at hbig
  have q2 := hs.2.1
  have q3 := ht.2.1
  clear hm hs ht
  obtain ⟨W0, HW0, hM, hS, hT, hW0⟩ : ∃ W0, Hid (Below w.heap.size w W0) ∧ W0.heap[w.heap.size]? = some (machO m a1 n1 c1 a2 n2 c2) ∧ W0.heap[w.heap.size + 1]? = some (blkO s sa ns cs) ∧ W0.heap[w.heap.size + 1 + 1]? = some (blkO t ta nt ct) ∧ ((w.alloc (machO m a1 n1 c1 a2 n2 c2)).alloc (blkO s sa ns cs)).alloc (blkO t ta nt ct) = W0 :=
    ⟨_, ext_trans (ext_trans (ext_alloc _ _) (ext_alloc _ _)) (ext_alloc _ _), (box3 w _ _ _).1, (box3 w _ _ _).2.1, (box3 w _ _ _).2.2, rfl⟩
  have xm0 : ∀ w', Below W0.heap.size W0 w' → w'.cell? ⟨w.heap.size, 0, none⟩ = some (.int .i64 m.regs) := fun w' hb => by rw [cell_of_row _ _ _ _ _ _ (block_ext hb hM)]; rfl
  have xm1 : ∀ w', Below W0.heap.size W0 w' → w'.cell? ⟨w.heap.size, 1, none⟩ = some (.slice a1 n1 c1) := fun w' hb => by rw [cell_of_row _ _ _ _ _ _ (block_ext hb hM)]; rfl
  have xm2 : ∀ w', Below W0.heap.size W0 w' → w'.cell? ⟨w.heap.size, 2, none⟩ = some (.int .i64 m.ret) := fun w' hb => by rw [cell_of_row _ _ _ _ _ _ (block_ext hb hM)]; rfl
  have xm3 : ∀ w', Below W0.heap.size W0 w' → w'.cell? ⟨w.heap.size, 3, none⟩ = some (.slice a2 n2 c2) := fun w' hb => by rw [cell_of_row _ _ _ _ _ _ (block_ext hb hM)]; rfl
  have xs0 : ∀ w', Below W0.heap.size W0 w' → w'.cell? ⟨w.heap.size + 1, 0, none⟩ = some (.slice sa ns cs) := fun w' hb => by rw [cell_of_row _ _ _ _ _ _ (block_ext hb hS)]; rfl
  have xs1 : ∀ w', Below W0.heap.size W0 w' → w'.cell? ⟨w.heap.size + 1, 1, none⟩ = some (.int .i64 s.kind) := fun w' hb => by rw [cell_of_row _ _ _ _ _ _ (block_ext hb hS)]; rfl
  have xs2 : ∀ w', Below W0.heap.size W0 w' → w'.cell? ⟨w.heap.size + 1, 2, none⟩ = some (.int .i64 s.a) := fun w' hb => by rw [cell_of_row _ _ _ _ _ _ (block_ext hb hS)]; rfl
  have xs3 : ∀ w', Below W0.heap.size W0 w' → w'.cell? ⟨w.heap.size + 1, 3, none⟩ = some (.int .i64 s.to0) := fun w' hb => by rw [cell_of_row _ _ _ _ _ _ (block_ext hb hS)]; rfl
  have xs4 : ∀ w', Below W0.heap.size W0 w' → w'.cell? ⟨w.heap.size + 1, 4, none⟩ = some (.int .i64 s.to1) := fun w' hb => by rw [cell_of_row _ _ _ _ _ _ (block_ext hb hS)]; rfl
  have xt0 : ∀ w', Below W0.heap.size W0 w' → w'.cell? ⟨w.heap.size + 1 + 1, 0, none⟩ = some (.slice ta nt ct) := fun w' hb => by rw [cell_of_row _ _ _ _ _ _ (block_ext hb hT)]; rfl
  have xt1 : ∀ w', Below W0.heap.size W0 w' → w'.cell? ⟨w.heap.size + 1 + 1, 1, none⟩ = some (.int .i64 t.kind) := fun w' hb => by rw [cell_of_row _ _ _ _ _ _ (block_ext hb hT)]; rfl
  have xt2 : ∀ w', Below W0.heap.size W0 w' → w'.cell? ⟨w.heap.size + 1 + 1, 2, none⟩ = some (.int .i64 t.a) := fun w' hb => by rw [cell_of_row _ _ _ _ _ _ (block_ext hb hT)]; rfl
  have xt3 : ∀ w', Below W0.heap.size W0 w' → w'.cell? ⟨w.heap.size + 1 + 1, 3, none⟩ = some (.int .i64 t.to0) := fun w' hb => by rw [cell_of_row _ _ _ _ _ _ (block_ext hb hT)]; rfl
  have xt4 : ∀ w', Below W0.heap.size W0 w' → w'.cell? ⟨w.heap.size + 1 + 1, 4, none⟩ = some (.int .i64 t.to1) := fun w' hb => by rw [cell_of_row _ _ _ _ _ _ (block_ext hb hT)]; rfl
  have E0 : Below W0.heap.size W0 W0 := Below.refl _ _
  clear hM hS hT
  cases hd : does29B m s t with
  | false =>
    have HE : Hid (events30N m s t = 0) := by rw [Hid, events30N, hd]; rfl
    go_enter Try.func13, Try.ntmps13
    go_wp2_with (go_at_call 23; refine (does29_any m a1 a2 n1 c1 n2 c2 s t sa ta ns cs nt ct W0 (HM.out.ext HW0.out) (HS.out.ext HW0.out) (HT.out.ext HW0.out)).mono ?_; rw [hd]; rintro e w1 ⟨rfl, hb1⟩; have HB1 := Lib.hid (ext_trans HW0.out hb1); clear hb1)
    go_ret
    exact ⟨by rw [HE.out]; rfl, HB1.out⟩
  | true =>
    have HE : Hid (events30N m s t = (go30 s.ins t.ins).length) := by rw [Hid, events30N, hd]; rfl
    have HEv := Lib.hid (even_of_29 hd)
    go_enter Try.func13, Try.ntmps13
    go_wp2_with (first
      | (go_at_call 23; refine (does29_any m a1 a2 n1 c1 n2 c2 s t sa ta ns cs nt ct W0 (HM.out.ext HW0.out) (HS.out.ext HW0.out) (HT.out.ext HW0.out)).mono ?_; rw [hd]; rintro e w1 ⟨rfl, E1⟩)
      | (go_at_call 24; refine (events30_any s t sa ta ns cs nt ct w1 ((HS.out.ext HW0.out).ext E1) ((HT.out.ext HW0.out).ext E1) HEv.out).mono ?_; rintro e w2 ⟨ra, rc, rfl, _, hb2⟩; have HB2 := Lib.hid (ext_trans (ext_trans HW0.out E1) hb2); clear hb2))
    go_ret
    exact ⟨by rw [HE.out]; rfl, HB2.out⟩
def before30B (m : MachD) (s t : BlkD) (n : Int) (x : Int × Bool × Int) : Int × (Int × Bool × Int) × Int :=
  if does29B m s t then if n < 0 ∨ ((go30 s.ins t.ins).length : Int) < n then (0, (0, false, 0), 2) else ((before30V m ((go30 s.ins t.ins).take n.toNat) x).1, (before30V m ((go30 s.ins t.ins).take n.toNat) x).2, 0) else (0, (0, false, 0), 13)
set_option maxRecDepth 100000 in
set_option maxHeartbeats 4000000 in
theorem before30_not (m : MachD) (a1 a2 : Option Addr) (n1 c1 n2 c2 : Nat) (s t : BlkD) (sa ta : Option Addr) (ns cs nt ct : Nat) (n : Int) (x : Int × Bool × Int) (w : World) (hm : MachOK w m a1 n1 c1 a2 n2 c2) (hs : BlkOK w s sa ns cs) (ht : BlkOK w t ta nt ct) (hd : does29B m s t = false) :
    Calls Try.prog 11 #[machV m a1 n1 c1 a2 n2 c2, blkV s sa ns cs, blkV t ta nt ct, .int .i64 n, factV x] w (BeforePost w (before30B m s t n x)) := by
  have HM := Lib.hid hm
  have HS := Lib.hid hs
  have HT := Lib.hid ht
  have hbig := go30_len s.ins t.ins
  rw [hs.1.1.1, ht.1.1.1] at hbig
  have q2 := hs.2.1
  have q3 := ht.2.1
  clear hm hs ht
  obtain ⟨W0, HW0, hM, hS, hT, hF, hY, hW0⟩ := box5 w (machO m a1 n1 c1 a2 n2 c2) (blkO s sa ns cs) (blkO t ta nt ct) (factO x) (factO (0, false, 0))
  have xm0 : ∀ w', Below W0.heap.size W0 w' → w'.cell? ⟨w.heap.size, 0, none⟩ = some (.int .i64 m.regs) := fun w' hb => by rw [cell_of_row _ _ _ _ _ _ (block_ext hb hM)]; rfl
  have xm1 : ∀ w', Below W0.heap.size W0 w' → w'.cell? ⟨w.heap.size, 1, none⟩ = some (.slice a1 n1 c1) := fun w' hb => by rw [cell_of_row _ _ _ _ _ _ (block_ext hb hM)]; rfl
  have xm2 : ∀ w', Below W0.heap.size W0 w' → w'.cell? ⟨w.heap.size, 2, none⟩ = some (.int .i64 m.ret) := fun w' hb => by rw [cell_of_row _ _ _ _ _ _ (block_ext hb hM)]; rfl
  have xm3 : ∀ w', Below W0.heap.size W0 w' → w'.cell? ⟨w.heap.size, 3, none⟩ = some (.slice a2 n2 c2) := fun w' hb => by rw [cell_of_row _ _ _ _ _ _ (block_ext hb hM)]; rfl
  have xs0 : ∀ w', Below W0.heap.size W0 w' → w'.cell? ⟨w.heap.size + 1, 0, none⟩ = some (.slice sa ns cs) := fun w' hb => by rw [cell_of_row _ _ _ _ _ _ (block_ext hb hS)]; rfl
  have xs1 : ∀ w', Below W0.heap.size W0 w' → w'.cell? ⟨w.heap.size + 1, 1, none⟩ = some (.int .i64 s.kind) := fun w' hb => by rw [cell_of_row _ _ _ _ _ _ (block_ext hb hS)]; rfl
  have xs2 : ∀ w', Below W0.heap.size W0 w' → w'.cell? ⟨w.heap.size + 1, 2, none⟩ = some (.int .i64 s.a) := fun w' hb => by rw [cell_of_row _ _ _ _ _ _ (block_ext hb hS)]; rfl
  have xs3 : ∀ w', Below W0.heap.size W0 w' → w'.cell? ⟨w.heap.size + 1, 3, none⟩ = some (.int .i64 s.to0) := fun w' hb => by rw [cell_of_row _ _ _ _ _ _ (block_ext hb hS)]; rfl
  have xs4 : ∀ w', Below W0.heap.size W0 w' → w'.cell? ⟨w.heap.size + 1, 4, none⟩ = some (.int .i64 s.to1) := fun w' hb => by rw [cell_of_row _ _ _ _ _ _ (block_ext hb hS)]; rfl
  have xt0 : ∀ w', Below W0.heap.size W0 w' → w'.cell? ⟨w.heap.size + 1 + 1, 0, none⟩ = some (.slice ta nt ct) := fun w' hb => by rw [cell_of_row _ _ _ _ _ _ (block_ext hb hT)]; rfl
  have xt1 : ∀ w', Below W0.heap.size W0 w' → w'.cell? ⟨w.heap.size + 1 + 1, 1, none⟩ = some (.int .i64 t.kind) := fun w' hb => by rw [cell_of_row _ _ _ _ _ _ (block_ext hb hT)]; rfl
  have xt2 : ∀ w', Below W0.heap.size W0 w' → w'.cell? ⟨w.heap.size + 1 + 1, 2, none⟩ = some (.int .i64 t.a) := fun w' hb => by rw [cell_of_row _ _ _ _ _ _ (block_ext hb hT)]; rfl
  have xt3 : ∀ w', Below W0.heap.size W0 w' → w'.cell? ⟨w.heap.size + 1 + 1, 3, none⟩ = some (.int .i64 t.to0) := fun w' hb => by rw [cell_of_row _ _ _ _ _ _ (block_ext hb hT)]; rfl
  have xt4 : ∀ w', Below W0.heap.size W0 w' → w'.cell? ⟨w.heap.size + 1 + 1, 4, none⟩ = some (.int .i64 t.to1) := fun w' hb => by rw [cell_of_row _ _ _ _ _ _ (block_ext hb hT)]; rfl
  have xf0 : ∀ w', Below W0.heap.size W0 w' → w'.cell? ⟨w.heap.size + 1 + 1 + 1, 0, none⟩ = some (.int .i64 x.1) := fun w' hb => by rw [cell_of_row _ _ _ _ _ _ (block_ext hb hF)]; rfl
  have xf1 : ∀ w', Below W0.heap.size W0 w' → w'.cell? ⟨w.heap.size + 1 + 1 + 1, 1, none⟩ = some (.bool x.2.1) := fun w' hb => by rw [cell_of_row _ _ _ _ _ _ (block_ext hb hF)]; rfl
  have xf2 : ∀ w', Below W0.heap.size W0 w' → w'.cell? ⟨w.heap.size + 1 + 1 + 1, 2, none⟩ = some (.int .i64 x.2.2) := fun w' hb => by rw [cell_of_row _ _ _ _ _ _ (block_ext hb hF)]; rfl
  have xy0 : ∀ w', Below W0.heap.size W0 w' → w'.cell? ⟨w.heap.size + 1 + 1 + 1 + 1, 0, none⟩ = some (.int .i64 0) := fun w' hb => by rw [cell_of_row _ _ _ _ _ _ (block_ext hb hY)]; rfl
  have xy1 : ∀ w', Below W0.heap.size W0 w' → w'.cell? ⟨w.heap.size + 1 + 1 + 1 + 1, 1, none⟩ = some (.bool false) := fun w' hb => by rw [cell_of_row _ _ _ _ _ _ (block_ext hb hY)]; rfl
  have xy2 : ∀ w', Below W0.heap.size W0 w' → w'.cell? ⟨w.heap.size + 1 + 1 + 1 + 1, 2, none⟩ = some (.int .i64 0) := fun w' hb => by rw [cell_of_row _ _ _ _ _ _ (block_ext hb hY)]; rfl
  have zy0 : ∀ w', Below W0.heap.size W0 w' → w'.frozen? ⟨w.heap.size + 1 + 1 + 1 + 1, 0, none⟩ = false := fun w' hb => frozen_of_row _ _ _ _ _ (block_ext hb hY)
  have zy1 : ∀ w', Below W0.heap.size W0 w' → w'.frozen? ⟨w.heap.size + 1 + 1 + 1 + 1, 1, none⟩ = false := fun w' hb => frozen_of_row _ _ _ _ _ (block_ext hb hY)
  have zy2 : ∀ w', Below W0.heap.size W0 w' → w'.frozen? ⟨w.heap.size + 1 + 1 + 1 + 1, 2, none⟩ = false := fun w' hb => frozen_of_row _ _ _ _ _ (block_ext hb hY)
  have hYlt : w.heap.size + 1 + 1 + 1 + 1 < W0.heap.size := (Array.getElem?_eq_some_iff.1 hY).1
  have HYb := Lib.hid hY
  have E0 : Below W0.heap.size W0 W0 := Below.refl _ _
  clear hM hS hT hF hY
  have HE : Hid (before30B m s t n x = (0, (0, false, 0), 13)) := by rw [Hid, before30B, hd]; rfl
  go_enter Try.func11, Try.ntmps11
  go_wp2_with (first
    | (go_at_call 23
       refine (does29_any m a1 a2 n1 c1 n2 c2 s t sa ta ns cs nt ct W0 (HM.out.ext HW0.out) (HS.out.ext HW0.out) (HT.out.ext HW0.out)).mono ?_
       rw [hd]
       rintro e w1 ⟨rfl, E1⟩
       have rr0 := xy0 w1 E1
       have zz0 := zy0 w1 E1
       have rr1 := xy1 w1 E1
       have zz1 := zy1 w1 E1
       have rr2 := xy2 w1 E1
       have zz2 := zy2 w1 E1
       have hlt1 : w.heap.size + 1 + 1 + 1 + 1 < w1.heap.size := by have := E1.size; omega
       skip))
  refine bodyPost_ret (v := .tuple #[.int .i64 0, .agg #[.int .i64 0, .bool false, .int .i64 0], .int .i64 13]) ?_ rfl ⟨by rw [HE.out], ?_⟩
  · simp [results, Try.results11, go_sem, rr0, rr1, rr2]
  · exact below3 (ext_trans HW0.out E1) (by omega)
set_option maxRecDepth 100000 in
set_option maxHeartbeats 4000000 in
theorem before30_arg (m : MachD) (a1 a2 : Option Addr) (n1 c1 n2 c2 : Nat) (s t : BlkD) (sa ta : Option Addr) (ns cs nt ct : Nat) (n : Int) (x : Int × Bool × Int) (w : World) (hm : MachOK w m a1 n1 c1 a2 n2 c2) (hs : BlkOK w s sa ns cs) (ht : BlkOK w t ta nt ct) (hd : does29B m s t = true) (hn : n < 0 ∨ ((go30 s.ins t.ins).length : Int) < n) :
    Calls Try.prog 11 #[machV m a1 n1 c1 a2 n2 c2, blkV s sa ns cs, blkV t ta nt ct, .int .i64 n, factV x] w (BeforePost w (before30B m s t n x)) := by
  have HM := Lib.hid hm
  have HS := Lib.hid hs
  have HT := Lib.hid ht
  have hbig := go30_len s.ins t.ins
  rw [hs.1.1.1, ht.1.1.1] at hbig
  have q2 := hs.2.1
  have q3 := ht.2.1
  clear hm hs ht
  obtain ⟨W0, HW0, hM, hS, hT, hF, hY, hW0⟩ := box5 w (machO m a1 n1 c1 a2 n2 c2) (blkO s sa ns cs) (blkO t ta nt ct) (factO x) (factO (0, false, 0))
  have xm0 : ∀ w', Below W0.heap.size W0 w' → w'.cell? ⟨w.heap.size, 0, none⟩ = some (.int .i64 m.regs) := fun w' hb => by rw [cell_of_row _ _ _ _ _ _ (block_ext hb hM)]; rfl
  have xm1 : ∀ w', Below W0.heap.size W0 w' → w'.cell? ⟨w.heap.size, 1, none⟩ = some (.slice a1 n1 c1) := fun w' hb => by rw [cell_of_row _ _ _ _ _ _ (block_ext hb hM)]; rfl
  have xm2 : ∀ w', Below W0.heap.size W0 w' → w'.cell? ⟨w.heap.size, 2, none⟩ = some (.int .i64 m.ret) := fun w' hb => by rw [cell_of_row _ _ _ _ _ _ (block_ext hb hM)]; rfl
  have xm3 : ∀ w', Below W0.heap.size W0 w' → w'.cell? ⟨w.heap.size, 3, none⟩ = some (.slice a2 n2 c2) := fun w' hb => by rw [cell_of_row _ _ _ _ _ _ (block_ext hb hM)]; rfl
  have xs0 : ∀ w', Below W0.heap.size W0 w' → w'.cell? ⟨w.heap.size + 1, 0, none⟩ = some (.slice sa ns cs) := fun w' hb => by rw [cell_of_row _ _ _ _ _ _ (block_ext hb hS)]; rfl
  have xs1 : ∀ w', Below W0.heap.size W0 w' → w'.cell? ⟨w.heap.size + 1, 1, none⟩ = some (.int .i64 s.kind) := fun w' hb => by rw [cell_of_row _ _ _ _ _ _ (block_ext hb hS)]; rfl
  have xs2 : ∀ w', Below W0.heap.size W0 w' → w'.cell? ⟨w.heap.size + 1, 2, none⟩ = some (.int .i64 s.a) := fun w' hb => by rw [cell_of_row _ _ _ _ _ _ (block_ext hb hS)]; rfl
  have xs3 : ∀ w', Below W0.heap.size W0 w' → w'.cell? ⟨w.heap.size + 1, 3, none⟩ = some (.int .i64 s.to0) := fun w' hb => by rw [cell_of_row _ _ _ _ _ _ (block_ext hb hS)]; rfl
  have xs4 : ∀ w', Below W0.heap.size W0 w' → w'.cell? ⟨w.heap.size + 1, 4, none⟩ = some (.int .i64 s.to1) := fun w' hb => by rw [cell_of_row _ _ _ _ _ _ (block_ext hb hS)]; rfl
  have xt0 : ∀ w', Below W0.heap.size W0 w' → w'.cell? ⟨w.heap.size + 1 + 1, 0, none⟩ = some (.slice ta nt ct) := fun w' hb => by rw [cell_of_row _ _ _ _ _ _ (block_ext hb hT)]; rfl
  have xt1 : ∀ w', Below W0.heap.size W0 w' → w'.cell? ⟨w.heap.size + 1 + 1, 1, none⟩ = some (.int .i64 t.kind) := fun w' hb => by rw [cell_of_row _ _ _ _ _ _ (block_ext hb hT)]; rfl
  have xt2 : ∀ w', Below W0.heap.size W0 w' → w'.cell? ⟨w.heap.size + 1 + 1, 2, none⟩ = some (.int .i64 t.a) := fun w' hb => by rw [cell_of_row _ _ _ _ _ _ (block_ext hb hT)]; rfl
  have xt3 : ∀ w', Below W0.heap.size W0 w' → w'.cell? ⟨w.heap.size + 1 + 1, 3, none⟩ = some (.int .i64 t.to0) := fun w' hb => by rw [cell_of_row _ _ _ _ _ _ (block_ext hb hT)]; rfl
  have xt4 : ∀ w', Below W0.heap.size W0 w' → w'.cell? ⟨w.heap.size + 1 + 1, 4, none⟩ = some (.int .i64 t.to1) := fun w' hb => by rw [cell_of_row _ _ _ _ _ _ (block_ext hb hT)]; rfl
  have xf0 : ∀ w', Below W0.heap.size W0 w' → w'.cell? ⟨w.heap.size + 1 + 1 + 1, 0, none⟩ = some (.int .i64 x.1) := fun w' hb => by rw [cell_of_row _ _ _ _ _ _ (block_ext hb hF)]; rfl
  have xf1 : ∀ w', Below W0.heap.size W0 w' → w'.cell? ⟨w.heap.size + 1 + 1 + 1, 1, none⟩ = some (.bool x.2.1) := fun w' hb => by rw [cell_of_row _ _ _ _ _ _ (block_ext hb hF)]; rfl
  have xf2 : ∀ w', Below W0.heap.size W0 w' → w'.cell? ⟨w.heap.size + 1 + 1 + 1, 2, none⟩ = some (.int .i64 x.2.2) := fun w' hb => by rw [cell_of_row _ _ _ _ _ _ (block_ext hb hF)]; rfl
  have xy0 : ∀ w', Below W0.heap.size W0 w' → w'.cell? ⟨w.heap.size + 1 + 1 + 1 + 1, 0, none⟩ = some (.int .i64 0) := fun w' hb => by rw [cell_of_row _ _ _ _ _ _ (block_ext hb hY)]; rfl
  have xy1 : ∀ w', Below W0.heap.size W0 w' → w'.cell? ⟨w.heap.size + 1 + 1 + 1 + 1, 1, none⟩ = some (.bool false) := fun w' hb => by rw [cell_of_row _ _ _ _ _ _ (block_ext hb hY)]; rfl
  have xy2 : ∀ w', Below W0.heap.size W0 w' → w'.cell? ⟨w.heap.size + 1 + 1 + 1 + 1, 2, none⟩ = some (.int .i64 0) := fun w' hb => by rw [cell_of_row _ _ _ _ _ _ (block_ext hb hY)]; rfl
  have zy0 : ∀ w', Below W0.heap.size W0 w' → w'.frozen? ⟨w.heap.size + 1 + 1 + 1 + 1, 0, none⟩ = false := fun w' hb => frozen_of_row _ _ _ _ _ (block_ext hb hY)
  have zy1 : ∀ w', Below W0.heap.size W0 w' → w'.frozen? ⟨w.heap.size + 1 + 1 + 1 + 1, 1, none⟩ = false := fun w' hb => frozen_of_row _ _ _ _ _ (block_ext hb hY)
  have zy2 : ∀ w', Below W0.heap.size W0 w' → w'.frozen? ⟨w.heap.size + 1 + 1 + 1 + 1, 2, none⟩ = false := fun w' hb => frozen_of_row _ _ _ _ _ (block_ext hb hY)
  have hYlt : w.heap.size + 1 + 1 + 1 + 1 < W0.heap.size := (Array.getElem?_eq_some_iff.1 hY).1
  have HYb := Lib.hid hY
  have E0 : Below W0.heap.size W0 W0 := Below.refl _ _
  clear hM hS hT hF hY
  have HE : Hid (before30B m s t n x = (0, (0, false, 0), 2)) := by rw [Hid, before30B, if_pos hd, if_pos hn]
  have HEv := Lib.hid (even_of_29 hd)
  have hway : decide (n < 0) = true ∨ (decide (n < 0) = false ∧ decide (((go30 s.ins t.ins).length : Int) < n) = true) := by
    by_cases h0 : n < 0
    · exact Or.inl (by simpa using h0)
    · exact Or.inr ⟨by simpa using h0, by simp; omega⟩
  clear hn
  rcases hway with d0 | ⟨d0, d1⟩
  all_goals
    go_enter Try.func11, Try.ntmps11
    go_wp2_with (first
      | (go_at_call 23
         refine (does29_any m a1 a2 n1 c1 n2 c2 s t sa ta ns cs nt ct W0 (HM.out.ext HW0.out) (HS.out.ext HW0.out) (HT.out.ext HW0.out)).mono ?_
         rw [hd]
         rintro e w1 ⟨rfl, E1⟩)
      | (go_at_call 24
         refine (events30_any s t sa ta ns cs nt ct w1 ((HS.out.ext HW0.out).ext E1) ((HT.out.ext HW0.out).ext E1) HEv.out).mono ?_
         rintro e w2 ⟨ra, rc, rfl, hr2, hb2⟩
         have E2 : Below W0.heap.size W0 w2 := ext_trans E1 hb2
         have HR2 := Lib.hid hr2
         clear hr2 hb2
         have rr0 := xy0 w2 E2
         have zz0 := zy0 w2 E2
         have rr1 := xy1 w2 E2
         have zz1 := zy1 w2 E2
         have rr2 := xy2 w2 E2
         have zz2 := zy2 w2 E2
         have hlt1 : w.heap.size + 1 + 1 + 1 + 1 < w2.heap.size := by have := E2.size; omega
         skip))
    refine bodyPost_ret (v := .tuple #[.int .i64 0, .agg #[.int .i64 0, .bool false, .int .i64 0], .int .i64 2]) ?_ rfl ⟨by rw [HE.out], ?_⟩
    · simp [results, Try.results11, go_sem, rr0, rr1, rr2]
    · exact below3 (ext_trans HW0.out E2) (by omega)
set_option maxRecDepth 100000 in
set_option maxHeartbeats 4000000 in
theorem before30_main (m : MachD) (a1 a2 : Option Addr) (n1 c1 n2 c2 : Nat) (s t : BlkD) (sa ta : Option Addr) (ns cs nt ct : Nat) (N : Nat) (x : Int × Bool × Int) (w : World) (hm : MachOK w m a1 n1 c1 a2 n2 c2) (hs : BlkOK w s sa ns cs) (ht : BlkOK w t ta nt ct) (hd : does29B m s t = true) (hn : N ≤ (go30 s.ins t.ins).length) :
    Calls Try.prog 11 #[machV m a1 n1 c1 a2 n2 c2, blkV s sa ns cs, blkV t ta nt ct, .int .i64 (N : Int), factV x] w (BeforePost w (before30B m s t (N : Int) x)) := by
  have hok := go30_ok w s.ins t.ins (even_of_29 hd) (fun r hr => hs.1.2 r hr) (fun r hr => ht.1.2 r hr)
  have HOK := Lib.hid hok
  clear hok
  have HM := Lib.hid hm
  have HS := Lib.hid hs
  have HT := Lib.hid ht
  have hbig := go30_len s.ins t.ins
  rw [hs.1.1.1, ht.1.1.1] at hbig
  have q2 := hs.2.1
  have q3 := ht.2.1
  clear hm hs ht
  obtain ⟨W0, HW0, hM, hS, hT, hF, hY, hW0⟩ := box5 w (machO m a1 n1 c1 a2 n2 c2) (blkO s sa ns cs) (blkO t ta nt ct) (factO x) (factO (0, false, 0))
  have xm0 : ∀ w', Below W0.heap.size W0 w' → w'.cell? ⟨w.heap.size, 0, none⟩ = some (.int .i64 m.regs) := fun w' hb => by rw [cell_of_row _ _ _ _ _ _ (block_ext hb hM)]; rfl
  have xm1 : ∀ w', Below W0.heap.size W0 w' → w'.cell? ⟨w.heap.size, 1, none⟩ = some (.slice a1 n1 c1) := fun w' hb => by rw [cell_of_row _ _ _ _ _ _ (block_ext hb hM)]; rfl
  have xm2 : ∀ w', Below W0.heap.size W0 w' → w'.cell? ⟨w.heap.size, 2, none⟩ = some (.int .i64 m.ret) := fun w' hb => by rw [cell_of_row _ _ _ _ _ _ (block_ext hb hM)]; rfl
  have xm3 : ∀ w', Below W0.heap.size W0 w' → w'.cell? ⟨w.heap.size, 3, none⟩ = some (.slice a2 n2 c2) := fun w' hb => by rw [cell_of_row _ _ _ _ _ _ (block_ext hb hM)]; rfl
  have xs0 : ∀ w', Below W0.heap.size W0 w' → w'.cell? ⟨w.heap.size + 1, 0, none⟩ = some (.slice sa ns cs) := fun w' hb => by rw [cell_of_row _ _ _ _ _ _ (block_ext hb hS)]; rfl
  have xs1 : ∀ w', Below W0.heap.size W0 w' → w'.cell? ⟨w.heap.size + 1, 1, none⟩ = some (.int .i64 s.kind) := fun w' hb => by rw [cell_of_row _ _ _ _ _ _ (block_ext hb hS)]; rfl
  have xs2 : ∀ w', Below W0.heap.size W0 w' → w'.cell? ⟨w.heap.size + 1, 2, none⟩ = some (.int .i64 s.a) := fun w' hb => by rw [cell_of_row _ _ _ _ _ _ (block_ext hb hS)]; rfl
  have xs3 : ∀ w', Below W0.heap.size W0 w' → w'.cell? ⟨w.heap.size + 1, 3, none⟩ = some (.int .i64 s.to0) := fun w' hb => by rw [cell_of_row _ _ _ _ _ _ (block_ext hb hS)]; rfl
  have xs4 : ∀ w', Below W0.heap.size W0 w' → w'.cell? ⟨w.heap.size + 1, 4, none⟩ = some (.int .i64 s.to1) := fun w' hb => by rw [cell_of_row _ _ _ _ _ _ (block_ext hb hS)]; rfl
  have xt0 : ∀ w', Below W0.heap.size W0 w' → w'.cell? ⟨w.heap.size + 1 + 1, 0, none⟩ = some (.slice ta nt ct) := fun w' hb => by rw [cell_of_row _ _ _ _ _ _ (block_ext hb hT)]; rfl
  have xt1 : ∀ w', Below W0.heap.size W0 w' → w'.cell? ⟨w.heap.size + 1 + 1, 1, none⟩ = some (.int .i64 t.kind) := fun w' hb => by rw [cell_of_row _ _ _ _ _ _ (block_ext hb hT)]; rfl
  have xt2 : ∀ w', Below W0.heap.size W0 w' → w'.cell? ⟨w.heap.size + 1 + 1, 2, none⟩ = some (.int .i64 t.a) := fun w' hb => by rw [cell_of_row _ _ _ _ _ _ (block_ext hb hT)]; rfl
  have xt3 : ∀ w', Below W0.heap.size W0 w' → w'.cell? ⟨w.heap.size + 1 + 1, 3, none⟩ = some (.int .i64 t.to0) := fun w' hb => by rw [cell_of_row _ _ _ _ _ _ (block_ext hb hT)]; rfl
  have xt4 : ∀ w', Below W0.heap.size W0 w' → w'.cell? ⟨w.heap.size + 1 + 1, 4, none⟩ = some (.int .i64 t.to1) := fun w' hb => by rw [cell_of_row _ _ _ _ _ _ (block_ext hb hT)]; rfl
  have xf0 : ∀ w', Below W0.heap.size W0 w' → w'.cell? ⟨w.heap.size + 1 + 1 + 1, 0, none⟩ = some (.int .i64 x.1) := fun w' hb => by rw [cell_of_row _ _ _ _ _ _ (block_ext hb hF)]; rfl
  have xf1 : ∀ w', Below W0.heap.size W0 w' → w'.cell? ⟨w.heap.size + 1 + 1 + 1, 1, none⟩ = some (.bool x.2.1) := fun w' hb => by rw [cell_of_row _ _ _ _ _ _ (block_ext hb hF)]; rfl
  have xf2 : ∀ w', Below W0.heap.size W0 w' → w'.cell? ⟨w.heap.size + 1 + 1 + 1, 2, none⟩ = some (.int .i64 x.2.2) := fun w' hb => by rw [cell_of_row _ _ _ _ _ _ (block_ext hb hF)]; rfl
  have xy0 : ∀ w', Below W0.heap.size W0 w' → w'.cell? ⟨w.heap.size + 1 + 1 + 1 + 1, 0, none⟩ = some (.int .i64 0) := fun w' hb => by rw [cell_of_row _ _ _ _ _ _ (block_ext hb hY)]; rfl
  have xy1 : ∀ w', Below W0.heap.size W0 w' → w'.cell? ⟨w.heap.size + 1 + 1 + 1 + 1, 1, none⟩ = some (.bool false) := fun w' hb => by rw [cell_of_row _ _ _ _ _ _ (block_ext hb hY)]; rfl
  have xy2 : ∀ w', Below W0.heap.size W0 w' → w'.cell? ⟨w.heap.size + 1 + 1 + 1 + 1, 2, none⟩ = some (.int .i64 0) := fun w' hb => by rw [cell_of_row _ _ _ _ _ _ (block_ext hb hY)]; rfl
  have zy0 : ∀ w', Below W0.heap.size W0 w' → w'.frozen? ⟨w.heap.size + 1 + 1 + 1 + 1, 0, none⟩ = false := fun w' hb => frozen_of_row _ _ _ _ _ (block_ext hb hY)
  have zy1 : ∀ w', Below W0.heap.size W0 w' → w'.frozen? ⟨w.heap.size + 1 + 1 + 1 + 1, 1, none⟩ = false := fun w' hb => frozen_of_row _ _ _ _ _ (block_ext hb hY)
  have zy2 : ∀ w', Below W0.heap.size W0 w' → w'.frozen? ⟨w.heap.size + 1 + 1 + 1 + 1, 2, none⟩ = false := fun w' hb => frozen_of_row _ _ _ _ _ (block_ext hb hY)
  have hYlt : w.heap.size + 1 + 1 + 1 + 1 < W0.heap.size := (Array.getElem?_eq_some_iff.1 hY).1
  have HYb := Lib.hid hY
  have E0 : Below W0.heap.size W0 W0 := Below.refl _ _
  clear hM hS hT hF hY
  obtain ⟨r, hr⟩ : ∃ r, before30V m ((go30 s.ins t.ins).take N) x = r := ⟨_, rfl⟩
  have HE : Hid (before30B m s t (N : Int) x = (r.1, r.2, 0)) := by rw [Hid, before30B, if_pos hd, if_neg (by omega), Int.toNat_natCast, hr]
  have HAR := Lib.hid hr
  have HEv := Lib.hid (even_of_29 hd)
  have d0 : decide ((N : Int) < 0) = false := by simp
  have d1 : decide (((go30 s.ins t.ins).length : Int) < (N : Int)) = false := by simp; omega
  have d2 : decide ((go30 s.ins t.ins).length < N) = false := by simp; omega
  clear hr
  go_enter Try.func11, Try.ntmps11
  go_wp2_with (first
    | (go_at_call 23
       refine (does29_any m a1 a2 n1 c1 n2 c2 s t sa ta ns cs nt ct W0 (HM.out.ext HW0.out) (HS.out.ext HW0.out) (HT.out.ext HW0.out)).mono ?_
       rw [hd]
       rintro e w1 ⟨rfl, E1⟩)
    | (go_at_call 24
       refine (events30_any s t sa ta ns cs nt ct w1 ((HS.out.ext HW0.out).ext E1) ((HT.out.ext HW0.out).ext E1) HEv.out).mono ?_
       rintro e w2 ⟨ra, rc, rfl, hr2, hb2⟩
       have E2 : Below W0.heap.size W0 w2 := ext_trans E1 hb2
       have HR2 := Lib.hid hr2
       clear hr2 hb2)
    | (go_at_call 25
       go_loud (
         refine (before30_any m a1 a2 n1 c1 n2 c2 ra _ rc N (go30 s.ins t.ins) x w2 ((HM.out.ext HW0.out).ext E2) HR2.out (fun e he => ⟨((HOK.out e he).1.ext HW0.out).ext E2, (HOK.out e he).2⟩) hn).mono ?_
         rw [HAR.out]
         rintro e w3 ⟨rfl, hb3⟩
         have E3 : Below W0.heap.size W0 w3 := ext_trans E2 hb3
         clear hb3))
    | (refine wpList_store_rowB rfl 35 _ _ rfl w3.heap.size #[.int .i64 r.2.1, .bool r.2.2.1, .int .i64 r.2.2.2] rfl rfl 35 _ (heap_alloc_new w3 _) (by kernel_rfl) rfl (by simp [Value.oneCell']) w3.heap.size w3 (ext_alloc w3 _) (Nat.le_refl _) ?_
       intro w4 hb4 X4
       have E4 : Below W0.heap.size W0 w4 := ext_trans E3 hb4
       have p0 : w4.cell? ⟨w3.heap.size, 0, none⟩ = some (.int .i64 r.2.1) := by rw [cell_of_row _ _ _ _ _ _ X4]; rfl
       have p1 : w4.cell? ⟨w3.heap.size, 1, none⟩ = some (.bool r.2.2.1) := by rw [cell_of_row _ _ _ _ _ _ X4]; rfl
       have p2 : w4.cell? ⟨w3.heap.size, 2, none⟩ = some (.int .i64 r.2.2.2) := by rw [cell_of_row _ _ _ _ _ _ X4]; rfl
       have hne : w3.heap.size ≠ w.heap.size + 1 + 1 + 1 + 1 := by have := E3.size; omega
       have rr0 := xy0 w4 E4
       have zz0 := zy0 w4 E4
       have rr1 := xy1 w4 E4
       have zz1 := zy1 w4 E4
       have rr2 := xy2 w4 E4
       have zz2 := zy2 w4 E4
       have hlt1 : w.heap.size + 1 + 1 + 1 + 1 < w4.heap.size := by have := E4.size; omega
       clear hb4 X4))
  clear xm0 xm1 xm2 xm3 xs0 xs1 xs2 xs3 xs4 xt0 xt1 xt2 xt3 xt4 xf0 xf1 xf2 xy0 xy1 xy2 zy0 zy1 zy2
  go_region
  all_goals
    go_wp2
    refine bodyPost_ret (v := .tuple #[.int .i64 r.1, .agg #[.int .i64 r.2.1, .bool r.2.2.1, .int .i64 r.2.2.2], .int .i64 0]) ?_ rfl ⟨by rw [HE.out], ?_⟩
    · simp [results, Try.results11, go_sem, rr0, rr1, rr2]
    · exact ext_drewN (below3 (ext_trans HW0.out E4) (by omega)) 1
theorem before30_any2 (m : MachD) (a1 a2 : Option Addr) (n1 c1 n2 c2 : Nat) (s t : BlkD) (sa ta : Option Addr) (ns cs nt ct : Nat) (n : Int) (x : Int × Bool × Int) (w : World) (hm : MachOK w m a1 n1 c1 a2 n2 c2) (hs : BlkOK w s sa ns cs) (ht : BlkOK w t ta nt ct) :
    Calls Try.prog 11 #[machV m a1 n1 c1 a2 n2 c2, blkV s sa ns cs, blkV t ta nt ct, .int .i64 n, factV x] w (BeforePost w (before30B m s t n x)) := by
  cases hd : does29B m s t with
  | false => exact before30_not m a1 a2 n1 c1 n2 c2 s t sa ta ns cs nt ct n x w hm hs ht hd
  | true =>
    by_cases hn : n < 0 ∨ ((go30 s.ins t.ins).length : Int) < n
    · exact before30_arg m a1 a2 n1 c1 n2 c2 s t sa ta ns cs nt ct n x w hm hs ht hd hn
    · obtain ⟨N, rfl⟩ : ∃ N : Nat, n = N := ⟨n.toNat, by omega⟩
      exact before30_main m a1 a2 n1 c1 n2 c2 s t sa ta ns cs nt ct N x w hm hs ht hd (by omega)
end Go.Proofs.Ytdoahpblphlabaa
