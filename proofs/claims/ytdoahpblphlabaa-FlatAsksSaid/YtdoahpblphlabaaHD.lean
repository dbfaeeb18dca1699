/-
  Flat: the reference's Does (29).
-/
import Derived.Test.YtdoahpblphlabaaGP
import Derived.Test.YtdoahpblphlabaaHB
import Derived.Test.YtdoahpblphlabaaFU
namespace Go.Proofs.Ytdoahpblphlabaa
set_option linter.unusedSimpArgs false
set_option linter.unusedVariables false
open Go.RowKit

def same29 (n : Nat) (r u : InsR) : Bool := alikeB r.d u.d && !isMany n u
def does29B (m : MachD) (s t : BlkD) : Bool :=
  right05B m && eqFB (same29 m.args.length) (bareS s) (bareT t) && (s.kind == t.kind) && sameTo s t && (s.kind != 3 || t.a == tellsV m s)
theorem same29_way (n : Nat) (r u : InsR) (na : Nat) (hna : r.d.args.length = na) : same29 n r u = false → (r.d.op != u.d.op) = true ∨ ((r.d.op != u.d.op) = false ∧ (r.d.imm != u.d.imm) = true) ∨ ((r.d.op != u.d.op) = false ∧ (r.d.imm != u.d.imm) = false ∧ (r.d.callee != u.d.callee) = true) ∨ ((r.d.op != u.d.op) = false ∧ (r.d.imm != u.d.imm) = false ∧ (r.d.callee != u.d.callee) = false ∧ ((na : Int) != u.d.many) = true) ∨ ((r.d.op != u.d.op) = false ∧ (r.d.imm != u.d.imm) = false ∧ (r.d.callee != u.d.callee) = false ∧ ((na : Int) != u.d.many) = false ∧ decide ((n : Int) < u.d.many) = true) := by
  intro h
  subst hna
  unfold same29 alikeB isMany at h
  by_cases h0 : r.d.op = u.d.op
  · by_cases h1 : r.d.imm = u.d.imm
    · by_cases h2 : r.d.callee = u.d.callee
      · by_cases h3 : (r.d.args.length : Int) = u.d.many
        · right; right; right; right
          simp [h0, h1, h2, h3] at h
          simp [h0, h1, h2, h3]
          omega
        · right; right; right; left; simp [h0, h1, h2, h3]
      · right; right; left; simp [h0, h1, h2]
    · right; left; simp [h0, h1]
  · left; simp [h0]
theorem same29_yes (n : Nat) (r u : InsR) (na : Nat) (hna : r.d.args.length = na) (h : same29 n r u = true) : (r.d.op != u.d.op) = false ∧ (r.d.imm != u.d.imm) = false ∧ (r.d.callee != u.d.callee) = false ∧ ((na : Int) != u.d.many) = false ∧ decide ((n : Int) < u.d.many) = false := by
  subst hna
  simp only [same29, alikeB, isMany, Bool.and_eq_true, decide_eq_true_eq, Bool.not_eq_true', decide_eq_false_iff_not] at h
  obtain ⟨⟨h0, h1, h2, h3⟩, h4⟩ := h
  simp [h0, h1, h2, h3]
  omega
set_option maxRecDepth 100000 in
set_option maxHeartbeats 4000000 in
theorem does29_any (m : MachD) (a1 a2 : Option Addr) (n1 c1 n2 c2 : Nat) (s t : BlkD) (sa ta : Option Addr) (ns cs nt ct : Nat) (w : World) (hm : MachOK w m a1 n1 c1 a2 n2 c2) (hs : BlkOK w s sa ns cs) (ht : BlkOK w t ta nt ct) :
    Calls Try.prog 23 #[machV m a1 n1 c1 a2 n2 c2, blkV s sa ns cs, blkV t ta nt ct] w fun e w' => e = .returned (.bool (does29B m s t)) ∧ Below w.heap.size w w' := by
  have HM := Lib.hid hm
  have HS := Lib.hid hs
  have HT := Lib.hid ht
  have q1 := hm.2.2.2.2.1
  have q2 := hs.2.1
  have q3 := ht.2.1
  have HLm := Lib.hid hm.1.1
  have HLs := Lib.hid hs.1.1.1
  have HLt := Lib.hid ht.1.1.1
  clear hm hs ht
  go_enter Try.func23, Try.ntmps23
  go_wp2
  obtain ⟨W0, HW0, hM, hS, hT, hW0⟩ : ∃ W0, Hid (Below w.heap.size w W0) ∧ W0.heap[w.heap.size]? = some (machO m a1 n1 c1 a2 n2 c2) ∧ W0.heap[w.heap.size + 1]? = some (blkO s sa ns cs) ∧ W0.heap[w.heap.size + 1 + 1]? = some (blkO t ta nt ct) ∧ ((w.alloc (machO m a1 n1 c1 a2 n2 c2)).alloc (blkO s sa ns cs)).alloc (blkO t ta nt ct) = W0 :=
    ⟨_, ext_trans (ext_trans (ext_alloc _ _) (ext_alloc _ _)) (ext_alloc _ _), (box3 w _ _ _).1, (box3 w _ _ _).2.1, (box3 w _ _ _).2.2, rfl⟩
  rw [hW0]
  clear hW0
  generalize w.heap.size = pM at hM hS hT ⊢
  generalize pM + 1 = pS at *
  generalize pS + 1 = pT at *
  have m0 : ∀ w', Below W0.heap.size W0 w' → w'.cell? ⟨pM, 0, none⟩ = some (.int .i64 m.regs) := fun w' hb => by rw [cell_of_row _ _ _ _ _ _ (block_ext hb hM)]; rfl
  have m1 : ∀ w', Below W0.heap.size W0 w' → w'.cell? ⟨pM, 1, none⟩ = some (.slice a1 n1 c1) := fun w' hb => by rw [cell_of_row _ _ _ _ _ _ (block_ext hb hM)]; rfl
  have m2 : ∀ w', Below W0.heap.size W0 w' → w'.cell? ⟨pM, 2, none⟩ = some (.int .i64 m.ret) := fun w' hb => by rw [cell_of_row _ _ _ _ _ _ (block_ext hb hM)]; rfl
  have m3 : ∀ w', Below W0.heap.size W0 w' → w'.cell? ⟨pM, 3, none⟩ = some (.slice a2 n2 c2) := fun w' hb => by rw [cell_of_row _ _ _ _ _ _ (block_ext hb hM)]; rfl
  have s0 : ∀ w', Below W0.heap.size W0 w' → w'.cell? ⟨pS, 0, none⟩ = some (.slice sa ns cs) := fun w' hb => by rw [cell_of_row _ _ _ _ _ _ (block_ext hb hS)]; rfl
  have s1 : ∀ w', Below W0.heap.size W0 w' → w'.cell? ⟨pS, 1, none⟩ = some (.int .i64 s.kind) := fun w' hb => by rw [cell_of_row _ _ _ _ _ _ (block_ext hb hS)]; rfl
  have s2 : ∀ w', Below W0.heap.size W0 w' → w'.cell? ⟨pS, 2, none⟩ = some (.int .i64 s.a) := fun w' hb => by rw [cell_of_row _ _ _ _ _ _ (block_ext hb hS)]; rfl
  have s3 : ∀ w', Below W0.heap.size W0 w' → w'.cell? ⟨pS, 3, none⟩ = some (.int .i64 s.to0) := fun w' hb => by rw [cell_of_row _ _ _ _ _ _ (block_ext hb hS)]; rfl
  have s4 : ∀ w', Below W0.heap.size W0 w' → w'.cell? ⟨pS, 4, none⟩ = some (.int .i64 s.to1) := fun w' hb => by rw [cell_of_row _ _ _ _ _ _ (block_ext hb hS)]; rfl
  have t0 : ∀ w', Below W0.heap.size W0 w' → w'.cell? ⟨pT, 0, none⟩ = some (.slice ta nt ct) := fun w' hb => by rw [cell_of_row _ _ _ _ _ _ (block_ext hb hT)]; rfl
  have t1 : ∀ w', Below W0.heap.size W0 w' → w'.cell? ⟨pT, 1, none⟩ = some (.int .i64 t.kind) := fun w' hb => by rw [cell_of_row _ _ _ _ _ _ (block_ext hb hT)]; rfl
  have t2 : ∀ w', Below W0.heap.size W0 w' → w'.cell? ⟨pT, 2, none⟩ = some (.int .i64 t.a) := fun w' hb => by rw [cell_of_row _ _ _ _ _ _ (block_ext hb hT)]; rfl
  have t3 : ∀ w', Below W0.heap.size W0 w' → w'.cell? ⟨pT, 3, none⟩ = some (.int .i64 t.to0) := fun w' hb => by rw [cell_of_row _ _ _ _ _ _ (block_ext hb hT)]; rfl
  have t4 : ∀ w', Below W0.heap.size W0 w' → w'.cell? ⟨pT, 4, none⟩ = some (.int .i64 t.to1) := fun w' hb => by rw [cell_of_row _ _ _ _ _ _ (block_ext hb hT)]; rfl
  have ks : ∀ n : ExtW W0, n.val.cell? ⟨pS, 0, none⟩ = some (.slice sa ns cs) := fun n => s0 _ n.ext
  have kt : ∀ n : ExtW W0, n.val.cell? ⟨pT, 0, none⟩ = some (.slice ta nt ct) := fun n => t0 _ n.ext
  clear hM hS hT s0 t0
  go_cut [7, 8] (fun s7 s8 wx => ∃ us ut, s7 = us ∧ s8 = ut ∧ Hid (InsRow wx W0.heap.size us (bareS s)) ∧ Hid (InsRow wx W0.heap.size ut (bareT t)) ∧ Below W0.heap.size W0 wx)
  case first =>
    clear m0 m1 m2 m3 s1 s2 s3 s4 t1 t2 t3 t4
    refine z_start (fun w' => ∃ n : ExtW W0, w' = n.val) (by kernel_rfl) ?_
    obtain ⟨w0, E0, hw0⟩ : ∃ w0, Below W0.heap.size W0 w0 ∧ W0.drew = w0 := ⟨_, ext_drewN (Below.refl _ _) 1, rfl⟩
    rw [hw0]
    clear hw0
    refine z_reads 0 2 (by kernel_rfl) ⟨⟨_, E0⟩, rfl⟩ ?_
    simp only [List.take_succ_cons, List.take_zero, List.drop_succ_cons, List.drop_zero]
    repeat (go_big_quiet_step (fail))
    refine wpQuiet_nil ?_
    refine z_reads 3 2 (by kernel_rfl) ⟨⟨_, E0⟩, rfl⟩ ?_
    simp only [List.take_succ_cons, List.take_zero, List.drop_succ_cons, List.drop_zero]
    repeat (go_big_quiet_step (fail))
    refine wpQuiet_nil ?_
    refine z_one 2 (by kernel_rfl) ?_
    refine wpOp_at rfl rfl ?_
    go_simp
    refine (sources_any sa ns cs s.ins w0 ((HS.out.ext HW0.out).ext E0).1 (by omega)).mono ?_
    rintro e w1 ⟨us, rfl, Rs, hb⟩
    have E1 : Below W0.heap.size W0 w1 := ext_trans E0 hb
    replace Rs := Rs.mono E0.size
    refine ⟨Or.inr ⟨⟨_, E1⟩, rfl⟩, ?_⟩
    try simp only [Act.put, List.setIfInBounds_toArray, List.set_cons_succ, List.set_cons_zero]
    clear hb
    refine z_one 5 (by kernel_rfl) ?_
    refine wpOp_at rfl rfl ?_
    go_simp
    refine (bare_any ta nt ct t.ins w1 ((HT.out.ext HW0.out).ext E1).1 (by omega)).mono ?_
    rintro e w2 ⟨ut, rfl, Rt, hb⟩
    have E2 : Below W0.heap.size W0 w2 := ext_trans E1 hb
    replace Rs := ownsRow_chg Rs ((Chg.refl (fun _ => False) _).of_ext hb) (fun _ _ h => h)
    replace Rt := Rt.mono E1.size
    refine ⟨Or.inr ⟨⟨_, E2⟩, rfl⟩, ?_⟩
    try simp only [Act.put, List.setIfInBounds_toArray, List.set_cons_succ, List.set_cons_zero]
    clear hb
    refine z_reads 6 2 (by kernel_rfl) ⟨⟨_, E2⟩, rfl⟩ ?_
    simp only [List.take_succ_cons, List.take_zero, List.drop_succ_cons, List.drop_zero]
    repeat (go_big_quiet_step (fail))
    refine wpQuiet_nil ?_
    refine z_done (by kernel_rfl) ?_
    go_wp2_with fail
    go_meet
    exact ⟨us, ut, rfl, rfl, Rs, Rt, E2⟩
  case rest =>
    obtain ⟨us, ut, rfl, rfl, HQs, HQt, E⟩ := hcut
    clear ks kt
    have hlS : (bareS s).length ≤ 1000000 := by have := List.length_filter_le (fun x => !isCopy x) s.ins; rw [HLs.out] at this; unfold bareS; omega
    have hlT : (bareT t).length ≤ 1000000 := by have := List.length_filter_le (fun x => !isInserted x) t.ins; rw [HLt.out] at this; unfold bareT; omega
    obtain ⟨as_, ks, e1, hSs⟩ := insS_of_row HQs.out hlS (fun r hr => (((HS.out.ext HW0.out).ext E).1).2 r (List.mem_filter.1 hr).1)
    obtain ⟨at_, kt, e2, hSt⟩ := insS_of_row HQt.out hlT (fun r hr => (((HT.out.ext HW0.out).ext E).1).2 r (List.mem_filter.1 hr).1)
    subst e1
    subst e2
    have HSs := Lib.hid hSs
    have HSt := Lib.hid hSt
    clear hSs hSt HQs HQt
    generalize hbs : bareS s = bs at *
    generalize hbt : bareT t = bt at *
    have HE : Hid (does29B m s t = (right05B m && eqFB (same29 n1) bs bt && (s.kind == t.kind) && sameTo s t && (s.kind != 3 || t.a == tellsV m s))) := by rw [Hid, does29B, hbs, hbt, HLm.out]
    clear hbs hbt
    have hnq : ∀ w, (binOp .neq 27 (.agg #[.int .i64 s.to0, .int .i64 s.to1]) (.agg #[.int .i64 t.to0, .int .i64 t.to1])).run Try.prog w = .ok (.bool (!sameTo s t)) w := fun w => neq_to w s.to0 s.to1 t.to0 t.to1
    cases hr5 : right05B m with
    | false =>
      rw [hr5] at HE
      go_wp2_with (first
        | (go_at_call 50
           refine (right05_any m a1 a2 n1 c1 n2 c2 _ ((HM.out.ext HW0.out).ext E)).mono ?_
           rw [hr5]
           rintro e x1 ⟨rfl, hb⟩
           have E1 : Below W0.heap.size W0 x1 := ext_trans E hb
           clear hb))
      go_ret
      exact ⟨ret_bool (by rw [HE.out]; rfl), ext_trans HW0.out E1⟩
    | true =>
      rw [hr5] at HE
      by_cases hle : bs.length = bt.length
      · have hb0 : ((bs.length : Int) != (bt.length : Int)) = false := by simp [hle]
        obtain ⟨nb, hnb⟩ : ∃ nb, bs.length = nb := ⟨_, rfl⟩
        have hnt : bt.length = nb := by omega
        have HLb := Lib.hid hnb
        have HLc := Lib.hid hnt
        rw [hnb] at HSs hlS
        rw [hnt] at HSt
        rw [hnb, hnt]
        clear hle hnb hnt hlT hb0
        have hb0 : ((nb : Int) != (nb : Int)) = false := by simp
        go_wp2_with (first
          | (go_at_call 50
             refine (right05_any m a1 a2 n1 c1 n2 c2 _ ((HM.out.ext HW0.out).ext E)).mono ?_
             rw [hr5]
             rintro e x1 ⟨rfl, hb⟩
             have E1 : Below W0.heap.size W0 x1 := ext_trans E hb
             have HX1 := Lib.hid hb
             clear hb))
        go_loopw [9] (fun i wr => ∃ (k : Nat), k ≤ nb ∧ i = .int .i64 k ∧ Hid (∀ (j : Nat) x y, j < k → bs[j]? = some x → bt[j]? = some y → same29 n1 x y = true) ∧ Hid (Below x1.heap.size x1 wr)) (fun i _ => nb - (intOf i).toNat)
        case atStart => exact ⟨0, by omega, rfl, fun j x y hj => absurd hj (by omega), Below.refl _ _⟩
        case round =>
          obtain ⟨k, hk, rfl, HR, HB⟩ := hrel
          have E2 : Below W0.heap.size W0 wr := ext_trans E1 HB.out
          by_cases hlt : k < nb
          · obtain ⟨r, b1, o1, hr, hokr, rfl, x0, x1', x2, x3, x4, x5, x6, x7⟩ := ((HSs.out.ext HX1.out).ext HB.out).cells hlt
            obtain ⟨u, b2, o2, hu, hoku, rfl, y0, y1, y2, y3, y4, y5, y6, y7⟩ := ((HSt.out.ext HX1.out).ext HB.out).cells hlt
            have hna := hokr.1.1
            have hk0 : (0 : Int) ≤ (k : Int) := by omega
            have hk1 : (k : Int) < (nb : Int) := by omega
            have m1' := m1 wr E2
            have HG := Lib.hid hr
            have HU := Lib.hid hu
            clear hr hu hoku hokr x1' x2 x3 y1 y2 y3 y6 x7
            cases hq : same29 n1 r u with
            | true =>
              obtain ⟨d0, d1, d2, d3, d4⟩ := same29_yes n1 r u r.na hna hq
              have HR2 : Hid (∀ (j : Nat) x y, j < k + 1 → bs[j]? = some x → bt[j]? = some y → same29 n1 x y = true) := fun j x y hj hx hy => by
                by_cases e : j = k
                · subst e
                  rw [HG.out] at hx
                  rw [HU.out] at hy
                  injection hx with hx
                  injection hy with hy
                  subst hx
                  subst hy
                  exact hq
                · exact HR.out j x y (by omega) hx hy
              clear hna hq m0 m1 m2 m3 s1 s2 s3 s4 t1 t2 t3 t4
              go_wp2
              go_quiet (fail)
              go_wp2
              go_roundw
              case rel => exact ⟨k + 1, by omega, by go_num, HR2, ext_drewN HB.out _⟩
              case measure => simp [intOf]; omega
            | false =>
              have HF := Lib.hid (eqFB_not (same29 n1) bs bt k r u HG.out HU.out hq)
              rw [HF.out] at HE
              have hway := same29_way n1 r u r.na hna hq
              clear hna hq m0 m1 m2 m3 s1 s2 s3 s4 t1 t2 t3 t4
              rcases hway with d0 | ⟨d0, d1⟩ | ⟨d0, d1, d2⟩ | ⟨d0, d1, d2, d3⟩ | ⟨d0, d1, d2, d3, d4⟩
              all_goals
                go_wp2
                go_quiet (fail)
                go_wp2
                go_ret
                exact ⟨ret_bool (by rw [HE.out]; rfl), ext_drewN (ext_trans HW0.out E2) _⟩
          · have HF : Hid (eqFB (same29 n1) bs bt = true) := eqFB_all (same29 n1) bs bt (by rw [HLb.out, HLc.out]) (fun j x y hx hy => HR.out j x y (by have := (List.getElem?_eq_some_iff.1 hx).1; rw [HLb.out] at this; omega) hx hy)
            rw [HF.out] at HE
            go_wp2
            all_goals
              go_ret
              refine ⟨ret_bool ?_, ext_trans HW0.out E2⟩
              rw [HE.out]
              clear m0 m1 m2 m3 s1 s2 s3 s4 t1 t2 t3 t4 hnq HE
              go_light
              simp_all [tellsV]
      · have hb0 : ((bs.length : Int) != (bt.length : Int)) = true := by simp; omega
        have HE2 := Lib.hid (eqFB_len (same29 n1) bs bt hle)
        rw [HE2.out] at HE
        go_wp2_with (first
          | (go_at_call 50
             refine (right05_any m a1 a2 n1 c1 n2 c2 _ ((HM.out.ext HW0.out).ext E)).mono ?_
             rw [hr5]
             rintro e x1 ⟨rfl, hb⟩
             have E1 : Below W0.heap.size W0 x1 := ext_trans E hb
             clear hb))
        go_ret
        exact ⟨ret_bool (by rw [HE.out]; rfl), ext_trans HW0.out E1⟩

open Go.RowKit

/-- an event of the reference -/
structure Ev30 where
  what : Int
  s : InsR
  t : InsR
def zR : InsR := ⟨⟨0, 0, 0, 0, 0, 0, [], 0⟩, none, 0, 0⟩
def ev30C (e : Ev30) : List Value := [.int .i64 e.what, .int .i64 e.s.d.op, .int .i64 e.s.d.dst, .int .i64 e.s.d.a, .int .i64 e.s.d.b, .int .i64 e.s.d.imm, .int .i64 e.s.d.callee, Value.slice e.s.aa e.s.na e.s.ca, .int .i64 e.s.d.many, .int .i64 e.t.d.op, .int .i64 e.t.d.dst, .int .i64 e.t.d.a, .int .i64 e.t.d.b, .int .i64 e.t.d.imm, .int .i64 e.t.d.callee, Value.slice e.t.aa e.t.na e.t.ca, .int .i64 e.t.d.many]
theorem ev30C_len (e : Ev30) : (ev30C e).length = 17 := rfl
theorem ev30C_one (e : Ev30) : ∀ u ∈ ev30C e, u.oneCell' = true := by
  intro u hu
  simp only [ev30C, List.mem_cons, List.not_mem_nil, or_false] at hu
  rcases hu with rfl | rfl | rfl | rfl | rfl | rfl | rfl | rfl | rfl | rfl | rfl | rfl | rfl | rfl | rfl | rfl | rfl <;> rfl
theorem info_ev30 : (Try.prog.info? 94).map (fun i => (i.zero, i.size, i.bytes)) = some (some (.agg #[.int .i64 0, .int .i64 0, .int .i64 0, .int .i64 0, .int .i64 0, .int .i64 0, .int .i64 0, .slice none 0 0, .int .i64 0, .int .i64 0, .int .i64 0, .int .i64 0, .int .i64 0, .int .i64 0, .int .i64 0, .slice none 0 0, .int .i64 0]), 17, 168) := by kernel_rfl
def ins30 (t : InsR) : Ev30 := ⟨2, zR, t⟩
/-- the events of the rest of a block -/
def go30 : List InsR → List InsR → List Ev30
  | [], tl => tl.map ins30 ++ [⟨4, zR, zR⟩]
  | i :: sl, tl => if isCopy i then ⟨1, i, zR⟩ :: go30 sl tl else (tl.takeWhile isInserted).map ins30 ++ match tl.dropWhile isInserted with | [] => [] | u :: tl' => ⟨3, i, u⟩ :: go30 sl tl'
theorem go30_end (tl : List InsR) : go30 [] tl = tl.map ins30 ++ [⟨4, zR, zR⟩] := rfl
theorem go30_copy (i : InsR) (sl tl : List InsR) (h : isCopy i = true) : go30 (i :: sl) tl = ⟨1, i, zR⟩ :: go30 sl tl := by rw [go30, if_pos h]
theorem go30_done (i u : InsR) (sl tl tl' : List InsR) (h : isCopy i = false) (hd : tl.dropWhile isInserted = u :: tl') : go30 (i :: sl) tl = (tl.takeWhile isInserted).map ins30 ++ ⟨3, i, u⟩ :: go30 sl tl' := by
  rw [go30, if_neg (by rw [h]; simp), hd]
theorem takeWhile_eq {α : Type} (p : α → Bool) (l : List α) : l.takeWhile p = l.take (l.takeWhile p).length := by
  induction l with
  | nil => rfl
  | cons x l ih =>
    cases h : p x with
    | true => rw [List.takeWhile_cons, if_pos h, List.length_cons, List.take_succ_cons, ← ih]
    | false => rw [List.takeWhile_cons, if_neg (by rw [h]; simp)]; rfl
theorem takeWhile_at {α : Type} (p : α → Bool) (l : List α) (j : Nat) (x : α) (hj : j < (l.takeWhile p).length) (hx : l[j]? = some x) : p x = true := by
  have hm : x ∈ l.takeWhile p := by
    have : (l.takeWhile p)[j]? = some x := by
      rw [takeWhile_eq, List.getElem?_take, if_pos hj]
      exact hx
    exact List.mem_of_getElem? this
  exact List.all_eq_true.1 List.all_takeWhile x hm
theorem go30_len : ∀ (sl tl : List InsR), (go30 sl tl).length ≤ sl.length + tl.length + 1
  | [], tl => by rw [go30_end]; simp
  | i :: sl, tl => by
    cases hc : isCopy i with
    | true => have := go30_len sl tl; rw [go30_copy i sl tl hc]; simp; omega
    | false =>
      have h2 := List.takeWhile_append_dropWhile (p := isInserted) (l := tl)
      have h3 := congrArg List.length h2
      rw [List.length_append] at h3
      cases hd : tl.dropWhile isInserted with
      | nil =>
        rw [go30, if_neg (by rw [hc]; simp), hd]
        rw [hd] at h3
        simp at h3 ⊢; omega
      | cons u tl' =>
        have := go30_len sl tl'
        rw [go30_done i u sl tl tl' hc hd]
        rw [hd] at h3
        simp at h3 ⊢; omega
/-- an event's instructions read as they should -/
def Ev30OK (w : World) (e : Ev30) : Prop := InsOK w e.s ∧ InsOK w e.t
theorem Ev30OK.ext {w w' : World} {e : Ev30} (h : Ev30OK w e) (hb : Below w.heap.size w w') : Ev30OK w' e := ⟨h.1.ext hb, h.2.ext hb⟩
theorem zR_ok (w : World) : InsOK w zR := by
  have z : I64 0 := by unfold I64; omega
  exact ⟨⟨rfl, Nat.zero_le _, fun j hj => absurd hj (by simp [zR])⟩, Nat.le_refl _, z, z, z, z, z, z, z⟩
/-- what is told of an event: what is inserted is, what is done is not -/
def Ev30What (e : Ev30) : Prop := e.what = 1 ∨ (e.what = 2 ∧ isInserted e.t = true) ∨ e.what = 3 ∨ e.what = 4
theorem go30_ok (w : World) : ∀ (sl tl : List InsR), Even sl tl → (∀ r ∈ sl, InsOK w r) → (∀ r ∈ tl, InsOK w r) → ∀ e ∈ go30 sl tl, Ev30OK w e ∧ Ev30What e
  | [], tl, he, _, ht => by
    intro e hm
    rw [go30_end, List.mem_append] at hm
    rcases hm with hm | hm
    · obtain ⟨r, hr, rfl⟩ := List.mem_map.1 hm
      refine ⟨⟨zR_ok w, ht r hr⟩, Or.inr (Or.inl ⟨rfl, ?_⟩)⟩
      unfold Even at he
      cases hq : isInserted r with
      | true => exact hq
      | false =>
        have : r ∈ tl.filter fun x => !isInserted x := List.mem_filter.2 ⟨hr, by simp [hq]⟩
        rw [List.eq_nil_of_length_eq_zero he.symm] at this
        cases this
    · rw [List.mem_singleton] at hm; subst hm; exact ⟨⟨zR_ok w, zR_ok w⟩, Or.inr (Or.inr (Or.inr rfl))⟩
  | i :: sl, tl, he, hs, ht => by
    intro e hm
    have hi := hs i (by simp)
    cases hc : isCopy i with
    | true =>
      rw [go30_copy i sl tl hc, List.mem_cons] at hm
      rcases hm with rfl | hm
      · exact ⟨⟨hi, zR_ok w⟩, Or.inl rfl⟩
      · exact go30_ok w sl tl (he.copy hc) (fun r hr => hs r (by simp [hr])) ht e hm
    | false =>
      obtain ⟨u, tl', hd, hev⟩ := he.next hc
      have hsub : ∀ r ∈ u :: tl', r ∈ tl := fun r hr => by rw [← hd] at hr; exact List.dropWhile_subset _ hr
      rw [go30_done i u sl tl tl' hc hd, List.mem_append, List.mem_cons] at hm
      rcases hm with hm | rfl | hm
      · obtain ⟨r, hr, rfl⟩ := List.mem_map.1 hm
        exact ⟨⟨zR_ok w, ht r (List.takeWhile_subset _ hr)⟩, Or.inr (Or.inl ⟨rfl, List.all_eq_true.1 List.all_takeWhile r hr⟩)⟩
      · exact ⟨⟨hi, ht u (hsub u (by simp))⟩, Or.inr (Or.inr (Or.inl rfl))⟩
      · exact go30_ok w sl tl' hev (fun r hr => hs r (by simp [hr])) (fun r hr => ht r (hsub r (by simp [hr]))) e hm
abbrev Ev30s := Recs 17 ev30C
def Events30Post (w : World) (es : List Ev30) (e : Ending) (w' : World) : Prop := ∃ a c, e = .returned (.slice a es.length c) ∧ Ev30s w' a es.length es ∧ Below w.heap.size w w'
set_option maxRecDepth 100000 in
set_option maxHeartbeats 4000000 in
theorem events30_any (s t : BlkD) (sa ta : Option Addr) (ns cs nt ct : Nat) (w : World) (hs : BlkOK w s sa ns cs) (ht : BlkOK w t ta nt ct) (hev : Even s.ins t.ins) :
    Calls Try.prog 24 #[blkV s sa ns cs, blkV t ta nt ct] w (Events30Post w (go30 s.ins t.ins)) := by
  have HS := Lib.hid hs
  have HT := Lib.hid ht
  have HEv := Lib.hid hev
  have q2 := hs.2.1
  have q3 := ht.2.1
  have HLs := Lib.hid hs.1.1.1
  have HLt := Lib.hid ht.1.1.1
  clear hs ht hev
  obtain ⟨total, htot⟩ : ∃ total, go30 s.ins t.ins = total := ⟨_, rfl⟩
  have HTot := Lib.hid htot
  have htl := go30_len s.ins t.ins
  rw [HLs.out, HLt.out, htot] at htl
  rw [htot]
  clear htot
  obtain ⟨W0, HW0, hS, hT, hW0⟩ := boxes2 w (blkO s sa ns cs) (blkO t ta nt ct)
  have s0 : ∀ w', Below W0.heap.size W0 w' → w'.cell? ⟨w.heap.size, 0, none⟩ = some (.slice sa ns cs) := fun w' hb => by rw [cell_of_row _ _ _ _ _ _ (block_ext hb hS)]; rfl
  have t0 : ∀ w', Below W0.heap.size W0 w' → w'.cell? ⟨w.heap.size + 1, 0, none⟩ = some (.slice ta nt ct) := fun w' hb => by rw [cell_of_row _ _ _ _ _ _ (block_ext hb hT)]; rfl
  clear hS hT
  go_enter Try.func24, Try.ntmps24
  go_wp2
  go_loopw [5, 6, 7] (fun v s6 s7 wr => ∃ (i k : Nat) (es : List Ev30), s7 = .int .i64 i ∧ s6 = .int .i64 k ∧ i ≤ ns ∧ k ≤ nt ∧ Hid (wr.ownsRow W0.heap.size 94 17 v es.length (es.flatMap ev30C)) ∧ Hid (es ++ go30 (s.ins.drop i) (t.ins.drop k) = total) ∧ Hid (Even (s.ins.drop i) (t.ins.drop k)) ∧ Hid (Below W0.heap.size W0 wr)) (fun _ _ s7 _ => ns - (intOf s7).toNat)
  case atStart => exact ⟨0, 0, [], rfl, rfl, by omega, by omega, World.ownsRow_nil _ _ _ _, by rw [Hid, List.drop_zero, List.drop_zero, List.nil_append]; exact HTot.out, by rw [Hid, List.drop_zero, List.drop_zero]; exact HEv.out, Below.refl _ _⟩
  case round =>
    obtain ⟨i, k, es, rfl, rfl, hi, hk, HO, HGo, HEv, HB⟩ := hrel
    have hesl : es.length ≤ 2000001 := by
      have := congrArg List.length HGo.out
      rw [List.length_append] at this
      omega
    have s0' := s0 wr HB.out
    have t0' := t0 wr HB.out
    by_cases hlt : i < ns
    · obtain ⟨r, b, o, hr, hok, rfl, g0, g1, g2, g3, g4, g5, g6, g7⟩ := (((HS.out.ext HW0.out).ext HB.out).1).cells hlt
      have hdr := drop_cons hr
      have hgo := HGo.out
      have hevn := HEv.out
      rw [hdr] at hgo hevn
      have HG := Lib.hid hr
      clear hok hdr hr HGo HEv
      cases hq : isCopy r with
      | true =>
        have hop : (r.d.op == 14) = true := hq
        rw [go30_copy r _ _ hq] at hgo
        have HGo := Lib.hid hgo
        have HEv := Lib.hid (hevn.copy hq)
        clear hgo hevn
        go_wp2_with (first
          | (at_builtin
             go_loud (
               refine wpList_append1 rfl wr (.tmp 22) (.tmp 29) 64 94 rfl W0.heap.size _ 17 168 Try.underlying64 info_ev30 rfl (by omega) u5 es.length _ (ev30C (Ev30.mk 1 r zR)) rfl HO.out wr.heap.size rfl rfl rfl (ev30C_one _) (by simp only [maxLen]; omega) (by omega) HB.out.size ?_
               intro g3 cap3 w3 hown hg hat
               have HO3 : Hid (w3.ownsRow W0.heap.size 94 17 (.slice (some ⟨g3, 0, none⟩) (es.length + 1) cap3) (es.length + 1) ((es ++ [(Ev30.mk 1 r zR)]).flatMap ev30C)) := by rw [Hid, List.flatMap_append]; simpa using hown
               have HB3 : Hid (Below W0.heap.size W0 w3) := HB.out.grown hg HB.out.size (fun j e => (HO.out.lt j e).1)
               clear hown hg hat)))
        go_roundw
        case measure => simp [intOf]; omega
        case rel => exact ⟨i + 1, k, es ++ [(Ev30.mk 1 r zR)], by go_num, rfl, by omega, hk, by rw [Hid, List.length_append]; exact HO3.out, by rw [Hid, List.append_assoc]; exact HGo.out, HEv, HB3⟩
      | false =>
        have hop : (r.d.op == 14) = false := hq
        obtain ⟨u, tl', hdw, hev2⟩ := hevn.next hq
        rw [go30_done r u _ _ _ hq hdw] at hgo
        rw [dropWhile_eq, List.drop_drop] at hdw
        obtain ⟨K, hK⟩ : ∃ K, k + ((t.ins.drop k).takeWhile isInserted).length = K := ⟨_, rfl⟩
        rw [hK] at hdw
        have hu : t.ins[K]? = some u := by
          have : (t.ins.drop K)[0]? = some u := by rw [hdw]; rfl
          rwa [List.getElem?_drop, Nat.add_zero] at this
        have hkn : K < nt := by have := (List.getElem?_eq_some_iff.1 hu).1; rw [HLt.out] at this; exact this
        have htl2 : tl' = t.ins.drop (K + 1) := by
          have := drop_cons hu
          rw [hdw] at this
          simpa using this
        subst htl2
        have hkk : k ≤ K := by omega
        have hui : isInserted u = false := by
          have h1 := List.head?_dropWhile_not isInserted (t.ins.drop k)
          rw [dropWhile_eq, List.drop_drop, hK, hdw] at h1
          simpa using h1
        have HIn : Hid (∀ j x, k ≤ j → j < K → t.ins[j]? = some x → isInserted x = true) := fun j x h1 h2 hx => takeWhile_at isInserted (t.ins.drop k) (j - k) x (by omega) (by rw [List.getElem?_drop, show k + (j - k) = j by omega]; exact hx)
        have HTW : Hid ((t.ins.drop k).takeWhile isInserted = (t.ins.drop k).take (K - k)) := by
          rw [Hid, takeWhile_eq, show ((t.ins.drop k).takeWhile isInserted).length = K - k by omega]
        rw [HTW.out] at hgo
        have HGo := Lib.hid hgo
        have HEv := Lib.hid hev2
        have HU := Lib.hid hu
        have HUI := Lib.hid hui
        clear hgo hevn hdw hK hu hev2 hui HTW
        go_wp2
        go_loopw [5, 6] (fun v s6 wr => ∃ (j : Nat), s6 = .int .i64 j ∧ k ≤ j ∧ j ≤ K ∧ Hid (wr.ownsRow W0.heap.size 94 17 v (es ++ ((t.ins.drop k).take (j - k)).map ins30).length ((es ++ ((t.ins.drop k).take (j - k)).map ins30).flatMap ev30C)) ∧ Hid (Below W0.heap.size W0 wr)) (fun _ s6 _ => nt - (intOf s6).toNat)
        case atStart => exact ⟨k, rfl, Nat.le_refl _, hkk, by rw [Hid, Nat.sub_self, List.take_zero, List.map_nil, List.append_nil]; exact HO.out, HB⟩
        case round =>
          clear HO HB s0' t0' g0 g1 g2 g3 g4 g5 g6 g7
          obtain ⟨j, rfl, hkj, hjK, HO, HB⟩ := hrel
          have s0' := s0 wr HB.out
          have t0' := t0 wr HB.out
          have hjn : j < nt := by omega
          obtain ⟨x, tb, to_, hx, hokx, hta, h0, h1, h2, h3, h4, h5, h6, h7⟩ := (((HT.out.ext HW0.out).ext HB.out).1).cells hjn
          subst hta
          have hell : (es ++ ((t.ins.drop k).take (j - k)).map ins30).length ≤ 2000001 := by
            have := congrArg List.length HGo.out
            simp only [List.length_append, List.length_map, List.length_take] at this ⊢
            omega
          by_cases hj : j < K
          · have hxi : insB x.d.op = true := HIn.out j x hkj hj hx
            have HS2 : Hid (es ++ ((t.ins.drop k).take (j + 1 - k)).map ins30 = (es ++ ((t.ins.drop k).take (j - k)).map ins30) ++ [ins30 x]) := by
              rw [Hid, show j + 1 - k = (j - k) + 1 by omega, List.take_add_one, List.getElem?_drop, show k + (j - k) = j by omega, hx]
              simp
            clear hx hokx
            generalize es ++ ((t.ins.drop k).take (j - k)).map ins30 = es2 at *
            go_wp2_with (first
              | (go_at_call 51; refine (inserted06_any _ _).mono ?_; rw [hxi]; rintro e w' ⟨rfl, rfl⟩)
              | (at_builtin
                 go_loud (
                   refine wpList_append1 rfl wr (.tmp 38) (.tmp 45) 64 94 rfl W0.heap.size _ 17 168 Try.underlying64 info_ev30 rfl (by omega) u5 es2.length _ (ev30C (Ev30.mk 2 zR x)) rfl HO.out wr.heap.size rfl rfl rfl (ev30C_one _) (by simp only [maxLen]; omega) (by omega) HB.out.size ?_
                   intro g3 cap3 w3 hown hg hat
                   have HO3 : Hid (w3.ownsRow W0.heap.size 94 17 (.slice (some ⟨g3, 0, none⟩) (es2.length + 1) cap3) (es2.length + 1) ((es2 ++ [(Ev30.mk 2 zR x)]).flatMap ev30C)) := by rw [Hid, List.flatMap_append]; simpa using hown
                   have HB3 : Hid (Below W0.heap.size W0 w3) := HB.out.grown hg HB.out.size (fun j e => (HO.out.lt j e).1)
                   clear hown hg hat)))
            go_roundw
            case measure => simp [intOf]; omega
            case rel => exact ⟨j + 1, by go_num, by omega, by omega, by rw [Hid, HS2.out, List.length_append]; exact HO3.out, HB3⟩
          · obtain rfl : j = K := by omega
            obtain rfl : u = x := by have := HU.out; rw [hx] at this; exact (Option.some.inj this).symm
            have hxi : insB u.d.op = false := HUI.out
            have HGo2 : Hid ((es ++ ((t.ins.drop k).take (j - k)).map ins30) ++ (Ev30.mk 3 r u :: go30 (s.ins.drop (i + 1)) (t.ins.drop (j + 1))) = total) := by rw [Hid, List.append_assoc]; exact HGo.out
            obtain ⟨r', b', o', hr', -, hsa, g0, g1, g2, g3, g4, g5, g6, g7⟩ := (((HS.out.ext HW0.out).ext HB.out).1).cells hlt
            injection hsa with hsa
            injection hsa with hsa1 hsa2 _
            subst hsa1
            subst hsa2
            obtain rfl : r = r' := by have := HG.out; rw [hr'] at this; exact (Option.some.inj this).symm
            generalize es ++ ((t.ins.drop k).take (j - k)).map ins30 = es2 at *
            have hi0 : (0 : Int) ≤ (i : Int) := by omega
            have hi1 : (i : Int) < (ns : Int) := by omega
            have hj0 : (0 : Int) ≤ (j : Int) := by omega
            have hj1 : (j : Int) < (nt : Int) := by omega
            have ks0 : ∀ n : ExtW wr, n.val.cell? ⟨w.heap.size, 0, none⟩ = some (.slice (some ⟨b, o, none⟩) ns cs) := fun n => cell_ext n.ext s0'
            have kt0 : ∀ n : ExtW wr, n.val.cell? ⟨w.heap.size + 1, 0, none⟩ = some (.slice (some ⟨tb, to_, none⟩) nt ct) := fun n => cell_ext n.ext t0'
            have kg0 : ∀ n : ExtW wr, n.val.cell? ⟨b, o + i * 8, none⟩ = some (.int .i64 r.d.op) := fun n => cell_ext n.ext g0
            have kg1 : ∀ n : ExtW wr, n.val.cell? ⟨b, o + i * 8 + 1, none⟩ = some (.int .i64 r.d.dst) := fun n => cell_ext n.ext g1
            have kg2 : ∀ n : ExtW wr, n.val.cell? ⟨b, o + i * 8 + 2, none⟩ = some (.int .i64 r.d.a) := fun n => cell_ext n.ext g2
            have kg3 : ∀ n : ExtW wr, n.val.cell? ⟨b, o + i * 8 + 3, none⟩ = some (.int .i64 r.d.b) := fun n => cell_ext n.ext g3
            have kg4 : ∀ n : ExtW wr, n.val.cell? ⟨b, o + i * 8 + 4, none⟩ = some (.int .i64 r.d.imm) := fun n => cell_ext n.ext g4
            have kg5 : ∀ n : ExtW wr, n.val.cell? ⟨b, o + i * 8 + 5, none⟩ = some (.int .i64 r.d.callee) := fun n => cell_ext n.ext g5
            have kg6 : ∀ n : ExtW wr, n.val.cell? ⟨b, o + i * 8 + 6, none⟩ = some (.slice r.aa r.na r.ca) := fun n => cell_ext n.ext g6
            have kg7 : ∀ n : ExtW wr, n.val.cell? ⟨b, o + i * 8 + 7, none⟩ = some (.int .i64 r.d.many) := fun n => cell_ext n.ext g7
            have kh0 : ∀ n : ExtW wr, n.val.cell? ⟨tb, to_ + j * 8, none⟩ = some (.int .i64 u.d.op) := fun n => cell_ext n.ext h0
            have kh1 : ∀ n : ExtW wr, n.val.cell? ⟨tb, to_ + j * 8 + 1, none⟩ = some (.int .i64 u.d.dst) := fun n => cell_ext n.ext h1
            have kh2 : ∀ n : ExtW wr, n.val.cell? ⟨tb, to_ + j * 8 + 2, none⟩ = some (.int .i64 u.d.a) := fun n => cell_ext n.ext h2
            have kh3 : ∀ n : ExtW wr, n.val.cell? ⟨tb, to_ + j * 8 + 3, none⟩ = some (.int .i64 u.d.b) := fun n => cell_ext n.ext h3
            have kh4 : ∀ n : ExtW wr, n.val.cell? ⟨tb, to_ + j * 8 + 4, none⟩ = some (.int .i64 u.d.imm) := fun n => cell_ext n.ext h4
            have kh5 : ∀ n : ExtW wr, n.val.cell? ⟨tb, to_ + j * 8 + 5, none⟩ = some (.int .i64 u.d.callee) := fun n => cell_ext n.ext h5
            have kh6 : ∀ n : ExtW wr, n.val.cell? ⟨tb, to_ + j * 8 + 6, none⟩ = some (.slice u.aa u.na u.ca) := fun n => cell_ext n.ext h6
            have kh7 : ∀ n : ExtW wr, n.val.cell? ⟨tb, to_ + j * 8 + 7, none⟩ = some (.int .i64 u.d.many) := fun n => cell_ext n.ext h7
            go_wp2_with (first
              | (go_at_call 51; refine (inserted06_any _ _).mono ?_; rw [hxi]; rintro e w' ⟨rfl, rfl⟩))
            clear hx hokx hr' g0 g1 g2 g3 g4 g5 g6 g7 h0 h1 h2 h3 h4 h5 h6 h7 hop
            refine z_start (fun w' => ∃ n : ExtW wr, w' = n.val) (by kernel_rfl) ?_
            obtain ⟨w0, E0, hw0⟩ : ∃ w0, Below wr.heap.size wr w0 ∧ wr.drew = w0 := ⟨_, ext_drewN (Below.refl _ _) 1, rfl⟩
            rw [hw0]
            clear hw0
            refine z_reads 0 12 (by kernel_rfl) ⟨⟨_, E0⟩, rfl⟩ ?_
            simp only [List.take_succ_cons, List.take_zero, List.drop_succ_cons, List.drop_zero]
            repeat (go_big_quiet_step (fail))
            refine wpQuiet_nil ?_
            clear ks0 kt0 kg0 kg1 kg2 kg3 kg4 kg5 kg6 kg7 kh0 kh1 kh2 kh3 kh4 kh5 kh6 kh7
            refine z_one 12 (by kernel_rfl) ?_
            refine wpOp_at rfl rfl ?_
            go_simp
            refine ⟨Or.inr ⟨⟨_, ext_trans E0 (ext_alloc _ _)⟩, rfl⟩, ?_⟩
            try simp only [Act.put, List.setIfInBounds_toArray, List.set_cons_succ, List.set_cons_zero]
            have HO2 := Lib.hid ((Steady.ownsRow wr.heap.size _ _ _ _ _ _).ext HO.out E0)
            have HB2 := Lib.hid (ext_trans HB.out E0)
            refine z_one 13 (by kernel_rfl) ?_
            refine wpOp_at rfl rfl ?_
            refine op_append1 w0 (.tmp 49) (.tmp 61) 64 94 rfl W0.heap.size _ 17 168 Try.underlying64 info_ev30 rfl (by omega) u5 es2.length _ (ev30C (Ev30.mk 3 r u)) rfl HO2.out w0.heap.size rfl rfl rfl (ev30C_one _) (by simp only [maxLen]; omega) (by omega) HB2.out.size ?_
            intro g3 cap3 w3 hown hg hat
            have HO3 : Hid (w3.ownsRow W0.heap.size 94 17 (.slice (some ⟨g3, 0, none⟩) (es2.length + 1) cap3) (es2.length + 1) ((es2 ++ [Ev30.mk 3 r u]).flatMap ev30C)) := by rw [Hid, List.flatMap_append]; simpa using hown
            have HB3 : Hid (Below W0.heap.size W0 w3) := HB2.out.grown hg HB2.out.size (fun j e => (HO2.out.lt j e).1)
            refine ⟨Or.inl (by kernel_rfl), ?_⟩
            try simp only [Act.put, List.setIfInBounds_toArray, List.set_cons_succ, List.set_cons_zero]
            clear hown hg hat
            refine z_one 14 (by kernel_rfl) ?_
            refine wpOp_at rfl rfl ?_
            go_simp
            refine ⟨Or.inl (by kernel_rfl), ?_⟩
            refine z_done (by kernel_rfl) ?_
            go_wp2
            go_roundw
            case measure => simp [intOf]; omega
            case rel => exact ⟨i + 1, j + 1, es2 ++ [Ev30.mk 3 r u], by go_num, by go_num, by omega, by omega, by rw [Hid, List.length_append]; exact HO3.out, by rw [Hid, List.append_assoc]; exact HGo2.out, HEv, HB3⟩
    · obtain rfl : i = ns := by omega
      have hgo := HGo.out
      rw [List.drop_of_length_le (by rw [HLs.out]; omega), go30_end] at hgo
      have HGo := Lib.hid hgo
      clear hgo HEv
      go_wp2
      go_loopw [5, 6] (fun v s6 wr => ∃ (j : Nat), s6 = .int .i64 j ∧ k ≤ j ∧ j ≤ nt ∧ Hid (wr.ownsRow W0.heap.size 94 17 v (es ++ ((t.ins.drop k).take (j - k)).map ins30).length ((es ++ ((t.ins.drop k).take (j - k)).map ins30).flatMap ev30C)) ∧ Hid (Below W0.heap.size W0 wr)) (fun _ s6 _ => nt - (intOf s6).toNat)
      case atStart => exact ⟨k, rfl, Nat.le_refl _, hk, by rw [Hid, Nat.sub_self, List.take_zero, List.map_nil, List.append_nil]; exact HO.out, HB⟩
      case round =>
        clear HO HB s0' t0'
        obtain ⟨j, rfl, hkj, hjK, HO, HB⟩ := hrel
        have t0' := t0 wr HB.out
        have hell : (es ++ ((t.ins.drop k).take (j - k)).map ins30).length ≤ 2000001 := by
          have := congrArg List.length HGo.out
          simp only [List.length_append, List.length_map, List.length_take, List.length_singleton] at this ⊢
          omega
        by_cases hjn : j < nt
        · obtain ⟨x, tb, to_, hx, hokx, hta, h0, h1, h2, h3, h4, h5, h6, h7⟩ := (((HT.out.ext HW0.out).ext HB.out).1).cells hjn
          subst hta
          have HS2 : Hid (es ++ ((t.ins.drop k).take (j + 1 - k)).map ins30 = (es ++ ((t.ins.drop k).take (j - k)).map ins30) ++ [ins30 x]) := by
            rw [Hid, show j + 1 - k = (j - k) + 1 by omega, List.take_add_one, List.getElem?_drop, show k + (j - k) = j by omega, hx]
            simp
          clear hx hokx
          generalize es ++ ((t.ins.drop k).take (j - k)).map ins30 = es2 at *
          go_wp2_with (first
            | (at_builtin
               go_loud (
                 refine wpList_append1 rfl wr (.tmp 70) (.tmp 77) 64 94 rfl W0.heap.size _ 17 168 Try.underlying64 info_ev30 rfl (by omega) u5 es2.length _ (ev30C (Ev30.mk 2 zR x)) rfl HO.out wr.heap.size rfl rfl rfl (ev30C_one _) (by simp only [maxLen]; omega) (by omega) HB.out.size ?_
                 intro g3 cap3 w3 hown hg hat
                 have HO3 : Hid (w3.ownsRow W0.heap.size 94 17 (.slice (some ⟨g3, 0, none⟩) (es2.length + 1) cap3) (es2.length + 1) ((es2 ++ [(Ev30.mk 2 zR x)]).flatMap ev30C)) := by rw [Hid, List.flatMap_append]; simpa using hown
                 have HB3 : Hid (Below W0.heap.size W0 w3) := HB.out.grown hg HB.out.size (fun j e => (HO.out.lt j e).1)
                 clear hown hg hat)))
          go_roundw
          case measure => simp [intOf]; omega
          case rel => exact ⟨j + 1, by go_num, by omega, by omega, by rw [Hid, HS2.out, List.length_append]; exact HO3.out, HB3⟩
        · obtain rfl : j = nt := by omega
          have HGo2 : Hid ((es ++ ((t.ins.drop k).take (j - k)).map ins30) ++ [Ev30.mk 4 zR zR] = total) := by
            rw [Hid, List.take_of_length_le (by rw [List.length_drop, HLt.out]; omega), List.append_assoc]
            exact HGo.out
          generalize es ++ ((t.ins.drop k).take (j - k)).map ins30 = es2 at *
          go_wp2_with (first
            | (at_builtin
               go_loud (
                 refine wpList_append1 rfl wr (.tmp 81) (.tmp 83) 64 94 rfl W0.heap.size _ 17 168 Try.underlying64 info_ev30 rfl (by omega) u5 es2.length _ (ev30C (Ev30.mk 4 zR zR)) rfl HO.out wr.heap.size rfl rfl rfl (ev30C_one _) (by simp only [maxLen]; omega) (by omega) HB.out.size ?_
                 intro g3 cap3 w3 hown hg hat
                 have HO3 : Hid (w3.ownsRow W0.heap.size 94 17 (.slice (some ⟨g3, 0, none⟩) (es2.length + 1) cap3) (es2.length + 1) ((es2 ++ [(Ev30.mk 4 zR zR)]).flatMap ev30C)) := by rw [Hid, List.flatMap_append]; simpa using hown
                 have HB3 : Hid (Below W0.heap.size W0 w3) := HB.out.grown hg HB.out.size (fun j e => (HO.out.lt j e).1)
                 clear hown hg hat)))
          go_ret
          have ho := HO3.out
          have hlen : es2.length + 1 = total.length := by rw [← HGo2.out]; simp
          rw [HGo2.out, hlen] at ho
          obtain ⟨ra, rc, e1, h1, _⟩ := recs_of_own ev30C_len ho (by omega)
          exact ⟨ra, rc, by rw [← e1, ← hlen]; rfl, h1, ext_trans HW0.out HB3.out⟩
end Go.Proofs.Ytdoahpblphlabaa
