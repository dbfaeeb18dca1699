/-
  Flat: how great blocks are.
-/
import Derived.Test.YtfpbfdkjcmlimaaGreatFN
import Derived.Deep.LoopGhost
import Derived.Test.YtfpbfdkjcmlimaaGreatFU
import Derived.Test.YtfpbfdkjcmlimaaGreatKQ
namespace Go.Proofs.YtfpbfdkjcmlimaaGreat
set_option linter.unusedSimpArgs false
set_option linter.unusedVariables false
set_option linter.unusedSectionVars false
set_option maxRecDepth 100000
set_option maxHeartbeats 40000000
section
open Go.RowKit
structure BlkR where
  d : BlkD
  ia : Option Addr
  n : Nat
  c : Nat
def blkC (b : BlkR) : List Value := [.slice b.ia b.n b.c, .int .i64 b.d.kind, .int .i64 b.d.a, .int .i64 b.d.to0, .int .i64 b.d.to1]
theorem blkC_len (b : BlkR) : (blkC b).length = 5 := rfl
def BlkS (w : World) (a : Option Addr) (n : Nat) (bs : List BlkR) : Prop := Recs 5 blkC w a n bs ∧ ∀ b ∈ bs, InsS w b.ia b.n b.d.ins
end

section
open Go.RowKit
theorem even_of_does {m : MachD} {s t : BlkD} (h : doesB m s t = true) : Even s.ins t.ins := by
  simp only [doesB, Bool.and_eq_true] at h
  by_cases e : (bareS s).length = (bareT t).length
  · exact e
  · have := eqFB_len alikeR _ _ e
    rw [this] at h
    simp at h
def eventsN (m : MachD) (s t : BlkD) : Int := if doesB m s t then (evGo m s.ins t.ins).length else 0
theorem evGo_big (m : MachD) (s t : BlkD) (ns nt : Nat) (h1 : s.ins.length = ns) (h2 : t.ins.length = nt) (h3 : ns ≤ 1000000) (h4 : nt ≤ 1000000) : (evGo m s.ins t.ins).length ≤ 2000001 := by
  have := evGo_len m s.ins t.ins
  omega
theorem eventsN_any (m : MachD) (a1 a2 : Option Addr) (n1 c1 n2 c2 : Nat) (s t : BlkD) (sa ta : Option Addr) (ns cs nt ct : Nat) (w : World) (hm : MachOK w m a1 n1 c1 a2 n2 c2) (hs : BlkOK w s sa ns cs) (ht : BlkOK w t ta nt ct) :
    Calls Tryz.prog 8 #[machV m a1 n1 c1 a2 n2 c2, blkV s sa ns cs, blkV t ta nt ct] w fun e w' => e = .returned (.int .i64 (eventsN m s t)) ∧ Below w.heap.size w w' := by
  have HM := Lib.hid hm
  have HS := Lib.hid hs
  have HT := Lib.hid ht
  have hbig := evGo_big m s t ns nt hs.1.1.1 ht.1.1.1 hs.2.1 ht.2.1
  clear hm hs ht
  obtain ⟨W0, HW0, hM, hS, hT, hW0⟩ : ∃ W0, Hid (Below w.heap.size w W0) ∧ W0.heap[w.heap.size]? = some (machO m a1 n1 c1 a2 n2 c2) ∧ W0.heap[w.heap.size + 1]? = some (blkO s sa ns cs) ∧ W0.heap[w.heap.size + 1 + 1]? = some (blkO t ta nt ct) ∧ ((w.alloc (machO m a1 n1 c1 a2 n2 c2)).alloc (blkO s sa ns cs)).alloc (blkO t ta nt ct) = W0 :=
    ⟨_, ext_trans (ext_trans (ext_alloc _ _) (ext_alloc _ _)) (ext_alloc _ _), (box3 w _ _ _).1, (box3 w _ _ _).2.1, (box3 w _ _ _).2.2, rfl⟩
  have xm0 : ∀ w', Below W0.heap.size W0 w' → w'.cell? ⟨w.heap.size, 0, none⟩ = some (.int .i64 m.regs) := fun w' hb => by rw [cell_of_row _ _ _ _ _ _ (block_ext hb hM)]; rfl
  have xm1 : ∀ w', Below W0.heap.size W0 w' → w'.cell? ⟨w.heap.size, 1, none⟩ = some (.slice a1 n1 c1) := fun w' hb => by rw [cell_of_row _ _ _ _ _ _ (block_ext hb hM)]; rfl
  have xm2 : ∀ w', Below W0.heap.size W0 w' → w'.cell? ⟨w.heap.size, 2, none⟩ = some (.int .i64 m.ret) := fun w' hb => by rw [cell_of_row _ _ _ _ _ _ (block_ext hb hM)]; rfl
  have xm3 : ∀ w', Below W0.heap.size W0 w' → w'.cell? ⟨w.heap.size, 3, none⟩ = some (.slice a2 n2 c2) := fun w' hb => by rw [cell_of_row _ _ _ _ _ _ (block_ext hb hM)]; rfl
  have xs0 : ∀ w', Below W0.heap.size W0 w' → w'.cell? ⟨w.heap.size + 1, 0, none⟩ = some (.slice sa ns cs) := fun w' hb => by rw [cell_of_row _ _ _ _ _ _ (block_ext hb hS)]; rfl
  have xs1 : ∀ w', Below W0.heap.size W0 w' → w'.cell? ⟨w.heap.size + 1, 1, none⟩ = some (.int .i64 s.kind) := fun w' hb => by rw [cell_of_row _ _ _ _ _ _ (block_ext hb hS)]; rfl
  have xs2 : ∀ w', Below W0.heap.size W0 w' → w'.cell? ⟨w.heap.size + 1, 2, none⟩ = some (.int .i64 s.a) := fun w' hb => by rw [cell_of_row _ _ _ _ _ _ (block_ext hb hS)]; rfl
  have xs3 : ∀ w', Below W0.heap.size W0 w' → w'.cell? ⟨w.heap.size + 1, 3, none⟩ = some (.int .i64 s.to0) := fun w' hb => by rw [cell_of_row _ _ _ _ _ _ (block_ext hb hS)]; rfl
  have xs4 : ∀ w', Below W0.heap.size W0 w' → w'.cell? ⟨w.heap.size + 1, 4, none⟩ = some (.int .i64 s.to1) := fun w' hb => by rw [cell_of_row _ _ _ _ _ _ (block_ext hb hS)]; rfl
  have xt0 : ∀ w', Below W0.heap.size W0 w' → w'.cell? ⟨w.heap.size + 1 + 1, 0, none⟩ = some (.slice ta nt ct) := fun w' hb => by rw [cell_of_row _ _ _ _ _ _ (block_ext hb hT)]; rfl
  have xt1 : ∀ w', Below W0.heap.size W0 w' → w'.cell? ⟨w.heap.size + 1 + 1, 1, none⟩ = some (.int .i64 t.kind) := fun w' hb => by rw [cell_of_row _ _ _ _ _ _ (block_ext hb hT)]; rfl
  have xt2 : ∀ w', Below W0.heap.size W0 w' → w'.cell? ⟨w.heap.size + 1 + 1, 2, none⟩ = some (.int .i64 t.a) := fun w' hb => by rw [cell_of_row _ _ _ _ _ _ (block_ext hb hT)]; rfl
  have xt3 : ∀ w', Below W0.heap.size W0 w' → w'.cell? ⟨w.heap.size + 1 + 1, 3, none⟩ = some (.int .i64 t.to0) := fun w' hb => by rw [cell_of_row _ _ _ _ _ _ (block_ext hb hT)]; rfl
  have xt4 : ∀ w', Below W0.heap.size W0 w' → w'.cell? ⟨w.heap.size + 1 + 1, 4, none⟩ = some (.int .i64 t.to1) := fun w' hb => by rw [cell_of_row _ _ _ _ _ _ (block_ext hb hT)]; rfl
  cases hd : doesB m s t with
  | false =>
    have HE : Hid (eventsN m s t = 0) := by rw [Hid, eventsN, hd]; rfl
    clear hM hS hT xm0 xm1 xm2 xm3 xs0 xs1 xs2 xs3 xs4 xt0 xt1 xt2 xt3 xt4
    have HW := Lib.hid hW0
    clear hW0
    go_enter Tryz.func8, Tryz.ntmps8
    go_wp2_with (go_at_call 12; rw [HW.out]; refine (does_any m a1 a2 n1 c1 n2 c2 s t sa ta ns cs nt ct W0 (HM.out.ext HW0.out) (HS.out.ext HW0.out) (HT.out.ext HW0.out)).mono ?_; rw [hd]; rintro e w1 ⟨rfl, hb1⟩; have HB1 := Lib.hid (ext_trans HW0.out hb1); clear hb1)
    go_ret
    exact ⟨by rw [HE.out]; rfl, HB1.out⟩
  | true =>
    have HE : Hid (eventsN m s t = (evGo m s.ins t.ins).length) := by rw [Hid, eventsN, hd]; rfl
    have HEv := Lib.hid (even_of_does hd)
    clear hM hS hT
    have HW := Lib.hid hW0
    clear hW0
    go_enter Tryz.func8, Tryz.ntmps8
    go_wp2_with (first
      | (go_at_call 12; rw [HW.out]; refine (does_any m a1 a2 n1 c1 n2 c2 s t sa ta ns cs nt ct W0 (HM.out.ext HW0.out) (HS.out.ext HW0.out) (HT.out.ext HW0.out)).mono ?_; rw [hd]; rintro e w1 ⟨rfl, E1⟩)
      | (go_at_call 17; refine (events_any m a1 a2 n1 c1 n2 c2 s t sa ta ns cs nt ct w1 ((HM.out.ext HW0.out).ext E1) ((HS.out.ext HW0.out).ext E1) ((HT.out.ext HW0.out).ext E1) HEv.out).mono ?_; rintro e w2 ⟨ra, rc, rfl, _, _, _, hb2⟩; have HB2 := Lib.hid (ext_trans (ext_trans HW0.out E1) hb2); clear hb2))
    go_ret
    exact ⟨by rw [HE.out]; rfl, HB2.out⟩
end

section
theorem eqFB_mem {α : Type} (q : α → α → Bool) : ∀ (l m : List α), eqFB q l m = true → ∀ p ∈ l.zip m, q p.1 p.2 = true
  | [], [], _, p, hp => by simp at hp
  | [], _ :: _, h, _, _ => by simp [eqFB] at h
  | _ :: _, [], h, _, _ => by simp [eqFB] at h
  | x :: l, y :: m, h, p, hp => by
    simp only [eqFB, Bool.and_eq_true] at h
    rcases List.mem_cons.1 hp with rfl | hp
    · exact h.1
    · exact eqFB_mem q l m h.2 p hp
theorem filter_two {a b : Int} : ([a, b].filter fun x => x != 0).length ≤ 2 := List.length_filter_le _ _
theorem fit_one (m : MachD) (s t : InsD) (hc : s.op ≠ 14) (ha : alikeB s t = true) (hm : ¬ (m.args.length : Int) < t.many) : (readsI s).length ≤ (readsL m t).length := by
  unfold readsI
  split
  · rename_i hi
    simp only [alikeB, decide_eq_true_eq] at ha
    obtain ⟨ho, _, _, hn⟩ := ha
    unfold isInsB at hi
    simp only at hi
    split at hi
    · cases hi
    · rename_i hs2
      simp only [Bool.or_eq_true, Bool.not_eq_true', not_or, Bool.not_eq_false] at hs2
      unfold readsL
      rw [← ho]
      by_cases h13 : s.op = 13
      · have hh : hasV s.op = 32 := by rw [h13]; rfl
        rw [if_pos hh]
        simp only [shapeD, if_pos h13, noneB, Bool.and_eq_true, if_true] at hi
        obtain ⟨⟨⟨⟨h0, _⟩, _⟩, _⟩, _⟩ := hi
        simp only [List.any_cons, List.any_nil, Bool.or_false, Bool.not_eq_true', Bool.or_eq_false_iff, bne_eq_false_iff_eq] at h0
        rw [h0.1, h0.2.1]
        simp
        omega
      · have hs : (shapeD s.op).1.2.2.2.2 = false ∨ (shapeD s.op).2 = false := by
          unfold shapeD
          rw [if_neg h13]
          repeat' split
          all_goals simp
        rcases hs with hs | hs
        · rw [hs] at hi
          simp only [Bool.false_eq_true, if_false] at hi
          split at hi
          · cases hi
          · simp only [Bool.and_eq_true, beq_iff_eq] at hi
            obtain ⟨⟨⟨⟨_, hargs⟩, _⟩, hfa⟩, hfb⟩ := hi
            have hargs := List.eq_nil_of_length_eq_zero hargs
            rw [hargs, List.append_nil]
            by_cases h1 : s.op = 1
            · have e1 : (shapeD s.op).1.2.1 = false ∧ (shapeD s.op).1.2.2.1 = false := by rw [h1]; exact ⟨rfl, rfl⟩
              rw [e1.1] at hfa
              rw [e1.2] at hfb
              simp only [fitsB, Bool.false_eq_true, if_false, decide_eq_true_eq] at hfa hfb
              rw [hfa, hfb]
              simp
            · by_cases h11 : s.op = 11
              · have e1 : (shapeD s.op).1.2.2.1 = false := by rw [h11]; rfl
                rw [e1] at hfb
                simp only [fitsB, Bool.false_eq_true, if_false, decide_eq_true_eq] at hfb
                have hw : (if hasV s.op = 32 then (m.args.take (max (min t.many m.args.length) 0).toNat).map (fun x => (false, x)) else if withB (hasV s.op) 4 then [(false, t.a), (false, t.b)] else if withB (hasV s.op) 2 then [(false, t.a)] else if withB (hasV s.op) 16 then [(true, t.imm)] else []) = [(false, t.a)] := by rw [h11]; rfl
                rw [hw, hfb]
                by_cases h0 : s.a = 0 <;> simp [h0]
              · have hs3 : (shapeD s.op).2 = true := hs2.1
                have hh : hasV s.op = 7 ∨ hasV s.op = 14 := by
                  by_cases h12 : s.op = 12
                  · right; rw [h12]; rfl
                  · left
                    have h2 : 2 ≤ s.op ∧ s.op ≤ 10 := by
                      simpa [shapeD, h13, h1, h12, h11, hc] using hs3
                    unfold hasV
                    rw [if_neg h1, if_pos h2]
                have hw : (if hasV s.op = 32 then (m.args.take (max (min t.many m.args.length) 0).toNat).map (fun x => (false, x)) else if withB (hasV s.op) 4 then [(false, t.a), (false, t.b)] else if withB (hasV s.op) 2 then [(false, t.a)] else if withB (hasV s.op) 16 then [(true, t.imm)] else []) = [(false, t.a), (false, t.b)] := by
                  rcases hh with hh | hh <;> rw [hh] <;> rfl
                rw [hw]
                exact filter_two
        · rw [hs] at hs2
          exact absurd hs2.1 (by simp)
  · simp
theorem fit_of_does {m : MachD} {s t : BlkD} (h : doesB m s t = true) : FitW m s.ins t.ins := by
  refine ⟨even_of_does h, fun p hp => ?_⟩
  simp only [doesB, Bool.and_eq_true, Bool.not_eq_true'] at h
  obtain ⟨⟨⟨⟨⟨_, hq⟩, hmany⟩, _⟩, _⟩, _⟩ := h
  have ha := eqFB_mem _ _ _ hq p hp
  obtain ⟨h1, h2⟩ := List.of_mem_zip (show (p.1, p.2) ∈ _ from hp)
  refine fit_one m p.1.d p.2.d ?_ ha ?_
  · have := (List.mem_filter.1 h1).2
    simpa [isCopy] using this
  · intro hlt
    have : manyB m.args.length (bareT t) = true := List.any_eq_true.2 ⟨p.2, h2, by simpa [isMany] using hlt⟩
    rw [this] at hmany
    cases hmany
theorem known_append (m : MachD) (l1 l2 : List EvD) (K : Fct → Bool) : knownV m (l1 ++ l2) K = knownV m l2 (knownV m l1 K) := by
  unfold knownV
  rw [List.foldl_append]
theorem known_cons (m : MachD) (e : EvD) (l : List EvD) (K : Fct → Bool) : knownV m (e :: l) K = knownV m l (fun x => kStep m e K x) := rfl
theorem skip_known (m : MachD) : ∀ (l : List InsR) (x : KF), (skipKF m l x).1 = knownV m (l.map (insEv m)) x.1
  | [], _ => rfl
  | r :: l, x => by
    rw [List.map_cons, known_cons]
    show (skipKF m l (insKF m x r)).1 = _
    rw [skip_known m l]
    rfl
theorem walk_known (m : MachD) : ∀ (sl tl : List InsR) (x : KF), (walkGo m sl tl x).1 = knownV m (evGo m sl tl) x.1
  | [], tl, x => by
    rw [walkGo_end, skip_known, evGo, known_append]
    rfl
  | i :: sl, tl, x => by
    rw [walkGo, evGo]
    split
    · rw [walk_known m sl, known_cons]
      rfl
    · rw [known_append, ← skip_known]
      cases hd : tl.dropWhile isInserted with
      | nil => rfl
      | cons u tl' =>
        simp only
        rw [walk_known m sl, known_cons]
        congr 1
        funext y
        exact doneK_step m i u _ y
def FE (fe : Int) : Prop := fe = 0 ∨ fe = 14 ∨ fe = 15
theorem FE.fail {fe e : Int} (h : FE fe) (he : e = 14 ∨ e = 15) : FE (failV fe e) := by
  unfold failV
  split
  · exact .inr he
  · exact h
theorem FE.need {fe e : Int} (h : FE fe) (he : e = 14 ∨ e = 15) (K : Fct → Bool) (x : Fct) : FE (needV K x fe e) := by
  unfold needV
  split
  · exact h
  · exact h.fail he
theorem FE.needs {e : Int} (he : e = 14 ∨ e = 15) (K : Fct → Bool) : ∀ (l : List Fct) {fe : Int}, FE fe → FE (needsK K l fe e)
  | [], _, h => h
  | x :: l, _, h => FE.needs he K l (h.need he K x)
theorem FE.skip (m : MachD) : ∀ (l : List InsR) (x : KF), FE x.2 → FE (skipKF m l x).2
  | [], _, h => h
  | r :: l, x, h => FE.skip m l (insKF m x r) (by
      show FE (atV _ _ _)
      unfold atV
      split
      · exact h
      · exact h.fail (.inl rfl))
theorem FE.go (m : MachD) : ∀ (sl tl : List InsR) (x : KF), FE x.2 → FE (walkGo m sl tl x).2
  | [], tl, x, h => by rw [walkGo_end]; exact FE.skip m _ _ h
  | i :: sl, tl, x, h => by
    rw [walkGo]
    split
    · exact FE.go m sl tl _ h
    · cases hd : tl.dropWhile isInserted with
      | nil => exact FE.skip m _ _ h
      | cons u tl' => exact FE.go m sl tl' _ (FE.needs (.inl rfl) _ _ (FE.skip m _ _ h))
theorem walkKF_fe (m : MachD) (s t : BlkD) (K : Fct → Bool) : FE (walkKF m s t (K, 0)).2 := by
  have h := FE.go m s.ins t.ins (K, 0) (.inl rfl)
  show FE (endFe _ _ _ _ _)
  unfold endFe
  split
  · exact h.need (.inl rfl) _ _
  · split
    · refine FE.needs (.inr rfl) _ _ ?_
      split
      · exact h
      · exact h.need (.inl rfl) _ _
    · exact h
theorem walkKF_known (m : MachD) (s t : BlkD) (K : Fct → Bool) : (walkKF m s t (K, 0)).1 = knownV m (evGo m s.ins t.ins) K := walk_known m s.ins t.ins (K, 0)
end
end Go.Proofs.YtfpbfdkjcmlimaaGreat
