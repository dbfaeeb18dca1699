/-
  intarsiaref25.Of: the walk.
-/
import Derived.Test.YtkakanjoeofjcaaOf25
namespace Go.Proofs.Ytkakanjoeofjcaa
open Go.RowKit

theorem meas_hit (S s i j : Nat) (h : s < S) : (S - (s + 1)) * (i + 1) + i < (S - s) * (i + 1) + (i - j) := by
  have : S - s = (S - (s + 1)) + 1 := by omega
  rw [this, Nat.add_mul]
  omega
theorem max_set (vs hs : Value) (tm : Int) (z S : Nat) (u : Value) (hu : u = .int .i64 (if (z : Int) < (S : Int) + 1 then (S : Int) + 1 else (z : Int))) : (#[vs, hs, .int .i64 tm, .int .i64 (z : Int)] : Array Value).setIfInBounds 3 u = #[vs, hs, .int .i64 tm, .int .i64 ((max z (S + 1) : Nat) : Int)] := by
  subst hu
  have : (if (z : Int) < (S : Int) + 1 then (S : Int) + 1 else (z : Int)) = ((max z (S + 1) : Nat) : Int) := by split <;> omega
  rw [this]
  rfl
def Of25Post (w : World) (f : Fr) (e : Ending) (w' : World) : Prop :=
  ∃ a1 c1 a2 c2, e = .returned (.tuple #[.agg #[.slice a1 f.vars.length c1, .slice a2 f.homes.length c2, .int .i64 f.temp, .int .i64 f.size], .int .i64 f.err]) ∧
    Ints w' a1 f.vars.length f.vars ∧ Ints w' a2 f.homes.length f.homes ∧ Below w.heap.size w w'
theorem of25_badPost {w w' : World} {xs : List Int} {ps : List (Int × Int)} {rs : List Int} {t : Bool} (hok : okAll xs ps rs = false) (hb : Below w.heap.size w w') :
    Of25Post w (frOf xs ps rs t) (.returned (.tuple #[.agg #[nilS, nilS, .int .i64 0, .int .i64 0], .int .i64 2])) w' := by
  rw [okAll_fr xs ps rs t hok]
  exact ⟨none, 0, none, 0, rfl, nil_ints _, nil_ints _, hb⟩

theorem of25_good {w W : World} {F n l : Nat} {av ah : Option Addr} {cv ch : Nat} {xs : List Int} {ps : List (Int × Int)} {rs : List Int} {t : Bool} {tm sz : Int}
    (h : RF w W w.heap.size F (.slice av n cv) (.slice ah l ch) n l (sltV ps xs n) ((List.range l).map fun (x : Nat) => .int .i64 ((szOf (asg ps xs) + x : Nat) : Int)) tm sz) (hok : okAll xs ps rs = true) (hn : xs.length = n) (hl : rs.length = l)
    (htm : tm = if t then ((szOf (asg ps xs) + l : Nat) : Int) else -1) (hsz : sz = ((szOf (asg ps xs) + l + (if t then 1 else 0) : Nat) : Int)) (u0 u1 u2 u3 : Value) :
    Of25Post w (frOf xs ps rs t) (.returned (.tuple #[.agg #[.slice av n cv, .slice ah l ch, .int .i64 tm, .int .i64 sz], .int .i64 0])) ((((W.setCell ⟨w.heap.size, 0, none⟩ u0).setCell ⟨w.heap.size, 1, none⟩ u1).setCell ⟨w.heap.size, 2, none⟩ u2).setCell ⟨w.heap.size, 3, none⟩ u3) := by
  have hS := fr_small xs ps rs t
  have hle := h.le
  have hc : Chg (fun k => k = w.heap.size) W ((((W.setCell ⟨w.heap.size, 0, none⟩ u0).setCell ⟨w.heap.size, 1, none⟩ u1).setCell ⟨w.heap.size, 2, none⟩ u2).setCell ⟨w.heap.size, 3, none⟩ u3) :=
    ((((Chg.refl (fun k => k = w.heap.size) W).setCell (p := ⟨w.heap.size, 0, none⟩) (.inl rfl) u0).setCell (p := ⟨w.heap.size, 1, none⟩) (.inl rfl) u1).setCell (p := ⟨w.heap.size, 2, none⟩) (.inl rfl) u2).setCell (p := ⟨w.heap.size, 3, none⟩) (.inl rfl) u3
  have r1 := ownsRow_chg h.rv hc (fun g hg => by have := h.rowF g hg; omega)
  have r2 := ownsRow_chg h.rh hc (fun g hg => by have := h.rowH g hg; omega)
  have hb : Below w.heap.size w ((((W.setCell ⟨w.heap.size, 0, none⟩ u0).setCell ⟨w.heap.size, 1, none⟩ u1).setCell ⟨w.heap.size, 2, none⟩ u2).setCell ⟨w.heap.size, 3, none⟩ u3) :=
    (((h.ext.setCell (p := ⟨w.heap.size, 0, none⟩) (Nat.le_refl _) _).setCell (p := ⟨w.heap.size, 1, none⟩) (Nat.le_refl _) _).setCell (p := ⟨w.heap.size, 2, none⟩) (Nat.le_refl _) _).setCell (p := ⟨w.heap.size, 3, none⟩) (Nat.le_refl _) _
  have e1 : (frOf xs ps rs t).vars.length = n := by simp [frOf, hok, asg_length, hn]
  have e2 : (frOf xs ps rs t).homes.length = l := by simp [frOf, hok, hl]
  have v1 : sltV ps xs n = intVals (frOf xs ps rs t).vars := by
    simp only [frOf, hok, if_true]
    rw [vars_sltV, hn]
  have v2 : ((List.range l).map fun (x : Nat) => Value.int .i64 ((szOf (asg ps xs) + x : Nat) : Int)) = intVals (frOf xs ps rs t).homes := by
    simp only [frOf, hok, if_true, intVals, List.map_map, hl]
    rfl
  have e3 : (frOf xs ps rs t).temp = tm := by
    rw [htm]
    simp only [frOf, hok, if_true, hl]
  have e4 : (frOf xs ps rs t).size = sz := by
    rw [hsz]
    simp only [frOf, hok, if_true, hl]
  have e5 : (frOf xs ps rs t).err = 0 := by simp [frOf, hok]
  rw [v1] at r1
  rw [v2] at r2
  generalize frOf xs ps rs t = f at *
  obtain ⟨s1, s2, s3, s4, _⟩ := hS
  subst e1
  subst e2
  obtain ⟨b1, d1, i1, i2⟩ := ints_of_own r1 (by omega) (fun x hx => by have := s3 x hx; exact ⟨by omega, by omega⟩)
  obtain ⟨b2, d2, j1, j2⟩ := ints_of_own r2 (by omega) (fun x hx => by have := s4 x hx; exact ⟨by omega, by omega⟩)
  injection i1 with i3 _ i4
  injection j1 with j3 _ j4
  rw [← i3] at i2
  rw [← j3] at j2
  exact ⟨av, cv, ah, ch, by rw [e3, e4, e5], i2, j2, hb⟩

set_option maxRecDepth 100000 in
set_option maxHeartbeats 4000000 in
theorem of25_any (a : Option Addr) (n c : Nat) (xs : List Int) (a' : Option Addr) (m c' : Nat) (ps : List (Int × Int)) (a'' : Option Addr) (l c'' : Nat) (rs : List Int) (t : Bool) (w : World)
    (h : Ints w a n xs) (h' : Prs w a' m ps) (h'' : Ints w a'' l rs) :
    Calls Try.prog 12 #[.slice a n c, .slice a' m c', .slice a'' l c'', .bool t] w (Of25Post w (frOf xs ps rs t)) := by
  have q1 := h.2.1
  have q2 := h'.2.1
  have q3 := h''.2.1
  have H := Lib.hid h
  have H' := Lib.hid h'
  have H'' := Lib.hid h''
  clear h h' h''
  have hE0 := ext_alloc w (frC nilS nilS 0 0 32)
  have HE0 := Lib.hid hE0
  clear hE0
  by_cases hx : risingB xs 1 200 = true
  · by_cases hr : risingB rs 0 63 = true
    · go_enter Try.func12, Try.ntmps12
      go_wp2_with (first
        | (go_at_call 25; ((with_reducible refine (rising25_any a n c xs 1 200 _ (H.out.ext HE0.out)).mono ?_); rintro e w1 ⟨rfl, q, hq⟩; rw [hx]; have E1 : Hid (Below w.heap.size w w1) := (by rw [hq]; exact below_drewN HE0.out q); have R1 : Hid (w1.heap[w.heap.size]? = some (frC nilS nilS 0 0 32)) := (by rw [hq]; exact World.alloc_heap_new w _); clear hq))
        | (go_at_call 25; ((with_reducible refine (rising25_any a'' l c'' rs 0 63 _ (H''.out.ext E1.out)).mono ?_); rintro e w2 ⟨rfl, q2, hq2⟩; rw [hr]; have E2 : Hid (Below w.heap.size w w2) := (by rw [hq2]; exact below_drewN E1.out q2); have R2 : Hid (w2.heap[w.heap.size]? = some (frC nilS nilS 0 0 32)) := (by rw [hq2]; exact R1.out); clear hq2)))
      clear E1 R1
      have HX := Lib.hid (H.out.ext E2.out)
      have HP := Lib.hid (H'.out.ext E2.out)
      have HLP := Lib.hid H'.out.1
      have HLX := Lib.hid H.out.1
      have HLR := Lib.hid H''.out.1
      clear H H'
      go_loopw [10] (fun i wr => ∃ (k q : Nat), k ≤ m ∧ i = .int .i64 k ∧ wr = w2.drewN q ∧ Hid (∀ j, j < k → okPair xs (ps.getD j (0, 0)) = true)) (fun i _ => m - (intOf i).toNat)
      case atStart => exact ⟨0, 0, by omega, rfl, rfl, fun j hj => absurd hj (by omega)⟩
      case round =>
        obtain ⟨k, q, hk, rfl, rfl, HR⟩ := hrel
        by_cases hlt : k < m
        · obtain ⟨b, o, rfl, hcell, hcell', ⟨hw1, hw2⟩, hw3, hw4⟩ := HP.out.2.2 k hlt
          have hbad : ∀ W : World, okPair xs (ps.getD k (0, 0)) = false → Below w.heap.size w W → Of25Post w (frOf xs ps rs t) (.returned (.tuple #[.agg #[nilS, nilS, .int .i64 0, .int .i64 0], .int .i64 2])) W := fun W hf hW => by
            refine of25_badPost ?_ hW
            have : rightB xs ps = false := by
              rw [rightB, List.all_eq_false]
              exact ⟨_, getD_mem (show k < ps.length by rw [HLP.out]; exact hlt), by rw [hf]; simp⟩
            simp [okAll, this]
          have HBAD := Lib.hid hbad
          clear hbad
          have r0 : w2.cell? ⟨w.heap.size, 0, none⟩ = some nilS := by have := R2.out; simp [World.cell?, this]
          have r1 : w2.cell? ⟨w.heap.size, 1, none⟩ = some nilS := by have := R2.out; simp [World.cell?, this]
          have r2 : w2.cell? ⟨w.heap.size, 2, none⟩ = some (.int .i64 0) := by have := R2.out; simp [World.cell?, this]
          have r3 : w2.cell? ⟨w.heap.size, 3, none⟩ = some (.int .i64 0) := by have := R2.out; simp [World.cell?, this]
          have f0 : ∀ i, w2.frozen? ⟨w.heap.size, i, none⟩ = false := fun i => by have := R2.out; simp [World.frozen?, this]
          have hRl : w.heap.size < w2.heap.size := (Array.getElem?_eq_some_iff.1 R2.out).1
          by_cases hokp : okPair xs (ps.getD k (0, 0)) = true
          · have HE : Hid (∀ j, j < k + 1 → okPair xs (ps.getD j (0, 0)) = true) := fun j hj => by
              by_cases hjk : j = k
              · subst hjk; exact hokp
              · exact HR.out j (by omega)
            generalize ps.getD k (0, 0) = p at *
            obtain ⟨p1, p2⟩ := p
            simp only at hcell hcell' hw1 hw2 hw3 hw4
            simp only [okPair, Bool.and_eq_true, decide_eq_true_eq] at hokp
            obtain ⟨⟨e1, e2⟩, e3⟩ := hokp
            have b1 : (p1 == p2) = false := by simpa using e1
            have b2 : decide (idx xs p1 < 0) = false := by simp; omega
            have b3 : decide (idx xs p2 < 0) = false := by simp; omega
            clear e1 r0 r1 r2 r3 f0 hRl
            go_wp2
            go_quiet ((go_at_call 26; exact quiet_add_left (at25_any _ _ _ xs _ _ (HX.out.drewN _))))
            go_wp2
            go_roundw
            case rel => exact ⟨k + 1, _, by omega, by go_num, rfl, HE⟩
            case measure => simp [intOf]; omega
          · have hf : okPair xs (ps.getD k (0, 0)) = false := by simpa using hokp
            have HF : Hid (∀ W : World, Below w.heap.size w W → Of25Post w (frOf xs ps rs t) (.returned (.tuple #[.agg #[nilS, nilS, .int .i64 0, .int .i64 0], .int .i64 2])) W) := fun W => HBAD.out W hf
            clear HR HBAD
            generalize ps.getD k (0, 0) = p at *
            obtain ⟨p1, p2⟩ := p
            simp only at hcell hcell' hw1 hw2 hw3 hw4
            simp only [okPair, Bool.and_eq_true, decide_eq_true_eq] at hokp
            clear hf
            by_cases e1 : p1 = p2
            · have b1 : (p1 == p2) = true := by simpa using e1
              clear hokp
              subst e1
              go_wp2
              go_quiet (fail)
              go_wp2
              exact bodyPost_ret (v := .tuple #[.agg #[nilS, nilS, .int .i64 0, .int .i64 0], .int .i64 2]) (by simp [results, Try.results12, go_sem, r0, r1, r2, r3, f0]) rfl (HF.out _ (((((below_drewN E2.out _).setCell (p := ⟨w.heap.size, 0, none⟩) (Nat.le_refl _) _).setCell (p := ⟨w.heap.size, 1, none⟩) (Nat.le_refl _) _).setCell (p := ⟨w.heap.size, 2, none⟩) (Nat.le_refl _) _).setCell (p := ⟨w.heap.size, 3, none⟩) (Nat.le_refl _) _))
            · have b1 : (p1 == p2) = false := by simpa using e1
              by_cases e2 : idx xs p1 < 0
              · have b2 : decide (idx xs p1 < 0) = true := by simpa using e2
                clear hokp e1 e2
                go_wp2
                go_quiet ((go_at_call 26; exact quiet_add_left (at25_any _ _ _ xs _ _ (HX.out.drewN _))))
                go_wp2
                exact bodyPost_ret (v := .tuple #[.agg #[nilS, nilS, .int .i64 0, .int .i64 0], .int .i64 2]) (by simp [results, Try.results12, go_sem, r0, r1, r2, r3, f0]) rfl (HF.out _ (((((below_drewN E2.out _).setCell (p := ⟨w.heap.size, 0, none⟩) (Nat.le_refl _) _).setCell (p := ⟨w.heap.size, 1, none⟩) (Nat.le_refl _) _).setCell (p := ⟨w.heap.size, 2, none⟩) (Nat.le_refl _) _).setCell (p := ⟨w.heap.size, 3, none⟩) (Nat.le_refl _) _))
              · have b2 : decide (idx xs p1 < 0) = false := by simp; omega
                have b3 : decide (idx xs p2 < 0) = true := by
                  simp
                  by_cases e3 : idx xs p2 < 0
                  · exact e3
                  · exact absurd ⟨⟨e1, by omega⟩, by omega⟩ hokp
                clear hokp e1 e2
                go_wp2
                go_quiet ((go_at_call 26; exact quiet_add_left (at25_any _ _ _ xs _ _ (HX.out.drewN _))))
                go_wp2
                exact bodyPost_ret (v := .tuple #[.agg #[nilS, nilS, .int .i64 0, .int .i64 0], .int .i64 2]) (by simp [results, Try.results12, go_sem, r0, r1, r2, r3, f0]) rfl (HF.out _ (((((below_drewN E2.out _).setCell (p := ⟨w.heap.size, 0, none⟩) (Nat.le_refl _) _).setCell (p := ⟨w.heap.size, 1, none⟩) (Nat.le_refl _) _).setCell (p := ⟨w.heap.size, 2, none⟩) (Nat.le_refl _) _).setCell (p := ⟨w.heap.size, 3, none⟩) (Nat.le_refl _) _))
        · obtain rfl : k = m := by omega
          have hokA : okAll xs ps rs = true := by
            have : rightB xs ps = true := by
              rw [rightB, List.all_eq_true]
              intro p hp
              obtain ⟨j, hj, e⟩ := List.mem_iff_getElem.1 hp
              have := HR.out j (by rw [HLP.out] at hj; exact hj)
              rw [List.getD_eq_getElem?_getD, List.getElem?_eq_getElem hj] at this
              rw [← e]
              exact this
            simp [okAll, hx, hr, this]
          have hnd : xs.Nodup := nodup_of_lt (rising_all hx).2.1
          have hn2 : n ≤ 200 := by
            have := (rising_all hx).2.2
            rw [HLX.out] at this
            omega
          have hl2 : l ≤ 64 := by
            have := (rising_all hr).2.2
            rw [HLR.out] at this
            omega
          have HND := Lib.hid hnd
          have HOK := Lib.hid hokA
          clear HR hnd hokA hx hr
          have E3 : Hid (Below w.heap.size w (w2.drewN q)) := below_drewN E2.out q
          have R3 : Hid ((w2.drewN q).heap[w.heap.size]? = some (frC nilS nilS 0 0 32)) := R2.out
          have X3 : Hid (Ints (w2.drewN q) a n xs) := HX.out
          have P3 : Hid (Prs (w2.drewN q) a' k ps) := HP.out
          clear HX HP R2 E2
          generalize w2.drewN q = W at *
          have hRl : w.heap.size < W.heap.size := (Array.getElem?_eq_some_iff.1 R3.out).1
          go_wp2
          have HF0 : Hid (RF w (W.alloc (frC nilS nilS (-1) 0 32)) w.heap.size W.heap.size nilS nilS 0 0 [] [] (-1) 0) :=
            ⟨(Below.heap_alloc _ _ _ hRl).trans R3.out, World.alloc_heap_new W _, World.ownsRow_nil _ _ _ _, World.ownsRow_nil _ _ _ _, fun g hg => by simp [Value.ownBlock] at hg, ext_trans E3.out (ext_alloc W _), Nat.le_refl _, hRl⟩
          have XB : Hid (Below W.heap.size W (W.alloc (frC nilS nilS (-1) 0 32))) := ext_alloc W _
          have hWF : W.heap.size ≤ W.heap.size := Nat.le_refl _
          generalize hF : W.heap.size = F at *
          have HFW := Lib.hid hF
          clear hF hWF E3 R3 hRl
          go_loopw [12, 13, 14] (fun ii ss kk wr => ∃ (i : Nat) (vv : Value), i ≤ n ∧ ii = .int .i64 i ∧ Hid (RF w wr w.heap.size F vv nilS i 0 (sltV ps xs i) [] (-1) (szOf (asg ps (xs.take i)) : Nat)) ∧ Hid (Below F W wr)) (fun ii _ _ _ => n - (intOf ii).toNat)
          case atStart => exact ⟨0, nilS, by omega, rfl, HF0, XB⟩
          case round =>
            clear HF0 XB
            obtain ⟨i, vv, hi, rfl, HRF, HB⟩ := hrel
            by_cases hlt2 : i < n
            · have hS : ∃ S, slt ps xs i = S := ⟨_, rfl⟩
              obtain ⟨S, hS⟩ := hS
              have HHit : Hid (∀ s j, s ≤ S → j < i → slt ps xs j = s → pairedB ps (xs.getD i 0) (xs.getD j 0) = true → s < S) := fun s j h1 h2 h3 h4 => by
                rw [← hS] at h1 ⊢
                exact hit_lt ps xs (by rw [HLX.out]; omega) HND.out i (by rw [HLX.out]; exact hlt2) s j h1 h2 h3 h4
              have HMiss : Hid (∀ s, s ≤ S → (∀ j, j < i → ¬ (slt ps xs j = s ∧ pairedB ps (xs.getD i 0) (xs.getD j 0) = true)) → s = S) := fun s h1 h2 => by
                rw [← hS] at h1 ⊢
                exact miss_eq ps xs (by rw [HLX.out]; omega) HND.out i (by rw [HLX.out]; exact hlt2) s h1 h2
              have HSb : S ≤ 300 := by
                have h1 := slt_lt ps xs i (by rw [HLX.out]; exact hlt2)
                have h2 := sz_le (asg ps xs) (asg ps xs).length (asg_lt ps xs (by rw [HLX.out]; omega))
                have h3 := asg_length ps xs
                rw [HLX.out] at h3
                omega
              have HSz : Hid (szOf (asg ps (xs.take (i + 1))) = max (szOf (asg ps (xs.take i))) (S + 1)) := by
                rw [Hid, asg_succ ps xs i (by rw [HLX.out]; exact hlt2), szOf_snoc, hS]
              have HSv : Hid (sltV ps xs (i + 1) = sltV ps xs i ++ [.int .i64 (S : Int)]) := by
                rw [Hid, sltV_snoc, hS]
              have hzb : szOf (asg ps (xs.take i)) ≤ 300 := by
                have h2 := sz_le (asg ps (xs.take i)) (asg ps (xs.take i)).length (asg_lt ps (xs.take i) (by simp [HLX.out]; omega))
                have h3 := asg_length ps (xs.take i)
                have h4 : (xs.take i).length ≤ i := List.length_take_le _ _
                omega
              clear hS
              obtain ⟨bx, ox, rfl, hcx, _⟩ := (X3.out.ext (by rw [HFW.out]; exact HB.out)).2.2 i hlt2
              obtain ⟨c0, c1, c2, c3, cf, cl⟩ := HRF.out.cells
              obtain ⟨av, cv, ev⟩ := row_slice HRF.out.rv
              subst ev
              have HXall : Hid (∀ k, k < n → wr.cell? ⟨bx, ox + k, none⟩ = some (.int .i64 (xs.getD k 0))) := fun k hk => by
                obtain ⟨b, o, e, hc, _⟩ := (X3.out.ext (by rw [HFW.out]; exact HB.out)).2.2 k hk
                simp only [Option.some.injEq, Addr.mk.injEq, and_true] at e
                obtain ⟨rfl, rfl⟩ := e
                exact hc
              have HPw : Hid (Prs wr a' k ps) := P3.out.ext (by rw [HFW.out]; exact HB.out)
              go_wp2
              go_loopw [13, 14] (fun ss kk wz => ∃ (s j q : Nat), s ≤ S ∧ j ≤ i ∧ ss = .int .i64 s ∧ kk = .int .i64 j ∧ wz = wr.drewN q ∧ Hid (∀ j', j' < j → ¬ (slt ps xs j' = s ∧ pairedB ps (xs.getD i 0) (xs.getD j' 0) = true))) (fun ss kk _ => (S - (intOf ss).toNat) * (i + 1) + (i - (intOf kk).toNat))
              case atStart => exact ⟨0, 0, 0, by omega, by omega, rfl, rfl, rfl, fun j hj => absurd hj (by omega)⟩
              case round =>
                obtain ⟨s, j, q, hs, hj, rfl, rfl, rfl, HN⟩ := hrel
                by_cases hlt3 : j < i
                · obtain ⟨bv, cv', e2, hcv⟩ := row_cell HRF.out.rv hlt3 (u := .int .i64 (slt ps xs j : Int)) (by simp [sltV, hlt3])
                  simp only [Value.slice.injEq, true_and] at e2
                  obtain ⟨rfl, rfl⟩ := e2
                  have hcj := HXall.out j (by omega)
                  have HNX : Hid (¬ (slt ps xs j = s ∧ pairedB ps (xs.getD i 0) (xs.getD j 0) = true) → ∀ j', j' < j + 1 → ¬ (slt ps xs j' = s ∧ pairedB ps (xs.getD i 0) (xs.getD j' 0) = true)) := fun hn j' hj' => by
                    by_cases e : j' = j
                    · subst e; exact hn
                    · exact HN.out j' (by omega)
                  have HHj := Lib.hid (HHit.out s j hs hlt3)
                  generalize hx1 : xs.getD i 0 = x at *
                  generalize hy1 : xs.getD j 0 = y at *
                  generalize slt ps xs j = sj at *
                  clear hx1 hy1
                  by_cases e1 : sj = s
                  · subst e1
                    have b1 : ((sj : Int) == (sj : Int)) = true := by simp
                    by_cases e2 : pairedB ps x y = true
                    · have hlt4 := HHj.out rfl e2
                      go_wp2
                      go_quiet ((go_at_call 27; exact quiet_add_left (paired_any _ _ _ ps _ _ _ (HPw.out))))
                      go_wp2
                      go_roundw
                      case rel => exact ⟨sj + 1, 0, _, by omega, by omega, by go_num, rfl, rfl, fun j hj => absurd hj (by omega)⟩
                      case measure =>
                        simp [intOf]
                        exact meas_hit S sj i j hlt4
                    · have e2' : pairedB ps x y = false := by simpa using e2
                      have HNN := Lib.hid (HNX.out (fun h => e2 h.2))
                      clear e2 HNX
                      go_wp2
                      go_quiet ((go_at_call 27; exact quiet_add_left (paired_any _ _ _ ps _ _ _ (HPw.out))))
                      go_wp2
                      go_roundw
                      case rel => exact ⟨sj, j + 1, _, by omega, by omega, rfl, by go_num, rfl, HNN⟩
                      case measure => simp [intOf]; omega
                  · have b1 : ((sj : Int) == (s : Int)) = false := by simp; omega
                    have HNN := Lib.hid (HNX.out (fun h => e1 h.1))
                    clear HNX
                    go_wp2
                    go_quiet (fail)
                    go_wp2
                    go_roundw
                    case rel => exact ⟨s, j + 1, _, by omega, by omega, rfl, by go_num, rfl, HNN⟩
                    case measure => simp [intOf]; omega
                · obtain rfl : j = i := by omega
                  obtain rfl : s = S := HMiss.out s hs HN.out
                  have HRQ := Lib.hid (HRF.out.drewN q)
                  have HBQ := Lib.hid (below_drewN HB.out q)
                  clear HRF HB c0 c1 c2 c3 cf cl hcx
                  generalize wr.drewN q = Y at *
                  obtain ⟨c0, c1, c2, c3, cf, cl⟩ := HRQ.out.cells
                  go_wp2_with (first
                    | (at_builtin
                       refine wpList_append1 rfl Y (.tmp 97) (.tmp 99) 22 3 rfl (F + 1) _ 1 8 Try.underlying22 info_int rfl (by omega) (.slice av j cv) j _ [.int .i64 (s : Int)] rfl HRQ.out.rv Y.heap.size rfl rfl rfl (by simp [Value.oneCell']) (by simp only [maxLen]; omega) (by omega) (by omega) ?_
                       intro g cap w3 hown3 hg3 hat3
                       obtain ⟨hp1, hp2, hp3, hp4⟩ := HRQ.out.pushV hown3 hg3 hat3
                       have HP1 := Lib.hid hp1
                       have HBB : Hid (Below F W w3) := HBQ.out.grown hg3 (by omega) (fun b e => by have := HRQ.out.rowF b e; omega)
                       clear hp1 hown3 hg3 hat3))
                  go_roundw
                  case rel =>
                    refine ⟨j + 1, .slice (some ⟨g, 0, none⟩) (j + 1) cap, by omega, by go_num, ?_, ?_⟩
                    · rw [HSv.out, HSz.out]
                      refine HP1.out.set_ 3 _ (max_set _ _ _ _ _ _ rfl)
                    · exact (HBB.out.setCell (p := ⟨F, 0, none⟩) (Nat.le_refl _) _).setCell (p := ⟨F, 3, none⟩) (Nat.le_refl _) _
                  case measure => simp [intOf]; omega
            · obtain rfl : i = n := by omega
              rw [List.take_of_length_le (by rw [HLX.out]; omega)] at HRF
              have hzb : szOf (asg ps xs) ≤ 300 := by
                have h2 := sz_le (asg ps xs) (asg ps xs).length (asg_lt ps xs (by rw [HLX.out]; omega))
                have h3 := asg_length ps xs
                rw [HLX.out] at h3
                omega
              obtain ⟨av, cv, ev⟩ := row_slice HRF.out.rv
              subst ev
              generalize hz : szOf (asg ps xs) = z at *
              have HZ := Lib.hid hz
              clear hz
              go_wp2
              go_loopw [15] (fun ii wz => ∃ (j : Nat) (hh : Value), j ≤ l ∧ ii = .int .i64 j ∧ Hid (RF w wz w.heap.size F (.slice av i cv) hh i j (sltV ps xs i) ((List.range j).map fun (x : Nat) => .int .i64 ((z + x : Nat) : Int)) (-1) ((z + j : Nat) : Int))) (fun ii _ => l - (intOf ii).toNat)
              case atStart => exact ⟨0, nilS, by omega, rfl, HRF⟩
              case round =>
                clear HRF HB
                obtain ⟨j, hh, hj, rfl, HRF⟩ := hrel
                by_cases hlt3 : j < l
                · obtain ⟨c0, c1, c2, c3, cf, cl⟩ := HRF.out.cells
                  obtain ⟨ah, ch, eh⟩ := row_slice HRF.out.rh
                  subst eh
                  go_wp2_with (first
                    | (at_builtin
                       refine wpList_append1 rfl wr (.tmp 115) (.tmp 118) 22 3 rfl (F + 1) _ 1 8 Try.underlying22 info_int rfl (by omega) (.slice ah j ch) j _ [.int .i64 ((z + j : Nat) : Int)] rfl HRF.out.rh wr.heap.size rfl rfl rfl (by simp [Value.oneCell']) (by simp only [maxLen]; omega) (by omega) (by omega) ?_
                       intro g cap w3 hown3 hg3 hat3
                       obtain ⟨hp1, hp2, hp3, hp4⟩ := HRF.out.pushH hown3 hg3 hat3
                       have HP1 := Lib.hid hp1
                       clear hp1 hown3 hg3 hat3))
                  go_roundw
                  case rel =>
                    refine ⟨j + 1, .slice (some ⟨g, 0, none⟩) (j + 1) cap, by omega, by go_num, ?_⟩
                    rw [List.range_succ, List.map_append]
                    exact HP1.out.set_ 3 _ rfl
                  case measure => simp [intOf]; omega
                · obtain rfl : j = l := by omega
                  obtain ⟨c0, c1, c2, c3, cf, cl⟩ := HRF.out.cells
                  obtain ⟨ah, ch, eh⟩ := row_slice HRF.out.rh
                  subst eh
                  obtain ⟨hr1, hr2, hr3⟩ := HRF.out.resCells
                  obtain ⟨u0, g0⟩ := hr1 0 (by omega)
                  obtain ⟨u1, g1⟩ := hr1 1 (by omega)
                  obtain ⟨u2, g2⟩ := hr1 2 (by omega)
                  obtain ⟨u3, g3⟩ := hr1 3 (by omega)
                  clear hr1
                  have hneRF : F ≠ w.heap.size := by have := HRF.out.le; omega
                  cases t with
                  | false =>
                    go_wp2
                    refine bodyPost_ret (v := .tuple #[.agg #[.slice av i cv, .slice ah j ch, .int .i64 (-1), .int .i64 ((z + j : Nat) : Int)], .int .i64 0]) (by simp [results, Try.results12, go_sem, g0, g1, g2, g3, hr2]) rfl ?_
                    have hh := HRF.out
                    rw [← HZ.out] at hh ⊢
                    exact of25_good hh HOK.out HLX.out HLR.out rfl (by simp) _ _ _ _
                  | true =>
                    have HR2 : Hid (RF w ((wr.setCell ⟨F, 2, none⟩ (.int .i64 ((z + j : Nat) : Int))).setCell ⟨F, 3, none⟩ (.int .i64 (((z + j : Nat) : Int) + 1))) w.heap.size F (.slice av i cv) (.slice ah j ch) i j (sltV ps xs i) ((List.range j).map fun (x : Nat) => .int .i64 ((z + x : Nat) : Int)) ((z + j : Nat) : Int) (((z + j : Nat) : Int) + 1)) := (HRF.out.set_ 2 _ rfl).set_ 3 _ rfl
                    go_wp2
                    refine bodyPost_ret (v := .tuple #[.agg #[.slice av i cv, .slice ah j ch, .int .i64 ((z + j : Nat) : Int), .int .i64 (((z + j : Nat) : Int) + 1)], .int .i64 0]) (by simp [results, Try.results12, go_sem, g0, g1, g2, g3, hr2, hneRF]) rfl ?_
                    have hh := HR2.out
                    rw [← HZ.out] at hh ⊢
                    exact of25_good hh HOK.out HLX.out HLR.out rfl (by simp) _ _ _ _
    · have hr' : risingB rs 0 63 = false := by simpa using hr
      have hok : okAll xs ps rs = false := by simp [okAll, hr']
      have HOK := Lib.hid hok
      clear hr hok
      go_enter Try.func12, Try.ntmps12
      go_wp2_with (first
        | (go_at_call 25; ((with_reducible refine (rising25_any a n c xs 1 200 _ (H.out.ext HE0.out)).mono ?_); rintro e w1 ⟨rfl, q, rfl⟩; rw [hx]))
        | (go_at_call 25; ((with_reducible refine (rising25_any a'' l c'' rs 0 63 _ (H''.out.ext (below_drewN HE0.out _))).mono ?_); rintro e w2 ⟨rfl, q2, rfl⟩; rw [hr'])))
      exact bodyPost_ret (v := .tuple #[.agg #[nilS, nilS, .int .i64 0, .int .i64 0], .int .i64 2]) (by simp [results, Try.results12, go_sem]) rfl (of25_badPost HOK.out (((((below_drewN HE0.out _).setCell (p := ⟨w.heap.size, 0, none⟩) (Nat.le_refl _) _).setCell (p := ⟨w.heap.size, 1, none⟩) (Nat.le_refl _) _).setCell (p := ⟨w.heap.size, 2, none⟩) (Nat.le_refl _) _).setCell (p := ⟨w.heap.size, 3, none⟩) (Nat.le_refl _) _))
  · have hx' : risingB xs 1 200 = false := by simpa using hx
    have hok : okAll xs ps rs = false := by simp [okAll, hx']
    have HOK := Lib.hid hok
    clear hx hok
    go_enter Try.func12, Try.ntmps12
    go_wp2_with (first
      | (go_at_call 25; refine (rising25_any a n c xs 1 200 _ (H.out.ext HE0.out)).mono ?_; rintro e w1 ⟨rfl, q, rfl⟩; rw [hx']))
    exact bodyPost_ret (v := .tuple #[.agg #[nilS, nilS, .int .i64 0, .int .i64 0], .int .i64 2]) (by simp [results, Try.results12, go_sem]) rfl (of25_badPost HOK.out (((((below_drewN HE0.out _).setCell (p := ⟨w.heap.size, 0, none⟩) (Nat.le_refl _) _).setCell (p := ⟨w.heap.size, 1, none⟩) (Nat.le_refl _) _).setCell (p := ⟨w.heap.size, 2, none⟩) (Nat.le_refl _) _).setCell (p := ⟨w.heap.size, 3, none⟩) (Nat.le_refl _) _))
end Go.Proofs.Ytkakanjoeofjcaa
