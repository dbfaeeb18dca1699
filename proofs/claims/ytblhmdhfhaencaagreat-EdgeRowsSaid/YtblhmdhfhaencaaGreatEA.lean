/-
  Edge: going through a function's edges.
-/
import Derived.Test.YtblhmdhfhaencaaGreatEU
import Derived.Test.YtblhmdhfhaencaaGreatRangeT
import Derived.Test.YtblhmdhfhaencaaGreatTB
import Derived.Test.YtblhmdhfhaencaaGreatTI
namespace Go.Proofs.YtblhmdhfhaencaaGreat
set_option linter.unusedSimpArgs false
set_option linter.unusedVariables false
open Go.RowKit Go.Shelf
attribute [local go_sem] Oper.semAt_some wide_fn wide_depth wide_fnR wide_depthR

def encE (x : EdgeD) : Array Value := #[.agg #[.int .i64 x.fr, .int .i64 x.arm, .int .i64 x.to]]
theorem cell_heap {w w' : World} {b o : Nat} (h : w'.heap[b]? = w.heap[b]?) : w'.cell? ⟨b, o, none⟩ = w.cell? ⟨b, o, none⟩ := by
  unfold World.cell?
  simp only [h]
theorem Ints.heap {w w' : World} {a : Option Addr} {n : Nat} {xs : List Int} (h : Ints w a n xs) (hb : ∀ b o, a = some ⟨b, o, none⟩ → w'.heap[b]? = w.heap[b]?) : Ints w' a n xs :=
  ⟨h.1, h.2.1, fun k hk => by
    obtain ⟨b, o, e, hc, hi⟩ := h.2.2 k hk
    exact ⟨b, o, e, (cell_heap (hb b o e)).trans hc, hi⟩⟩
theorem each40_any (pa : Option Addr) (pn pc : Nat) (ba : Option Addr) (bn bc : Nat) (w : World) : Calls Tryz.prog 70 #[funcV pa pn pc ba bn bc] w fun e w' => e = .returned (.func (.func 123) #[] #[.pointer (some ⟨w.heap.size, 0, none⟩)]) ∧ w' = w.alloc (funcO pa pn pc ba bn bc) := by
  go_enter Tryz.func70, Tryz.ntmps70
  go_wp2
  go_ret
  exact ⟨rfl, rfl⟩
set_option maxRecDepth 100000 in
set_option maxHeartbeats 4000000 in
theorem eachE_iterTI (pa : Option Addr) (pn pc : Nat) (ba : Option Addr) (bn bc : Nat) (bs : List BlkH) (G : Nat) : IterTI Tryz.prog 123 #[.pointer (some ⟨G, 0, none⟩)] encE (edgesL (tsOf bs)) (fun W => W.heap[G]? = some (funcO pa pn pc ba bn bc) ∧ BlksOK W ba bn bs) := by
  intro l K Kx T W hK hKx hInv hT0 hTg hY h0
  refine callsIn_of_wp Tryz.func123 rfl trivial ?_ rfl
  simp only [Tryz.ntmps123, List.size_toArray, List.length_cons, List.length_nil, Nat.reduceAdd, Nat.reduceSub, Array.replicate_succ, Array.replicate_zero, List.push_toArray, List.append_toArray, List.nil_append, List.cons_append]
  have HY := Lib.hid hY
  have HI := Lib.hid hInv
  have HK0 := Lib.hid hK
  have HT0 := Lib.hid hT0
  have HTG := Lib.hid hTg
  have H0 : Hid (K (edgesFrom (tsOf bs) 0) W) := h0
  have hg0 : W.cell? ⟨G, 1, none⟩ = some (.slice ba bn bc) := by rw [cell_of_row _ _ _ _ _ _ (hInv _ _ h0).1]; rfl
  have hbn := (hInv _ _ h0).2.1.2.1
  have HLN := Lib.hid (hInv _ _ h0).2.1.1
  clear hY hInv hK hKx h0 hT0 hTg
  gi_wp2
  gi_loopw [3, 4, 5, 6, 10] (fun _ _ _ _ i wr => ∃ k : Nat, i = .int .i64 k ∧ k ≤ bn ∧ Hid (K (edgesFrom (tsOf bs) k) wr)) (fun _ _ _ _ i _ => bn - (intOf i).toNat)
  case atStart => exact ⟨0, rfl, by omega, H0.out⟩
  case round =>
    obtain ⟨k, rfl, hk, HK⟩ := hrel
    clear hg0
    by_cases hlt : k < bn
    · obtain ⟨x, b, o, hbx, hxo, rfl, c0, c1, c2, c3, c4⟩ := (HI.out _ _ HK.out).2.cells hlt
      have htd := tsOf_at bs k x hbx
      have HES : Hid (edgesFrom (tsOf bs) k = armsF k 0 (toD x.t) ++ edgesFrom (tsOf bs) (k + 1)) := by
        rw [Hid, edgesFrom_step _ _ (by rw [tsOf_len, HLN.out]; exact hlt), edgesAt, htd]
      have HXO := Lib.hid hxo
      have hlt' : (k : Int) < (bn : Int) := by omega
      clear hbx htd hxo
      gi_wp2_with (
        (gi_at_call 124
         refine (callsIn_wide.2 (to_any x.t _ HXO.out)).mono ?_
         rintro e w2 ⟨v, rfl, ho, hb⟩
         obtain ⟨va, vc, rfl⟩ := ho.form
         have hbw := ext_trans (ext_alloc wr (blkO x)) hb
         have HV := Lib.hid ho.ints
         have HK2 := Lib.hid (HK0.out _ _ _ HK.out hbw)
         have HNT : Hid (∀ q o, va = some ⟨q, o, none⟩ → ¬ T w2 q) := (fun q o e ht => by
           have h1 := HT0.out _ _ _ HK.out (HTG.out _ _ _ _ HK.out hbw ht)
           have h2 := (ho.1.lt q (by rw [e]; rfl)).1
           simp at h2
           omega)
         clear ho hb hbw))
      obtain ⟨wo, rfl⟩ : ∃ wo : World, wo = wr := ⟨_, rfl⟩
      gi_loopw [5, 6, 19] (fun _ _ i wi => ∃ j : Nat, i = .int .i64 j ∧ j ≤ (toD x.t).length ∧ Hid (K (armsF k j ((toD x.t).drop j) ++ edgesFrom (tsOf bs) (k + 1)) wi) ∧ Hid (Ints wi va (toD x.t).length (toD x.t)) ∧ Hid (∀ q o, va = some ⟨q, o, none⟩ → ¬ T wi q)) (fun _ _ i _ => (toD x.t).length - (intOf i).toNat)
      case atStart => exact ⟨0, rfl, by omega, by rw [Hid, List.drop_zero, ← HES.out]; exact HK2.out, HV, HNT⟩
      case round =>
        obtain ⟨j, rfl, hj, HKj, HVj, HNTj⟩ := hrel
        clear HK2 HV HNT
        by_cases hjl : j < (toD x.t).length
        · obtain ⟨b3, o3, rfl, hcy, _⟩ := HVj.out.2.2 j hjl
          have HL : Hid (armsF k j ((toD x.t).drop j) ++ edgesFrom (tsOf bs) (k + 1) = ⟨k, j, (toD x.t).getD j 0⟩ :: (armsF k (j + 1) ((toD x.t).drop (j + 1)) ++ edgesFrom (tsOf bs) (k + 1))) := by
            rw [Hid, List.drop_eq_getElem_cons hjl]
            simp [armsF, List.getD_eq_getElem?_getD, hjl]
          have hjl' : (j : Int) < ((toD x.t).length : Int) := by omega
          obtain ⟨fn, tmps, assign, body, hy, hR⟩ := HY.out _ ⟨k, j, (toD x.t).getD j 0⟩ wr (by rw [HL.out]; rfl) HKj.out
          unfold encE at hy
          have hT : nxL (armsF k j ((toD x.t).drop j) ++ edgesFrom (tsOf bs) (k + 1)) ⟨k, j, (toD x.t).getD j 0⟩ = armsF k (j + 1) ((toD x.t).drop (j + 1)) ++ edgesFrom (tsOf bs) (k + 1) := by rw [HL.out]; rfl
          rw [hT] at hR
          have HR2 := Lib.hid hR
          clear hT hR
          have hj2 := toD_len x.t
          generalize (toD x.t).getD j 0 = y at *
          gi_wp2
          refine HR2.out.mono ?_
          rintro e W' (⟨rfl, hJ', hT'⟩ | ⟨rfl, hX'⟩)
          · have HKn := Lib.hid hJ'
            have HVn := Lib.hid (HVj.out.heap fun b o e => hT'.2.1 b (by
              obtain ⟨b4, o4, e4, hc4, _⟩ := HVj.out.2.2 j hjl
              rw [e4] at e
              injection e with e
              injection e with e _ _
              subst e
              exact World.block_lt_of_cell? _ _ hc4) (HNTj.out b o e))
            have HNn : Hid (∀ q o, some (⟨b3, o3, none⟩ : Addr) = some ⟨q, o, none⟩ → ¬ T W' q) := fun q o e ht => by
              rcases hT'.2.2 q ht with h | h
              · exact HNTj.out q o e h
              · have := World.block_lt_of_cell? _ _ hcy
                injection e with e
                injection e with e _ _
                subst e
                simp at this
                omega
            clear hJ' hT' hy HR2 hcy
            gi_wp2
            go_roundw
            case rel => exact ⟨j + 1, by go_num, by omega, HKn, HVn, HNn⟩
            case measure => simp [intOf]; omega
          · have HX := Lib.hid hX'
            clear hX' hy HR2
            gi_wp2
            exact bodyPost_ret (v := .tuple #[]) (by simp [results, Tryz.results123, go_sem]) rfl ⟨⟨_, rfl⟩, Or.inr HX.out⟩
        · obtain rfl : j = (toD x.t).length := by omega
          have HKe : Hid (K (edgesFrom (tsOf bs) (k + 1)) wr) := by
            have := HKj.out
            rw [List.drop_length] at this
            exact this
          clear HKj HVj HNTj
          gi_wp2
          go_roundw
          case rel => exact ⟨k + 1, by go_num, by omega, HKe⟩
          case measure => simp [intOf]; omega
    · obtain rfl : k = bn := by omega
      have HE : Hid (edgesFrom (tsOf bs) k = []) := edgesFrom_end _ _ (by rw [tsOf_len, HLN.out]; omega)
      gi_wp2
      go_end0
      exact ⟨⟨_, rfl⟩, Or.inl ⟨_, HE.out, HK.out⟩⟩
end Go.Proofs.YtblhmdhfhaencaaGreat
