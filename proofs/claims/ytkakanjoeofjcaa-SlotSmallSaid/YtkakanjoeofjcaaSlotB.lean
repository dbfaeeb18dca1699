/-
  Walks of package slot: own, from, least.
-/
import Derived.Test.YtkakanjoeofjcaaSlotA
import Derived.Test.YtkakanjoeofjcaaMaps
import Derived.Test.YtkakanjoeofjcaaRound
import Derived.Scope
namespace Go.Proofs.Ytkakanjoeofjcaa
open Go.RowKit Go.Shelf
attribute [local go_sem] Oper.semAt_some wide_fn wide_depth wide_fnR wide_depthR

/-- the maker that lies in block M -/
def MK (w : World) (M : Nat) (vs hs : Value) (tm sz : Int) (N S : Nat) : Prop :=
  w.heap[M]? = some (.cells #[vs, hs, .int .i64 tm, .int .i64 sz, .map (some N), .map (some S)] 55 (0, 0))

theorem MK.cells {w : World} {M : Nat} {vs hs : Value} {tm sz : Int} {N S : Nat} (h : MK w M vs hs tm sz N S) :
    w.cell? ⟨M, 0, none⟩ = some vs ∧ w.cell? ⟨M, 1, none⟩ = some hs ∧ w.cell? ⟨M, 2, none⟩ = some (.int .i64 tm) ∧ w.cell? ⟨M, 3, none⟩ = some (.int .i64 sz) ∧
    w.cell? ⟨M, 4, none⟩ = some (.map (some N)) ∧ w.cell? ⟨M, 5, none⟩ = some (.map (some S)) ∧ (∀ i, w.frozen? ⟨M, i, none⟩ = false) ∧ M < w.heap.size := by
  unfold MK at h
  refine ⟨?_, ?_, ?_, ?_, ?_, ?_, ?_, (Array.getElem?_eq_some_iff.1 h).1⟩ <;> simp [World.cell?, World.frozen?, h]

theorem own_any (w : World) (M : Nat) (vs hs : Value) (tm sz : Int) (N S : Nat) (h : MK w M vs hs tm sz N S) (h0 : 0 ≤ sz) (h1 : sz ≤ 100000) :
    Calls Try.prog 24 #[.pointer (some ⟨M, 0, none⟩)] w fun e w' => e = .returned (.int .i64 sz) ∧ w.setCell ⟨M, 3, none⟩ (.int .i64 (sz + 1)) = w' := by
  obtain ⟨_, _, _, c3, _, _, hf, _⟩ := h.cells
  have hf3 := hf 3
  clear h hf
  go_enter Try.func24, Try.ntmps24
  go_wp2
  go_ret
  exact ⟨ret_int (by omega), rfl⟩

theorem from_any (w : World) :
    Calls Try.prog 32 #[] w fun e w' => e = .returned (.func (.func 50) #[] #[]) ∧ w = w' := by
  go_enter Try.func32, Try.ntmps32
  go_wp2
  go_ret
  exact ⟨rfl, rfl⟩

theorem from_iter (M : Nat) (hM : M ≤ 1000000) : Iter Try.prog 50 #[] (fun i : Nat => #[.int .i64 (i : Int)]) (fun s x => x = s) (fun s _ => s + 1) 0 (fun _ => False) (fun s _ => s < M) := by
  intro l K Kx W hK hKx hInv hY h0
  refine callsIn_of_wp Try.func50 rfl trivial ?_ rfl
  simp only [Try.ntmps50, List.size_toArray, List.length_cons, List.length_nil, Nat.reduceAdd, Nat.reduceSub, Array.replicate_succ, Array.replicate_zero, List.push_toArray, List.append_toArray, List.nil_append, List.cons_append]
  have HY := Lib.hid hY
  have HI := Lib.hid hInv
  clear hY hInv hK hKx
  gi_wp2
  gi_loopw [2] (fun i wr => ∃ k : Nat, i = .int .i64 k ∧ k < M ∧ Hid (K k wr)) (fun i _ => M - (intOf i).toNat)
  case atStart => exact ⟨0, rfl, HI.out _ _ h0, h0⟩
  case round =>
    obtain ⟨k, rfl, hk, HK⟩ := hrel
    obtain ⟨fn, tmps, assign, body, hy, hR⟩ := HY.out k k wr rfl HK.out
    gi_wp2
    refine hR.mono ?_
    rintro e W' (⟨rfl, hJ'⟩ | ⟨rfl, hX'⟩)
    · have hk1 := HI.out _ _ hJ'
      have HK1 := Lib.hid hJ'
      clear hJ' hy hR
      gi_wp2
      go_roundw
      case rel => exact ⟨k + 1, by go_num, hk1, HK1.out⟩
      case measure => simp [intOf]; omega
    · have HX := Lib.hid hX'
      clear hX' hy hR
      gi_wp2
      go_end0
      exact ⟨⟨_, rfl⟩, Or.inr HX.out⟩

/-- is slot n taken by one of ns? -/
def blk (ns : List Int) (g : Int → Option Int) (n : Int) : Bool := ns.any (fun x => decide (g x = some n))
def LeastIs (ns : List Int) (g : Int → Option Int) (r : Nat) : Prop := blk ns g r = false ∧ ∀ j : Nat, j < r → blk ns g j = true
def slotsOf (g : Int → Option Int) : Int → Option Value := fun x => (g x).map (Value.int .i64)
def LeastPost (w : World) (ns : List Int) (g : Int → Option Int) (e : Ending) (w' : World) : Prop := ∃ r : Nat, e = .returned (.int .i64 r) ∧ LeastIs ns g r ∧ Below w.heap.size w w'

theorem blk_of (ns : List Int) (g : Int → Option Int) (k : Nat) (hk : k < ns.length) (n : Int) (h : g (ns.getD k 0) = some n) : blk ns g n = true := by
  unfold blk
  rw [List.any_eq_true]
  exact ⟨ns.getD k 0, by simp [List.getD, hk], by simpa using h⟩

theorem zero_int (w : World) : (zeroValue 3).run Try.prog w = .ok (.int .i64 0) w := by kernel_rfl
theorem zero_ints (w : World) : (zeroValue 22).run Try.prog w = .ok (.slice none 0 0) w := by kernel_rfl

/-- what lies where while 'least' runs: its three boxes; all else is as it was -/
def LJ (w : World) (M : Nat) (v r : Int) (W : World) : Prop :=
  W.heap[w.heap.size]? = some (.cells #[.pointer (some ⟨M, 0, none⟩)] 51 (0, 0)) ∧ W.heap[w.heap.size + 1]? = some (.cells #[.int .i64 v] 3 (0, 0)) ∧ W.heap[w.heap.size + 2]? = some (.cells #[.int .i64 r] 3 (0, 0)) ∧
  Below w.heap.size w W

theorem LJ.steady {w : World} {M : Nat} {v r : Int} {B : Nat} (hB : w.heap.size ≤ B) : Steady B (LJ w M v r) := by
  unfold LJ
  exact (Steady.block _ _ rfl).and ((Steady.block _ _ rfl).and ((Steady.block _ _ rfl).and (Steady.below (Nat.le_refl _) hB)))
theorem LJ.drewN {w : World} {M : Nat} {v r : Int} {W : World} (h : LJ w M v r W) (q : Nat) : LJ w M v r (W.drewN q) := (LJ.steady (Nat.le_refl _)).ext h (ext_drewN (Below.refl _ _) q)
theorem LJ.set {w : World} {M : Nat} {v r r' : Int} {W : World} (h : LJ w M v r W) : LJ w M v r' (W.setCell ⟨w.heap.size + 1 + 1, 0, none⟩ (.int .i64 r')) := by
  obtain ⟨h1, h2, h3, h4⟩ := h
  refine ⟨(Below.heap_setCell _ _ _ _ (by simp; omega)).trans h1, (Below.heap_setCell _ _ _ _ (by simp)).trans h2, ?_, h4.setCell (by simp; omega) _⟩
  simp only [World.setCell, Array.getElem?_modify]
  simp [h3]

set_option maxHeartbeats 1000000 in
theorem least_any (w : World) (M : Nat) (vs hs : Value) (tm sz : Int) (N S : Nat) (hMK : MK w M vs hs tm sz N S) (f : Int → Option Value) (g : Int → Option Int) (hN : IMap w N f) (hS : IMap w S (slotsOf g))
    (v : Int) (a : Option Addr) (n cap : Nat) (ns : List Int) (hv : (f v).getD (.slice none 0 0) = .slice a n cap) (hi : Ints w a n ns) (hg : ∀ x y, g x = some y → 0 ≤ y ∧ y < 300) :
    Calls Try.prog 23 #[.pointer (some ⟨M, 0, none⟩), .int .i64 v] w (LeastPost w ns g) := by
  refine (callsIn_wide (n := 0)).1 ?_
  refine callsIn_of_wp_marks Try.func23 rfl trivial ?_
  simp only [Try.ntmps23, List.size_toArray, List.length_cons, List.length_nil, Nat.reduceAdd, Nat.reduceSub, Array.replicate_succ, Array.replicate_zero, List.push_toArray, List.append_toArray, List.nil_append, List.cons_append]
  have HV := Lib.hid hv
  have HG := Lib.hid hg
  have hn := hi.2.1
  have H0 : Hid (LJ w M v 0 (((w.alloc (.cells #[.pointer (some ⟨M, 0, none⟩)] 51)).alloc (.cells #[.int .i64 v] 3)).alloc (.cells #[.int .i64 0] 3))) := by
    have hb : Below w.heap.size w (((w.alloc (.cells #[.pointer (some ⟨M, 0, none⟩)] 51)).alloc (.cells #[.int .i64 v] 3)).alloc (.cells #[.int .i64 0] 3)) :=
      (((Below.refl _ w).alloc (Nat.le_refl _) _).alloc (by simp) _).alloc (by simp; omega) _
    refine ⟨?_, ?_, ?_, hb⟩
    · rw [Below.heap_alloc _ _ _ (by simp; omega), Below.heap_alloc _ _ _ (by simp)]; exact World.alloc_heap_new w _
    · rw [Below.heap_alloc _ _ _ (by simp)]; have := World.alloc_heap_new (w.alloc (.cells #[.pointer (some ⟨M, 0, none⟩)] 51)) (.cells #[.int .i64 v] 3); rwa [World.size_alloc] at this
    · have := World.alloc_heap_new ((w.alloc (.cells #[.pointer (some ⟨M, 0, none⟩)] 51)).alloc (.cells #[.int .i64 v] 3)) (.cells #[.int .i64 0] 3); simpa using this
  have HMK := Lib.hid hMK
  have HN0 := Lib.hid hN
  have HS0 := Lib.hid hS
  have HI0 := Lib.hid hi
  clear hMK hN hS hv hi hg
  gi_wp2
  refine wpIn_wide.2 (wp_scope_straight ((wpIn_wide (n := 0)).1 ?_))
  refine wpIn_seq (wpIn_label ?_)
  show Code.wpIn _ _ _ _ _ _ _
  gi_wp2_with (gi_at_call 32; refine (callsIn_wide.2 (from_any _)).mono ?_; rintro e w' ⟨rfl, rfl⟩)
  refine range_outer (ps := #[11]) (gf := 50) (lb := #[]) rfl (enters_of Try.func50 (by kernel_rfl) rfl) (from_iter 302 (by omega)) (fun _ => rfl)
    (fun s W => Hid (∀ j : Nat, j < s → blk ns g j = true) ∧ Hid (LJ w M v 0 W))
    (fun c W => Hid (c = .ret ∧ ∃ r : Nat, LeastIs ns g r ∧ LJ w M v r W))
    (fun s x a1 W => Hid (a1 = { tmps := #[.pointer (some ⟨M, 0, none⟩), .int .i64 v, .pointer (some ⟨w.heap.size, 0, none⟩), .pointer (some ⟨w.heap.size + 1, 0, none⟩), .pointer (some ⟨w.heap.size + 1 + 1, 0, none⟩),
      .int .i64 s, undef, undef, undef, undef, .func (.func 50) #[] #[], .int .i64 s, undef, undef, undef, undef, undef, undef, undef, undef, undef, undef, undef, undef, undef, undef, undef, undef, undef, undef, undef, undef, undef, undef, undef, undef, undef, undef, undef, undef], defers := [] }))
    (fun s => (Steady.pure _ _).and (LJ.steady (by simp; omega))) (fun c => (Steady.pure _ _).and (Steady.ex fun r => (Steady.pure _ _).and (LJ.steady (by simp; omega)))) (fun _ _ _ => Steady.pure _ _) ?inv ⟨fun j hj => absurd hj (by omega), H0.out⟩ ?assign ?body ?done ?stop
  case inv =>
    rintro s W ⟨h1, _⟩
    by_cases hs : s < 302
    · exact hs
    · have := h1 301 (by omega)
      unfold blk at this
      rw [List.any_eq_true] at this
      obtain ⟨x, _, hx⟩ := this
      have := (HG.out x _ (of_decide_eq_true hx)).2
      omega
  case assign =>
    rintro l s x W rfl ⟨HJ, HL⟩
    gi_wp2
    exact ⟨Keep.refl _, ⟨HJ, HL⟩, trivial⟩
  case body =>
    rintro l s x a1 W hx ⟨HJ, HL⟩ ha
    obtain rfl := ha.out
    clear ha
    subst hx
    obtain ⟨hm, hvb, hres, hB⟩ := HL.out
    have hMK : MK W M vs hs tm sz N S := (hB.block M HMK.out.cells.2.2.2.2.2.2.2).trans HMK.out
    have hN := HN0.out.ext hB
    have hS := HS0.out.ext hB
    have hI := HI0.out.ext hB
    have c0 : W.cell? ⟨w.heap.size, 0, none⟩ = some (.pointer (some ⟨M, 0, none⟩)) := by simp [World.cell?, hm]
    have c1 : W.cell? ⟨w.heap.size + 1, 0, none⟩ = some (.int .i64 v) := by simp [World.cell?, hvb]
    have c2 : W.cell? ⟨w.heap.size + 1 + 1, 0, none⟩ = some (.int .i64 0) := by simp [World.cell?, hres]
    have f2 : W.frozen? ⟨w.heap.size + 1 + 1, 0, none⟩ = false := by simp [World.frozen?, hres]
    obtain ⟨_, _, _, _, c4, c5, _, _⟩ := hMK.cells
    have hlk : ∀ q, (Instr.lookup 52 (.map (some N)) (.int .i64 v) false).run Try.prog (W.drewN q) = .ok (.slice a n cap) (W.drewN q) := fun q => by
      have := IMap.look (w := W.drewN q) (P := Try.prog) hN Try.underlying52 Try.underlying3 (zero_ints _) v
      rwa [HV.out] at this
    have HI := Lib.hid hI
    have HS := Lib.hid hS
    clear hm hvb hres hMK hN hS hI
    have hB' := hB.size
    clear hB
    have hmix : Try.prog.follows .mixedOrders = true := by kernel_rfl
    gi_wp2
    refine round_quiet_lit (by kernel_rfl) (by kernel_rfl) (by kernel_rfl) (by repeat (first | exact noOut_round | refine noOut_then ?_ | refine noOut_block ?_)) ?_
    repeat (go_big_quiet_step (fail))
    refine wpQuiet_nil ?_
    rintro _ ⟨nq, rfl⟩
    have hlk2 : ∀ y q, (Instr.lookup 53 (.map (some S)) (.int .i64 y) true).run Try.prog (W.drewN q) = .ok (.tuple #[((g y).map (Value.int .i64)).getD (.int .i64 0), .bool ((g y).map (Value.int .i64)).isSome]) (W.drewN q) := fun y q =>
      IMap.look_ok (w := W.drewN q) (P := Try.prog) HS.out Try.underlying53 Try.underlying3 (zero_int _) y
    have HK2 := Lib.hid hlk2
    clear hlk2 hlk
    gi_wp2
    gi_loopw [19] (fun i wr => ∃ k q : Nat, i = .int .i64 k ∧ k ≤ n ∧ wr = W.drewN q ∧ Hid (∀ j, j < k → g (ns.getD j 0) ≠ some (x : Int))) (fun i _ => n - (intOf i).toNat)
    case atStart => exact ⟨0, nq, rfl, by omega, rfl, fun j hj => absurd hj (by omega)⟩
    case round =>
      obtain ⟨k, q, rfl, hk, rfl, HR⟩ := hrel
      by_cases hlt : k < n
      · obtain ⟨b, o, rfl, hcell, hw1, hw2⟩ := HI.out.2.2 k hlt
        have HBk := Lib.hid (blk_of ns g k (by rw [HI.out.1]; exact hlt))
        have HN : Hid (g (ns.getD k 0) ≠ some (x : Int) → ∀ j, j < k + 1 → g (ns.getD j 0) ≠ some (x : Int)) := fun h j hj => by
          by_cases e : j = k
          · subst e; exact h
          · exact HR.out j (by omega)
        have hlk := HK2.out (ns.getD k 0)
        generalize ns.getD k 0 = y at *
        rcases hgy : g y with _ | z
        · have HN' := Lib.hid (HN.out (by rw [hgy]; simp))
          simp only [hgy, Option.map_none, Option.getD_none, Option.isSome_none] at hlk
          clear hgy
          gi_wp2
          go_roundw
          case rel => exact ⟨k + 1, q, by go_num, by omega, rfl, HN'⟩
          case measure => simp [intOf]; omega
        · simp only [hgy, Option.map_some, Option.getD_some, Option.isSome_some] at hlk
          by_cases hz : z = (x : Int)
          · subst hz
            have HX : Hid (blk ns g (x : Int) = true) := HBk.out _ hgy
            clear hgy
            gi_wp2
            exact ⟨Keep.drewN _ _, fun j hj => by
              by_cases e : j = x
              · subst e; exact HX.out
              · exact HJ.out j (by omega), HL.out.drewN _⟩
          · have HN' := Lib.hid (HN.out (by rw [hgy]; simpa using hz))
            have hb : (z == (x : Int)) = false := by simpa using hz
            clear hgy hz
            gi_wp2
            go_roundw
            case rel => exact ⟨k + 1, q, by go_num, by omega, rfl, HN'⟩
            case measure => simp [intOf]; omega
      · have HX : Hid (LeastIs ns g x) := by
          refine ⟨?_, HJ.out⟩
          unfold blk
          rw [List.any_eq_false]
          intro y hy hd
          obtain ⟨j, hj, e⟩ := List.getElem_of_mem hy
          have := HR.out j (by rw [HI.out.1] at hj; omega)
          simp only [List.getD, List.getElem?_eq_getElem hj, Option.getD_some, e] at this
          exact this (of_decide_eq_true hd)
        gi_wp2
        exact ⟨(Keep.drewN _ _).trans (Keep.setCell _ _ _), rfl, x, HX.out, (HL.out.drewN q).set⟩
  case done =>
    intro D s W _ h
    exact h.elim
  case stop =>
    rintro D c W hD hx hK
    obtain ⟨rfl, r, hr, hL⟩ := hx.out
    have hL2 : LJ w M v r (W.putObj D (.deferred none)) := (LJ.steady (Nat.le_refl _)).put _ hL (by simp at hD; omega) hK rfl
    have hc : (W.putObj D (.deferred none)).cell? ⟨w.heap.size + 1 + 1, 0, none⟩ = some (.int .i64 r) := by simp [World.cell?, hL2.2.2.1]
    gi_wp2
    refine ⟨by simp, .inl ⟨_, _, rfl, run_takeDeferred hK, ?_⟩⟩
    exact ⟨.int .i64 r, by simp [results, Try.results23, go_sem, hc], r, rfl, hr, hL2.2.2.2⟩
end Go.Proofs.Ytkakanjoeofjcaa
