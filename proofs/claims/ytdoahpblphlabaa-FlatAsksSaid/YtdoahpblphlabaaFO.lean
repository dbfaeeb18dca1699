/-
  Flat: mach.Lost.
-/
import Derived.Test.YtdoahpblphlabaaFN
namespace Go.Proofs.Ytdoahpblphlabaa
set_option linter.unusedSimpArgs false
set_option linter.unusedVariables false
open Go.RowKit

def IntsPost (w : World) (xs : List Int) (e : Ending) (w' : World) : Prop := ∃ a c, e = .returned (.slice a xs.length c) ∧ xs.length ≤ c ∧ Ints w' a xs.length xs ∧ Below w.heap.size w w'
/-- the registers that are not saved, below k -/
def lostTo (m : MachD) (k : Nat) : List Int := ((List.range k).map Int.ofNat).filter fun r => !m.saved.contains r
def lostL (m : MachD) : List Int := if rightB m then lostTo m m.regs.toNat else []
theorem lostTo_succ (m : MachD) (k : Nat) : lostTo m (k + 1) = lostTo m k ++ (if memF m.saved k then [] else [(k : Int)]) := by
  rw [lostTo, lostTo, List.range_succ, List.map_append, List.filter_append]
  congr 1
  rw [List.map_cons, List.map_nil]
  by_cases h : memF m.saved k = true
  · rw [if_pos h]
    have h' : m.saved.contains (k : Int) = true := h
    simp only [List.filter_cons, show Int.ofNat k = (k : Int) from rfl, h']
    rfl
  · have h' : m.saved.contains (k : Int) = false := by rw [memF] at h; exact Bool.eq_false_iff.2 h
    rw [if_neg h]
    simp only [List.filter_cons, show Int.ofNat k = (k : Int) from rfl, h']
    rfl
theorem lostTo_mem (m : MachD) (k : Nat) : ∀ x ∈ lostTo m k, 0 ≤ x ∧ x < k := by
  intro x hx
  rw [lostTo, List.mem_filter, List.mem_map] at hx
  obtain ⟨⟨j, hj, rfl⟩, _⟩ := hx
  rw [List.mem_range] at hj
  exact ⟨by simp, by simp; omega⟩
theorem lostTo_len (m : MachD) (k : Nat) : (lostTo m k).length ≤ k := by
  have := List.length_filter_le (fun r => !m.saved.contains r) ((List.range k).map Int.ofNat)
  rw [lostTo]
  simpa using this
theorem part_bool (cs : Array Value) (o : Nat) (v : Value) (w : World) (h : cs[o]? = some v) : (part 4 cs o).run Try.prog w = .ok v w := by
  have hu : (underlying 4).run Try.prog w = .ok .bool w := run_underlying Try.underlying4 w
  simp [part, isAgg, hu, h]
theorem eqItems_bool (w : World) (f g : Nat → Bool) (xs ys : Array Value) : ∀ (is : List Nat), (∀ i ∈ is, xs[i]? = some (.bool (f i)) ∧ ys[i]? = some (.bool (g i))) → (Op.eqItems 9999 4 1 xs ys is).run Try.prog w = .ok (is.all fun i => f i == g i) w
  | [], _ => by simp [Op.eqItems]
  | i :: is, h => by
    obtain ⟨h1, h2⟩ := h i (by simp)
    have ih := eqItems_bool w f g xs ys is (fun j hj => h j (by simp [hj]))
    simp only [Op.eqItems, Sem.run_bind, Nat.mul_one]
    rw [part_bool _ i _ w h1]
    simp only [Result.andThen_ok]
    rw [part_bool _ i _ w h2]
    simp only [Result.andThen_ok]
    rw [run_equalIn_bool' w 9998 4 (f i) (g i) Try.underlying4]
    simp only [Result.andThen_ok]
    cases hq : (f i == g i) with
    | false => simp [hq]
    | true => simp [hq, ih]
theorem equal_set (w : World) (f g : Nat → Bool) : (Op.equalIn 10000 99 (.agg (setA f)) (.agg (setA g))).run Try.prog w = .ok ((List.range 64).all fun i => f i == g i) w := by
  have hi : ∃ i, Try.prog.info? 4 = some i := Option.isSome_iff_exists.1 (by kernel_rfl)
  obtain ⟨i, hi⟩ := hi
  have h1 : Try.prog.cellsOf 4 = 1 := by kernel_rfl
  rw [run_equalIn_array w 9999 _ _ Try.underlying99 hi, h1]
  exact eqItems_bool w f g _ _ _ (fun i hi => ⟨setA_at f i (List.mem_range.1 hi), setA_at g i (List.mem_range.1 hi)⟩)
theorem eql_set (w : World) (f : Nat → Bool) : (binOp .eql 99 (.agg (setA f)) (.agg (setA fun _ => false))).run Try.prog w = .ok (.bool ((List.range 64).all fun i => f i == false)) w := by
  rw [run_eql_struct, equal_set]
  rfl
theorem slice_set (w : World) (b : Nat) (r : Int) (h0 : 0 ≤ r) (h1 : r ≤ 64) : (Instr.sliceAt 99 (.pointer (some ⟨b, 0, none⟩)) none (some (.int .i64 r)) none).run Try.prog w = .ok (.slice (some ⟨b, 0, none⟩) r.toNat 64) w := by
  have e1 : Try.prog.arrayLen 99 = 64 := by kernel_rfl
  have e2 : Try.prog.elem 99 = 4 := by kernel_rfl
  have hi : ∃ i, Try.prog.info? 4 = some i := Option.isSome_iff_exists.1 (by kernel_rfl)
  obtain ⟨i, hi⟩ := hi
  rw [run_sliceAt_array_h w 99 ⟨b, 0, none⟩ (by rw [e1, e2]; exact Try.underlying99) .i64 r h0 (by rw [e1]; exact h1), e1, e2, run_sizeOf w hi]
  simp [slicedAt, addr_add]
def noneF (l : List Int) : Bool := (List.range 64).all fun i => memF l i == false
theorem noneF_nil {l : List Int} (regs : Int) (h : ofB regs l = true) (hr : regs ≤ 64) (hn : noneF l = true) : ∀ k, memF l k = false := by
  intro k
  cases hq : memF l k with
  | false => rfl
  | true =>
    have hm : (k : Int) ∈ l := by rw [memF, List.contains_iff_mem] at hq; exact hq
    obtain ⟨j, hj, e⟩ := List.mem_iff_getElem.1 hm
    have h2 := (ofB_iff regs l).1 h j hj
    rw [List.getD_eq_getElem?_getD, List.getElem?_eq_getElem hj, Option.getD_some, e] at h2
    have h3 : k < 64 := by omega
    rw [noneF, List.all_eq_true] at hn
    have := hn k (List.mem_range.2 h3)
    rw [hq] at this
    cases this
theorem ofB_tail {regs x : Int} {l : List Int} (h : ofB regs (x :: l) = true) : ofB regs l = true := by
  rw [ofB_iff] at h ⊢
  intro k hk
  have := h (k + 1) (by simp; omega)
  simp only [List.getD_cons_succ, List.take_succ_cons, List.mem_cons, not_or] at this
  exact ⟨this.1, this.2.1, this.2.2.2⟩
theorem ints_post {w : World} {base : Nat} {e : TypeId} {v : Value} {xs : List Int} (h : w.ownsRow base e 1 v xs.length (xs.map (Value.int .i64))) (hx : ∀ x ∈ xs, I64 x) (hn : xs.length ≤ 17592186044416) : ∃ a c, v = .slice a xs.length c ∧ xs.length ≤ c ∧ Ints w a xs.length xs := by
  rcases id h.2 with ⟨rfl, h0⟩ | ⟨g, cap, cur, rfl, _, _, hnc, _⟩
  · have : xs = [] := List.eq_nil_of_length_eq_zero h0
    subst this
    exact ⟨none, 0, rfl, Nat.le_refl _, rfl, by simp, fun k hk => absurd hk (by simp)⟩
  · exact ⟨_, _, rfl, hnc, intsOwn h hx hn⟩
theorem lost_i64 (m : MachD) (k : Nat) (hk : k ≤ 64) : ∀ x ∈ lostTo m k, I64 x := fun x hx => by
  have := lostTo_mem m k x hx
  exact ⟨by omega, by omega⟩
set_option maxRecDepth 100000 in
set_option maxHeartbeats 4000000 in
theorem lost_any (m : MachD) (a1 a2 : Option Addr) (n1 c1 n2 c2 : Nat) (w : World) (h : MachOK w m a1 n1 c1 a2 n2 c2) :
    Calls Try.prog 76 #[machV m a1 n1 c1 a2 n2 c2] w (IntsPost w (lostL m)) := by
  have H := Lib.hid h
  have HL2 := Lib.hid h.2.1.1
  obtain ⟨h7, h8⟩ := h.2.2.2.2.2.2.1
  clear h
  cases hr : rightB m with
  | false =>
    have HE : Hid (lostL m = []) := by rw [Hid, lostL, hr]; rfl
    go_enter Try.func76, Try.ntmps76
    go_wp2_with (go_at_call 36; refine (right_any m a1 a2 n1 c1 n2 c2 _ (H.out.ext (ext_alloc _ _))).mono ?_; rw [hr]; rintro e w1 ⟨rfl, hb⟩; have HB := Lib.hid hb; clear hb)
    go_ret
    rw [IntsPost, HE.out]
    exact ⟨none, 0, rfl, Nat.le_refl _, ⟨rfl, by simp, fun k hk => absurd hk (by simp)⟩, ext_trans (ext_alloc _ _) HB.out⟩
  | true =>
    have HE : Hid (lostL m = lostTo m m.regs.toNat) := by rw [Hid, lostL, hr]; rfl
    have hr' := hr
    simp only [rightB, Bool.and_eq_true, decide_eq_true_eq] at hr'
    have HO : Hid (ofB m.regs m.saved = true) := ofB_tail hr'.2
    have hreg : 1 ≤ m.regs ∧ m.regs ≤ 64 := hr'.1.1.1.1.1
    clear hr'
    obtain ⟨g1, g2⟩ := hreg
    have hM : ∀ w', Below (w.alloc (machO m a1 n1 c1 a2 n2 c2)).heap.size (w.alloc (machO m a1 n1 c1 a2 n2 c2)) w' → w'.heap[w.heap.size]? = some (machO m a1 n1 c1 a2 n2 c2) := fun w' hb => block_ext hb (heap_alloc_new w _)
    have hq : ∀ w, (binOp .eql 99 (.agg (setA (memF m.saved))) (.agg #[.bool false, .bool false, .bool false, .bool false, .bool false, .bool false, .bool false, .bool false, .bool false, .bool false, .bool false, .bool false, .bool false, .bool false, .bool false, .bool false, .bool false, .bool false, .bool false, .bool false, .bool false, .bool false, .bool false, .bool false, .bool false, .bool false, .bool false, .bool false, .bool false, .bool false, .bool false, .bool false, .bool false, .bool false, .bool false, .bool false, .bool false, .bool false, .bool false, .bool false, .bool false, .bool false, .bool false, .bool false, .bool false, .bool false, .bool false, .bool false, .bool false, .bool false, .bool false, .bool false, .bool false, .bool false, .bool false, .bool false, .bool false, .bool false, .bool false, .bool false, .bool false, .bool false, .bool false, .bool false])).run Try.prog w = .ok (.bool (noneF m.saved)) w := fun w => eql_set w (memF m.saved)
    have hsl := fun w b => slice_set w b m.regs (by omega) g2
    obtain ⟨bn, hbn⟩ : ∃ bn, noneF m.saved = bn := ⟨_, rfl⟩
    rw [hbn] at hq
    have HN := Lib.hid hbn
    clear hbn
    cases bn
    all_goals
     go_enter Try.func76, Try.ntmps76
     go_wp2_with (first
      | (go_at_call 36
         refine (right_any m a1 a2 n1 c1 n2 c2 _ (H.out.ext (ext_alloc _ _))).mono ?_
         rw [hr]
         rintro e w1 ⟨rfl, hb⟩
         have HB1 := Lib.hid hb
         have x0 : w1.cell? ⟨w.heap.size, 0, none⟩ = some (.int .i64 m.regs) := by rw [cell_of_row _ _ _ _ _ _ (hM _ hb)]; rfl
         have x3 : w1.cell? ⟨w.heap.size, 3, none⟩ = some (.slice a2 n2 c2) := by rw [cell_of_row _ _ _ _ _ _ (hM _ hb)]; rfl
         clear hb)
      | (go_at_call 59
         refine (of_any5 m.regs (by omega) a2 n2 c2 m.saved _ ((H.out.ext (ext_trans (ext_alloc _ _) HB1.out)).2.1)).mono ?_
         rintro e w2 ⟨f, rfl, hf, hb⟩
         have hf := hf HO.out
         subst hf
         rw [HO.out]
         have HB2 := Lib.hid (ext_trans HB1.out hb)
         clear hb)
      | (refine wpList_store_rowB rfl 99 _ _ rfl w2.heap.size (setA (memF m.saved)) rfl rfl 99 _ (heap_alloc_new w2 _) (by rw [setA_size]; exact size_set) (by rw [setA_size]; rfl) (setA_all _) _ _ (ext_trans HB2.out (ext_alloc _ _)) HB2.out.size ?_
         intro W0 hb0 hS
         have HS := Lib.hid hS
         have HB0 := Lib.hid hb0
         have y0 : W0.cell? ⟨w.heap.size, 0, none⟩ = some (.int .i64 m.regs) := by rw [cell_of_row _ _ _ _ _ _ (hM _ hb0)]; rfl
         clear hb0 hS)
      | (refine wpList_load_row rfl 99 _ rfl w2.heap.size rfl 99 _ (0, 0) _ HS.out Try.underlying99 rfl (by rw [setA_size]; exact size_set) ?_))
    · have c0 : ∀ (k : Nat), (k : Int) < m.regs → W0.cell? ⟨w2.heap.size, k, none⟩ = some (.bool (memF m.saved k)) := fun k hk => by rw [cell_of_row _ _ _ _ _ _ HS.out, setA_at _ _ (by omega)]
      have C0 := Lib.hid c0
      have hmx : max m.regs 0 = m.regs := by omega
      clear c0 hsl hq hM
      simp only [hmx]
      clear hmx
      go_loopw [2, 6, 7, 37] (fun v _ _ i wr => ∃ (k : Nat), (k : Int) ≤ m.regs ∧ i = .int .i64 k ∧ Hid (wr.ownsRow W0.heap.size 3 1 v (lostTo m k).length ((lostTo m k).map (Value.int .i64))) ∧ Hid (Below W0.heap.size W0 wr)) (fun _ _ _ i _ => m.regs.toNat - (intOf i).toNat)
      case atStart => exact ⟨0, by omega, rfl, World.ownsRow_nil _ _ _ _, Below.refl _ _⟩
      case round =>
        obtain ⟨k, hk, rfl, HR, HB⟩ := hrel
        have hll := lostTo_len m k
        by_cases hlt : (k : Int) < m.regs
        · have hc : wr.cell? ⟨w2.heap.size, k, none⟩ = some (.bool (memF m.saved k)) := cell_ext HB.out (C0.out k hlt)
          have hlt' : k < m.regs.toNat := by omega
          cases hq : memF m.saved k with
          | true =>
            have HS2 : Hid (lostTo m (k + 1) = lostTo m k) := by rw [Hid, lostTo_succ, hq]; simp
            rw [hq] at hc
            go_wp2
            go_roundw
            case rel => exact ⟨k + 1, by omega, by go_num, by rw [Hid, HS2.out]; exact HR.out, HB⟩
            case measure => simp [intOf]; omega
          | false =>
            have HS2 : Hid (lostTo m (k + 1) = lostTo m k ++ [(k : Int)]) := by rw [Hid, lostTo_succ, hq]; simp
            rw [hq] at hc
            go_wp2_with (first
              | (at_builtin
                 refine wpList_append1 rfl wr (.tmp 44) (.tmp 46) 22 3 rfl W0.heap.size _ 1 8 Try.underlying22 info_int rfl (by omega) u2 _ _ [.int .i64 (k : Int)] rfl HR.out wr.heap.size rfl rfl rfl (by simp [Value.oneCell']) (by simp only [maxLen]; omega) (by omega) HB.out.size ?_
                 intro g cap w3 hown3 hg3 hat3
                 have HR3 : Hid (w3.ownsRow W0.heap.size 3 1 (.slice (some ⟨g, 0, none⟩) ((lostTo m k).length + 1) cap) ((lostTo m k).length + 1) ((lostTo m (k + 1)).map (Value.int .i64))) := by rw [Hid, HS2.out, List.map_append]; exact hown3
                 have HB3 : Hid (Below W0.heap.size W0 w3) := HB.out.grown hg3 HB.out.size (fun j e => (HR.out.lt j e).1)
                 clear hown3 hg3 hat3))
            go_roundw
            case rel => exact ⟨k + 1, by omega, by go_num, by rw [Hid, show (lostTo m (k + 1)).length = (lostTo m k).length + 1 by rw [HS2.out]; simp]; exact HR3.out, HB3⟩
            case measure => simp [intOf]; omega
        · obtain rfl : k = m.regs.toNat := by omega
          have hlt' : ¬ m.regs.toNat < m.regs.toNat := by omega
          go_wp2
          go_ret
          rw [IntsPost, HE.out]
          obtain ⟨a, c, e, h1, h2⟩ := ints_post HR.out (lost_i64 m _ (by omega)) (by omega)
          exact ⟨a, c, congrArg _ e, h1, h2, ext_trans (ext_trans (ext_alloc _ _) HB0.out) HB.out⟩
    · have HF := Lib.hid (noneF_nil m.regs HO.out g2 HN.out)
      clear hsl hq hM
      go_loopw [2, 5, 24] (fun v _ i wr => ∃ (k : Nat), (k : Int) ≤ m.regs ∧ i = .int .i64 k ∧ Hid (wr.ownsRow W0.heap.size 3 1 v (lostTo m k).length ((lostTo m k).map (Value.int .i64))) ∧ Hid (Below W0.heap.size W0 wr)) (fun _ _ i _ => m.regs.toNat - (intOf i).toNat)
      case atStart => exact ⟨0, by omega, rfl, World.ownsRow_nil _ _ _ _, Below.refl _ _⟩
      case round =>
        obtain ⟨k, hk, rfl, HR, HB⟩ := hrel
        have hll := lostTo_len m k
        by_cases hlt : (k : Int) < m.regs
        · have HS2 : Hid (lostTo m (k + 1) = lostTo m k ++ [(k : Int)]) := by rw [Hid, lostTo_succ, HF.out k]; simp
          go_wp2_with (first
            | (at_builtin
               refine wpList_append1 rfl wr (.tmp 27) (.tmp 29) 22 3 rfl W0.heap.size _ 1 8 Try.underlying22 info_int rfl (by omega) u2 _ _ [.int .i64 (k : Int)] rfl HR.out wr.heap.size rfl rfl rfl (by simp [Value.oneCell']) (by simp only [maxLen]; omega) (by omega) HB.out.size ?_
               intro g cap w3 hown3 hg3 hat3
               have HR3 : Hid (w3.ownsRow W0.heap.size 3 1 (.slice (some ⟨g, 0, none⟩) ((lostTo m k).length + 1) cap) ((lostTo m k).length + 1) ((lostTo m (k + 1)).map (Value.int .i64))) := by rw [Hid, HS2.out, List.map_append]; exact hown3
               have HB3 : Hid (Below W0.heap.size W0 w3) := HB.out.grown hg3 HB.out.size (fun j e => (HR.out.lt j e).1)
               clear hown3 hg3 hat3))
          go_roundw
          case rel => exact ⟨k + 1, by omega, by go_num, by rw [Hid, show (lostTo m (k + 1)).length = (lostTo m k).length + 1 by rw [HS2.out]; simp]; exact HR3.out, HB3⟩
          case measure => simp [intOf]; omega
        · obtain rfl : k = m.regs.toNat := by omega
          go_wp2
          go_ret
          rw [IntsPost, HE.out]
          obtain ⟨a, c, e, h1, h2⟩ := ints_post HR.out (lost_i64 m _ (by omega)) (by omega)
          exact ⟨a, c, congrArg _ e, h1, h2, ext_trans (ext_trans (ext_alloc _ _) HB0.out) HB.out⟩
end Go.Proofs.Ytdoahpblphlabaa
