/-
  Flat: mach.Lost.
-/
import Derived.Test.YtfpbfdkjcmlimaaGreatFN
import Derived.Test.YtfpbfdkjcmlimaaGreatIdx
namespace Go.Proofs.YtfpbfdkjcmlimaaGreat
set_option linter.unusedSimpArgs false
set_option linter.unusedVariables false
set_option linter.unusedSectionVars false
set_option maxRecDepth 100000
set_option maxHeartbeats 40000000
section
open Go.RowKit
def IntsPost (w : World) (xs : List Int) (e : Ending) (w' : World) : Prop := ∃ a c, e = .returned (.slice a xs.length c) ∧ xs.length ≤ c ∧ Ints w' a xs.length xs ∧ Below w.heap.size w w'
def lostTo (m : MachD) (k : Nat) : List Int := ((List.range k).map Int.ofNat).filter fun r => !m.saved.contains r
def lostL (m : MachD) : List Int := if rightB m then lostTo m m.regs.toNat else []
theorem lostTo_succ (m : MachD) (k : Nat) : lostTo m (k + 1) = lostTo m k ++ (if memF m.saved k then [] else [(k : Int)]) := by
  rw [lostTo, lostTo, List.range_succ, List.map_append, List.filter_append]
  congr 1
  rw [List.map_cons, List.map_nil]
  by_cases h : memF m.saved k = true
  · rw [if_pos h]
    have h' : m.saved.contains (k : Int) = true := h
    simp only [List.filter_cons, show Int.ofNat k = (k : Int) from rfl, h']
    rfl
  · have h' : m.saved.contains (k : Int) = false := by rw [memF] at h; exact Bool.eq_false_iff.2 h
    rw [if_neg h]
    simp only [List.filter_cons, show Int.ofNat k = (k : Int) from rfl, h']
    rfl
theorem lostTo_mem (m : MachD) (k : Nat) : ∀ x ∈ lostTo m k, 0 ≤ x ∧ x < k := by
  intro x hx
  rw [lostTo, List.mem_filter, List.mem_map] at hx
  obtain ⟨⟨j, hj, rfl⟩, _⟩ := hx
  rw [List.mem_range] at hj
  exact ⟨by simp, by simp; omega⟩
theorem lostTo_len (m : MachD) (k : Nat) : (lostTo m k).length ≤ k := by
  have := List.length_filter_le (fun r => !m.saved.contains r) ((List.range k).map Int.ofNat)
  rw [lostTo]
  simpa using this
theorem part_bool (cs : Array Value) (o : Nat) (v : Value) (w : World) (h : cs[o]? = some v) : (part 4 cs o).run Tryz.prog w = .ok v w := by
  have hu : (underlying 4).run Tryz.prog w = .ok .bool w := run_underlying Tryz.underlying4 w
  simp [part, isAgg, hu, h]
theorem eqItems_bool (w : World) (f g : Nat → Bool) (xs ys : Array Value) : ∀ (is : List Nat), (∀ i ∈ is, xs[i]? = some (.bool (f i)) ∧ ys[i]? = some (.bool (g i))) → (Op.eqItems 9999 4 1 xs ys is).run Tryz.prog w = .ok (is.all fun i => f i == g i) w
  | [], _ => by simp [Op.eqItems]
  | i :: is, h => by
    obtain ⟨h1, h2⟩ := h i (by simp)
    have ih := eqItems_bool w f g xs ys is (fun j hj => h j (by simp [hj]))
    simp only [Op.eqItems, Sem.run_bind, Nat.mul_one]
    rw [part_bool _ i _ w h1]
    simp only [Result.andThen_ok]
    rw [part_bool _ i _ w h2]
    simp only [Result.andThen_ok]
    rw [run_equalIn_bool' w 9998 4 (f i) (g i) Tryz.underlying4]
    simp only [Result.andThen_ok]
    cases hq : (f i == g i) with
    | false => simp [hq]
    | true => simp [hq, ih]
theorem equal_set (w : World) (f g : Nat → Bool) : (Op.equalIn 10000 103 (.agg (setA f)) (.agg (setA g))).run Tryz.prog w = .ok ((List.range 64).all fun i => f i == g i) w := by
  have hi : ∃ i, Tryz.prog.info? 4 = some i := Option.isSome_iff_exists.1 (by kernel_rfl)
  obtain ⟨i, hi⟩ := hi
  have h1 : Tryz.prog.cellsOf 4 = 1 := by kernel_rfl
  rw [run_equalIn_array w 9999 _ _ Tryz.underlying103 hi, h1]
  exact eqItems_bool w f g _ _ _ (fun i hi => ⟨setA_at f i (List.mem_range.1 hi), setA_at g i (List.mem_range.1 hi)⟩)
theorem eql_set (w : World) (f : Nat → Bool) : (binOp .eql 103 (.agg (setA f)) (.agg (setA fun _ => false))).run Tryz.prog w = .ok (.bool ((List.range 64).all fun i => f i == false)) w := by
  rw [run_eql_struct, equal_set]
  rfl
theorem slice_set (w : World) (b : Nat) (r : Int) (h0 : 0 ≤ r) (h1 : r ≤ 64) : (Instr.sliceAt 103 (.pointer (some ⟨b, 0, none⟩)) none (some (.int .i64 r)) none).run Tryz.prog w = .ok (.slice (some ⟨b, 0, none⟩) r.toNat 64) w := by
  have e1 : Tryz.prog.arrayLen 103 = 64 := by kernel_rfl
  have e2 : Tryz.prog.elem 103 = 4 := by kernel_rfl
  have hi : ∃ i, Tryz.prog.info? 4 = some i := Option.isSome_iff_exists.1 (by kernel_rfl)
  obtain ⟨i, hi⟩ := hi
  rw [run_sliceAt_array_h w 103 ⟨b, 0, none⟩ (by rw [e1, e2]; exact Tryz.underlying103) .i64 r h0 (by rw [e1]; exact h1), e1, e2, run_sizeOf w hi]
  simp [slicedAt, addr_add]
def noneF (l : List Int) : Bool := (List.range 64).all fun i => memF l i == false
theorem noneF_nil {l : List Int} (regs : Int) (h : ofB regs l = true) (hr : regs ≤ 64) (hn : noneF l = true) : ∀ k, memF l k = false := by
  intro k
  cases hq : memF l k with
  | false => rfl
  | true =>
    have hm : (k : Int) ∈ l := by rw [memF, List.contains_iff_mem] at hq; exact hq
    obtain ⟨j, hj, e⟩ := List.mem_iff_getElem.1 hm
    have h2 := (ofB_iff regs l).1 h j hj
    rw [List.getD_eq_getElem?_getD, List.getElem?_eq_getElem hj, Option.getD_some, e] at h2
    have h3 : k < 64 := by omega
    rw [noneF, List.all_eq_true] at hn
    have := hn k (List.mem_range.2 h3)
    rw [hq] at this
    cases this
theorem ofB_tail {regs x : Int} {l : List Int} (h : ofB regs (x :: l) = true) : ofB regs l = true := by
  rw [ofB_iff] at h ⊢
  intro k hk
  have := h (k + 1) (by simp; omega)
  simp only [List.getD_cons_succ, List.take_succ_cons, List.mem_cons, not_or] at this
  exact ⟨this.1, this.2.1, this.2.2.2⟩
theorem ints_post {w : World} {base : Nat} {e : TypeId} {v : Value} {xs : List Int} (h : w.ownsRow base e 1 v xs.length (xs.map (Value.int .i64))) (hx : ∀ x ∈ xs, I64 x) (hn : xs.length ≤ 17592186044416) : ∃ a c, v = .slice a xs.length c ∧ xs.length ≤ c ∧ Ints w a xs.length xs := by
  rcases id h.2 with ⟨rfl, h0⟩ | ⟨g, cap, cur, rfl, _, _, hnc, _⟩
  · have : xs = [] := List.eq_nil_of_length_eq_zero h0
    subst this
    exact ⟨none, 0, rfl, Nat.le_refl _, rfl, by simp, fun k hk => absurd hk (by simp)⟩
  · exact ⟨_, _, rfl, hnc, intsOwn h hx hn⟩
theorem lost_i64 (m : MachD) (k : Nat) (hk : k ≤ 64) : ∀ x ∈ lostTo m k, I64 x := fun x hx => by
  have := lostTo_mem m k x hx
  exact ⟨by omega, by omega⟩
theorem lost_any (m : MachD) (a1 a2 : Option Addr) (n1 c1 n2 c2 : Nat) (w : World) (h : MachOK w m a1 n1 c1 a2 n2 c2) :
    Calls Tryz.prog 55 #[machV m a1 n1 c1 a2 n2 c2] w (IntsPost w (lostL m)) := by
  have H := Lib.hid h
  have HL2 := Lib.hid h.2.1.1
  obtain ⟨h7, h8⟩ := h.2.2.2.2.2.2.1
  clear h
  cases hr : rightB m with
  | false =>
    have HE : Hid (lostL m = []) := by rw [Hid, lostL, hr]; rfl
    go_enter Tryz.func55, Tryz.ntmps55
    go_wp2_with (go_at_call 25; refine (right_any m a1 a2 n1 c1 n2 c2 _ (H.out.ext (ext_alloc _ _))).mono ?_; rw [hr]; rintro e w1 ⟨rfl, hb⟩; have HB := Lib.hid hb; clear hb)
    go_ret
    rw [IntsPost, HE.out]
    exact ⟨none, 0, rfl, Nat.le_refl _, ⟨rfl, by simp, fun k hk => absurd hk (by simp)⟩, ext_trans (ext_alloc _ _) HB.out⟩
  | true =>
    have HE : Hid (lostL m = lostTo m m.regs.toNat) := by rw [Hid, lostL, hr]; rfl
    have hr' := hr
    simp only [rightB, Bool.and_eq_true, decide_eq_true_eq] at hr'
    have HO : Hid (ofB m.regs m.saved = true) := ofB_tail hr'.2
    have hreg : 1 ≤ m.regs ∧ m.regs ≤ 64 := hr'.1.1.1.1.1
    clear hr'
    obtain ⟨g1, g2⟩ := hreg
    have hM : ∀ w', Below (w.alloc (machO m a1 n1 c1 a2 n2 c2)).heap.size (w.alloc (machO m a1 n1 c1 a2 n2 c2)) w' → w'.heap[w.heap.size]? = some (machO m a1 n1 c1 a2 n2 c2) := fun w' hb => block_ext hb (heap_alloc_new w _)
    have hq : ∀ w, (binOp .eql 103 (.agg (setA (memF m.saved))) (.agg #[.bool false, .bool false, .bool false, .bool false, .bool false, .bool false, .bool false, .bool false, .bool false, .bool false, .bool false, .bool false, .bool false, .bool false, .bool false, .bool false, .bool false, .bool false, .bool false, .bool false, .bool false, .bool false, .bool false, .bool false, .bool false, .bool false, .bool false, .bool false, .bool false, .bool false, .bool false, .bool false, .bool false, .bool false, .bool false, .bool false, .bool false, .bool false, .bool false, .bool false, .bool false, .bool false, .bool false, .bool false, .bool false, .bool false, .bool false, .bool false, .bool false, .bool false, .bool false, .bool false, .bool false, .bool false, .bool false, .bool false, .bool false, .bool false, .bool false, .bool false, .bool false, .bool false, .bool false, .bool false])).run Tryz.prog w = .ok (.bool (noneF m.saved)) w := fun w => eql_set w (memF m.saved)
    have hsl := fun w b => slice_set w b m.regs (by omega) g2
    obtain ⟨bn, hbn⟩ : ∃ bn, noneF m.saved = bn := ⟨_, rfl⟩
    rw [hbn] at hq
    have HN := Lib.hid hbn
    clear hbn
    cases bn
    all_goals
     go_enter Tryz.func55, Tryz.ntmps55
     go_wp2_with (first
      | (go_at_call 25
         refine (right_any m a1 a2 n1 c1 n2 c2 _ (H.out.ext (ext_alloc _ _))).mono ?_
         rw [hr]
         rintro e w1 ⟨rfl, hb⟩
         have HB1 := Lib.hid hb
         have x0 : w1.cell? ⟨w.heap.size, 0, none⟩ = some (.int .i64 m.regs) := by rw [cell_of_row _ _ _ _ _ _ (hM _ hb)]; rfl
         have x3 : w1.cell? ⟨w.heap.size, 3, none⟩ = some (.slice a2 n2 c2) := by rw [cell_of_row _ _ _ _ _ _ (hM _ hb)]; rfl
         clear hb)
      | (go_at_call 46
         refine (of_any5 m.regs (by omega) a2 n2 c2 m.saved _ ((H.out.ext (ext_trans (ext_alloc _ _) HB1.out)).2.1)).mono ?_
         rintro e w2 ⟨f, rfl, hf, hb⟩
         have hf := hf HO.out
         subst hf
         rw [HO.out]
         have HB2 := Lib.hid (ext_trans HB1.out hb)
         clear hb)
      | (refine wpList_store_rowB rfl 103 _ _ rfl w2.heap.size (setA (memF m.saved)) rfl rfl 103 _ (heap_alloc_new w2 _) (by rw [setA_size]; exact size_set) (by rw [setA_size]; rfl) (setA_all _) _ _ (ext_trans HB2.out (ext_alloc _ _)) HB2.out.size ?_
         intro W0 hb0 hS
         have HS := Lib.hid hS
         have HB0 := Lib.hid hb0
         have y0 : W0.cell? ⟨w.heap.size, 0, none⟩ = some (.int .i64 m.regs) := by rw [cell_of_row _ _ _ _ _ _ (hM _ hb0)]; rfl
         clear hb0 hS)
      | (refine wpList_load_row rfl 103 _ rfl w2.heap.size rfl 103 _ (0, 0) _ HS.out Tryz.underlying103 rfl (by rw [setA_size]; exact size_set) ?_))
    · have c0 : ∀ (k : Nat), (k : Int) < m.regs → W0.cell? ⟨w2.heap.size, k, none⟩ = some (.bool (memF m.saved k)) := fun k hk => by rw [cell_of_row _ _ _ _ _ _ HS.out, setA_at _ _ (by omega)]
      have C0 := Lib.hid c0
      have hmx : max m.regs 0 = m.regs := by omega
      clear c0 hsl hq hM
      simp only [hmx]
      clear hmx
      go_loopw [2, 6, 7, 37] (fun v _ _ i wr => ∃ (k : Nat), (k : Int) ≤ m.regs ∧ i = .int .i64 k ∧ Hid (wr.ownsRow W0.heap.size 3 1 v (lostTo m k).length ((lostTo m k).map (Value.int .i64))) ∧ Hid (Below W0.heap.size W0 wr)) (fun _ _ _ i _ => m.regs.toNat - (intOf i).toNat)
      case atStart => exact ⟨0, by omega, rfl, World.ownsRow_nil _ _ _ _, Below.refl _ _⟩
      case round =>
        obtain ⟨k, hk, rfl, HR, HB⟩ := hrel
        have hll := lostTo_len m k
        by_cases hlt : (k : Int) < m.regs
        · have hc : wr.cell? ⟨w2.heap.size, k, none⟩ = some (.bool (memF m.saved k)) := cell_ext HB.out (C0.out k hlt)
          have hlt' : k < m.regs.toNat := by omega
          cases hq : memF m.saved k with
          | true =>
            have HS2 : Hid (lostTo m (k + 1) = lostTo m k) := by rw [Hid, lostTo_succ, hq]; simp
            rw [hq] at hc
            go_wp2
            go_roundw
            case rel => exact ⟨k + 1, by omega, by go_num, by rw [Hid, HS2.out]; exact HR.out, HB⟩
            case measure => simp [intOf]; omega
          | false =>
            have HS2 : Hid (lostTo m (k + 1) = lostTo m k ++ [(k : Int)]) := by rw [Hid, lostTo_succ, hq]; simp
            rw [hq] at hc
            go_wp2_with (first
              | (at_builtin
                 refine wpList_append1 rfl wr (.tmp 44) (.tmp 46) 22 3 rfl W0.heap.size _ 1 8 Tryz.underlying22 info_int rfl (by omega) u2 _ _ [.int .i64 (k : Int)] rfl HR.out wr.heap.size rfl rfl rfl (by simp [Value.oneCell']) (by simp only [maxLen]; omega) (by omega) HB.out.size ?_
                 intro g cap w3 hown3 hg3 hat3
                 have HR3 : Hid (w3.ownsRow W0.heap.size 3 1 (.slice (some ⟨g, 0, none⟩) ((lostTo m k).length + 1) cap) ((lostTo m k).length + 1) ((lostTo m (k + 1)).map (Value.int .i64))) := by rw [Hid, HS2.out, List.map_append]; exact hown3
                 have HB3 : Hid (Below W0.heap.size W0 w3) := HB.out.grown hg3 HB.out.size (fun j e => (HR.out.lt j e).1)
                 clear hown3 hg3 hat3))
            go_roundw
            case rel => exact ⟨k + 1, by omega, by go_num, by rw [Hid, show (lostTo m (k + 1)).length = (lostTo m k).length + 1 by rw [HS2.out]; simp]; exact HR3.out, HB3⟩
            case measure => simp [intOf]; omega
        · obtain rfl : k = m.regs.toNat := by omega
          have hlt' : ¬ m.regs.toNat < m.regs.toNat := by omega
          go_wp2
          go_ret
          rw [IntsPost, HE.out]
          obtain ⟨a, c, e, h1, h2⟩ := ints_post HR.out (lost_i64 m _ (by omega)) (by omega)
          exact ⟨a, c, congrArg _ e, h1, h2, ext_trans (ext_trans (ext_alloc _ _) HB0.out) HB.out⟩
    · have HF := Lib.hid (noneF_nil m.regs HO.out g2 HN.out)
      clear hsl hq hM
      go_loopw [2, 5, 24] (fun v _ i wr => ∃ (k : Nat), (k : Int) ≤ m.regs ∧ i = .int .i64 k ∧ Hid (wr.ownsRow W0.heap.size 3 1 v (lostTo m k).length ((lostTo m k).map (Value.int .i64))) ∧ Hid (Below W0.heap.size W0 wr)) (fun _ _ i _ => m.regs.toNat - (intOf i).toNat)
      case atStart => exact ⟨0, by omega, rfl, World.ownsRow_nil _ _ _ _, Below.refl _ _⟩
      case round =>
        obtain ⟨k, hk, rfl, HR, HB⟩ := hrel
        have hll := lostTo_len m k
        by_cases hlt : (k : Int) < m.regs
        · have HS2 : Hid (lostTo m (k + 1) = lostTo m k ++ [(k : Int)]) := by rw [Hid, lostTo_succ, HF.out k]; simp
          go_wp2_with (first
            | (at_builtin
               refine wpList_append1 rfl wr (.tmp 27) (.tmp 29) 22 3 rfl W0.heap.size _ 1 8 Tryz.underlying22 info_int rfl (by omega) u2 _ _ [.int .i64 (k : Int)] rfl HR.out wr.heap.size rfl rfl rfl (by simp [Value.oneCell']) (by simp only [maxLen]; omega) (by omega) HB.out.size ?_
               intro g cap w3 hown3 hg3 hat3
               have HR3 : Hid (w3.ownsRow W0.heap.size 3 1 (.slice (some ⟨g, 0, none⟩) ((lostTo m k).length + 1) cap) ((lostTo m k).length + 1) ((lostTo m (k + 1)).map (Value.int .i64))) := by rw [Hid, HS2.out, List.map_append]; exact hown3
               have HB3 : Hid (Below W0.heap.size W0 w3) := HB.out.grown hg3 HB.out.size (fun j e => (HR.out.lt j e).1)
               clear hown3 hg3 hat3))
          go_roundw
          case rel => exact ⟨k + 1, by omega, by go_num, by rw [Hid, show (lostTo m (k + 1)).length = (lostTo m k).length + 1 by rw [HS2.out]; simp]; exact HR3.out, HB3⟩
          case measure => simp [intOf]; omega
        · obtain rfl : k = m.regs.toNat := by omega
          go_wp2
          go_ret
          rw [IntsPost, HE.out]
          obtain ⟨a, c, e, h1, h2⟩ := ints_post HR.out (lost_i64 m _ (by omega)) (by omega)
          exact ⟨a, c, congrArg _ e, h1, h2, ext_trans (ext_trans (ext_alloc _ _) HB0.out) HB.out⟩
end

section
open Go.RowKit
theorem fields_loc : (Tryz.prog.fieldsOf 34).toList.map (fun f => (f.name, f.type, f.offset)) = [("Slot", 4, 0), ("N", 3, 1)] := by kernel_rfl
theorem under_loc : Tryz.prog.underlying 34 = some (.struct (Tryz.prog.fieldsOf 34)) := by kernel_rfl
theorem stood_loc : Tryz.prog.stoodInHeld 34 = false := by kernel_rfl
theorem under_fact : Tryz.prog.underlying 36 = some (.struct (Tryz.prog.fieldsOf 36)) := by kernel_rfl
theorem stood_fact : Tryz.prog.stoodInHeld 36 = false := by kernel_rfl
theorem fields_fact : (Tryz.prog.fieldsOf 36).toList.map (fun f => (f.name, f.type, f.offset)) = [("Var", 3, 0), ("At", 34, 1)] := by kernel_rfl
theorem eqFields2 (w : World) (d : Nat) (xs ys : Array Value) (fs : List Field) (n0 n1 : String) (t0 t1 : TypeId) (o0 o1 : Nat) (hf : fs.map (fun f => (f.name, f.type, f.offset)) = [(n0, t0, o0), (n1, t1, o1)]) (h0 : n0 ≠ "_") (h1 : n1 ≠ "_")
    (x0 y0 x1 y1 : Value) (b0 b1 : Bool) (px0 : (part t0 xs o0).run Tryz.prog w = .ok x0 w) (py0 : (part t0 ys o0).run Tryz.prog w = .ok y0 w) (px1 : (part t1 xs o1).run Tryz.prog w = .ok x1 w) (py1 : (part t1 ys o1).run Tryz.prog w = .ok y1 w)
    (e0 : (Op.equalIn d t0 x0 y0).run Tryz.prog w = .ok b0 w) (e1 : (Op.equalIn d t1 x1 y1).run Tryz.prog w = .ok b1 w) : (Op.eqFields d xs ys fs).run Tryz.prog w = .ok (b0 && b1) w := by
  match fs, hf with
  | [f, g], hf =>
    simp only [List.map_cons, List.map_nil, List.cons.injEq, Prod.mk.injEq, and_true] at hf
    obtain ⟨⟨rfl, rfl, rfl⟩, ⟨rfl, rfl, rfl⟩⟩ := hf
    simp only [Op.eqFields, Sem.run_bind, Sem.run_ite, h0, h1, ne_eq, not_false_eq_true, if_true, px0, py0, e0, Result.andThen_ok]
    cases b0 with
    | false => simp
    | true => cases b1 <;> simp [px1, py1, e1]
theorem equal_loc (w : World) (d : Nat) (b b' : Bool) (x y : Int) : (Op.equalIn (d + 2) 34 (.agg #[.bool b, .int .i64 x]) (.agg #[.bool b', .int .i64 y])).run Tryz.prog w = .ok (b == b' && x == y) w := by
  rw [run_equalIn_struct w (d + 1) _ _ _ under_loc stood_loc]
  exact eqFields2 w (d + 1) _ _ _ _ _ _ _ _ _ fields_loc (by decide) (by decide) (.bool b) (.bool b') (.int .i64 x) (.int .i64 y) _ _ (part_bool _ _ _ w rfl) (part_bool _ _ _ w rfl) (part_int _ _ _ w rfl) (part_int _ _ _ w rfl) (run_equalIn_bool' w d _ b b' Tryz.underlying4) (run_equalIn_int w d _ .i64 .i64 x y Tryz.underlying3)
theorem part_loc (cs : Array Value) (o : Nat) (u v : Value) (w : World) (h : cs.extract o (o + 2) = #[u, v]) : (part 34 cs o).run Tryz.prog w = .ok (.agg #[u, v]) w := by
  have hu : (underlying 34).run Tryz.prog w = .ok (.struct (Tryz.prog.fieldsOf 34)) w := run_underlying under_loc w
  obtain ⟨i, hi, -, hs, -⟩ := info_parts info_loc
  have hz : (sizeOf 34).run Tryz.prog w = .ok 2 w := by simp [sizeOf, typeInfo, hi, hs]
  simp [part, isAgg, hu, hz, h]
abbrev factV (x : Int × Bool × Int) : Value := .agg #[.int .i64 x.1, .bool x.2.1, .int .i64 x.2.2]
def sameFact (x y : Int × Bool × Int) : Bool := x.1 == y.1 && (x.2.1 == y.2.1 && x.2.2 == y.2.2)
theorem equal_fact (w : World) (x y : Int × Bool × Int) : (Op.equalIn 10000 36 (factV x) (factV y)).run Tryz.prog w = .ok (sameFact x y) w := by
  rw [run_equalIn_struct w 9999 _ _ _ under_fact stood_fact]
  exact eqFields2 w 9999 _ _ _ _ _ _ _ _ _ fields_fact (by decide) (by decide) (.int .i64 x.1) (.int .i64 y.1) (.agg #[.bool x.2.1, .int .i64 x.2.2]) (.agg #[.bool y.2.1, .int .i64 y.2.2]) _ _ (part_int _ _ _ w rfl) (part_int _ _ _ w rfl) (part_loc _ _ _ _ w rfl) (part_loc _ _ _ _ w rfl) (run_equalIn_int w 9998 _ .i64 .i64 _ _ Tryz.underlying3) (equal_loc w 9997 _ _ _ _)
def sameLoc (x y : Bool × Int) : Bool := x.1 == y.1 && x.2 == y.2
theorem eql_loc (w : World) (b b' : Bool) (x y : Int) : (binOp .eql 34 (.agg #[.bool b, .int .i64 x]) (.agg #[.bool b', .int .i64 y])).run Tryz.prog w = .ok (.bool (sameLoc (b, x) (b', y))) w := by
  rw [run_eql_struct, equal_loc w 9998]
  rfl
theorem eql_fact (w : World) (x y : Int × Bool × Int) : (binOp .eql 36 (factV x) (factV y)).run Tryz.prog w = .ok (.bool (sameFact x y)) w := by
  rw [run_eql_struct, equal_fact w]
  rfl
theorem locs_cells {w : World} {a : Option Addr} {n : Nat} {ls : List (Bool × Int)} (h : Locs w a n ls) {k : Nat} (hk : k < n) : ∃ r b o, ls[k]? = some r ∧ a = some ⟨b, o, none⟩ ∧ w.cell? ⟨b, o + k * 2, none⟩ = some (.bool r.1) ∧ w.cell? ⟨b, o + k * 2 + 1, none⟩ = some (.int .i64 r.2) := by
  have hk' : k < ls.length := by rw [h.1]; exact hk
  obtain ⟨r, hr⟩ : ∃ r, ls[k]? = some r := ⟨ls[k], List.getElem?_eq_getElem hk'⟩
  obtain ⟨b, o, e, hc⟩ := h.2.2 k r hr
  exact ⟨r, b, o, hr, e, hc 0 (by omega), hc 1 (by omega)⟩
theorem indexLoc_any (a : Option Addr) (n c : Nat) (ls : List (Bool × Int)) (x : Bool × Int) (w : World) (h : Locs w a n ls) :
    Calls Tryz.prog 96 #[.slice a n c, .agg #[.bool x.1, .int .i64 x.2]] w fun e w' => e = .returned (.int .i64 (idxF (sameLoc x) ls)) ∧ Below w.heap.size w w' := by
  have HL := Lib.hid h.1
  have hn := h.2.1
  have H := Lib.hid h
  clear h
  have hq := fun w b y => eql_loc w x.1 b x.2 y
  go_enter Tryz.func96, Tryz.ntmps96
  go_wp2
  go_loopw [5, 8] (fun _ i wr => ∃ (k : Nat), k ≤ n ∧ i = .int .i64 k ∧ Hid (∀ j y, j < k → ls[j]? = some y → sameLoc x y = false) ∧ Hid (Below (w.alloc (.cells #[.bool x.1, .int .i64 x.2] 34)).heap.size (w.alloc (.cells #[.bool x.1, .int .i64 x.2] 34)) wr)) (fun _ i _ => n - (intOf i).toNat)
  case atStart => exact ⟨0, by omega, rfl, fun j y hj => absurd hj (by omega), Below.refl _ _⟩
  case round =>
    obtain ⟨k, hk, rfl, HR, HB⟩ := hrel
    have HBw : Hid (Below w.heap.size w wr) := ext_trans (ext_alloc _ _) HB.out
    have hx := block_ext HB.out (heap_alloc_new w _)
    have x0 : wr.cell? ⟨w.heap.size, 0, none⟩ = some (.bool x.1) := by rw [cell_of_row _ _ _ _ _ _ hx]; rfl
    have x1 : wr.cell? ⟨w.heap.size, 1, none⟩ = some (.int .i64 x.2) := by rw [cell_of_row _ _ _ _ _ _ hx]; rfl
    clear hx
    by_cases hlt : k < n
    · obtain ⟨r, b, o, hr, rfl, c0, c1⟩ := locs_cells (H.out.ext locC_len HBw.out) hlt
      have HG := Lib.hid hr
      clear hr
      have hk0 : (0 : Int) ≤ (k : Int) := by omega
      have hk1 : (k : Int) < (n : Int) := by omega
      have hq2 : ∀ w, (binOp .eql 34 (.agg #[.bool x.1, .int .i64 x.2]) (.agg #[.bool r.1, .int .i64 r.2])).run Tryz.prog w = .ok (.bool (sameLoc x r)) w := fun w => hq w r.1 r.2
      by_cases hy : sameLoc x r = true
      · have HE : Hid (idxF (sameLoc x) ls = k) := idxF_found _ ls k r HG.out hy HR.out
        go_wp2
        go_quiet (fail)
        go_wp2
        go_ret
        exact ⟨by rw [HE.out]; rfl, ext_drewN HBw.out _⟩
      · have hy' : sameLoc x r = false := by simpa using hy
        have HE : Hid (∀ j z, j < k + 1 → ls[j]? = some z → sameLoc x z = false) := fun j z hj hz => by
          by_cases e : j = k
          · subst e
            rw [HG.out] at hz
            injection hz with hz
            subst hz
            exact hy'
          · exact HR.out j z (by omega) hz
        go_wp2
        go_quiet (fail)
        go_wp2
        go_roundw
        case rel => exact ⟨k + 1, by omega, by go_num, HE, ext_drewN HB.out _⟩
        case measure => simp [intOf]; omega
    · obtain rfl : k = n := by omega
      have HE : Hid (idxF (sameLoc x) ls = -1) := idxF_none _ ls (fun z hz => by
        obtain ⟨j, hj, e⟩ := List.mem_iff_getElem.1 hz
        exact HR.out j z (by rw [HL.out] at hj; exact hj) (by rw [List.getElem?_eq_getElem hj, e]))
      go_wp2
      go_ret
      exact ⟨by rw [HE.out]; rfl, HBw.out⟩
def hasLoc (ls : List (Bool × Int)) (x : Bool × Int) : Bool := ls.any (sameLoc x)
theorem containsLoc_any (a : Option Addr) (n c : Nat) (ls : List (Bool × Int)) (x : Bool × Int) (w : World) (h : Locs w a n ls) :
    Calls Tryz.prog 77 #[.slice a n c, .agg #[.bool x.1, .int .i64 x.2]] w fun e w' => e = .returned (.bool (hasLoc ls x)) ∧ Below w.heap.size w w' := by
  have HA := Lib.hid (idxF_any (sameLoc x) ls)
  have hg := idxF_ge (sameLoc x) ls
  have H := Lib.hid h
  clear h
  go_enter Tryz.func77, Tryz.ntmps77
  go_wp2_with (go_at_call 96; refine (indexLoc_any a n c ls x _ (H.out.ext locC_len (ext_alloc _ _))).mono ?_; rintro e w' ⟨rfl, hb'⟩; have HB' := Lib.hid (ext_trans (ext_alloc _ _) hb'); clear hb')
  go_ret
  exact ⟨ret_bool (by rw [hasLoc, ← HA.out]), HB'.out⟩
end
end Go.Proofs.YtfpbfdkjcmlimaaGreat
