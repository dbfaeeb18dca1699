/-
 Building tiles: loops and regions.
-/
import Derived.Test.YtblhmdhfhaencaaMarks
import Derived.Test.YtblhmdhfhaencaaRowG
import Derived.Test.YtblhmdhfhaencaaTH
namespace Go.Proofs.Ytblhmdhfhaencaa
set_option linter.unusedSimpArgs false
set_option linter.unusedVariables false
set_option linter.unusedSectionVars false
set_option maxRecDepth 100000
set_option maxHeartbeats 40000000
section
open Go.RowKit Go.Shelf
attribute [local go_sem] Oper.semAt_some wide_fn wide_depth wide_fnR wide_depthR

/-! ### plain -/
def stP (ts : List TermD) (f : Nat) (inn : Nat → Bool) (dn : List Nat) : (Nat → Bool) × List PartD := dn.foldl (stepP ts (loopsP ts f) inn) (inn, [])
theorem stP_snoc (ts : List TermD) (f : Nat) (inn : Nat → Bool) (dn : List Nat) (x : Nat) : stP ts f inn (dn ++ [x]) = stepP ts (loopsP ts f) inn (stP ts f inn dn) x := by rw [stP, List.foldl_append]; rfl
theorem step_pre (ts : List TermD) (rec : (Nat → Bool) → List PartD) (inn : Nat → Bool) (st : (Nat → Bool) × List PartD) (x : Nat) : st.2.length ≤ (stepP ts rec inn st x).2.length := by
 unfold stepP
 split
 · split <;> simp
 · exact Nat.le_refl _
theorem stP_len (ts : List TermD) (f : Nat) (inn : Nat → Bool) : ∀ (r dn : List Nat), (stP ts f inn dn).2.length ≤ (stP ts f inn (dn ++ r)).2.length
 | [], dn => by simp
 | x :: r, dn => by
   rw [show dn ++ x :: r = (dn ++ [x]) ++ r by simp]
   refine Nat.le_trans ?_ (stP_len ts f inn r (dn ++ [x]))
   rw [stP_snoc]
   exact step_pre _ _ _ _ _
def offL (f : Nat → Bool) (dn : List Nat) : Nat → Bool := fun y => if dn.contains y then false else f y
theorem offL_nil (f : Nat → Bool) : offL f [] = f := by funext y; simp [offL]
theorem offL_snoc (f : Nat → Bool) (dn : List Nat) (x : Nat) : (fun k => if k = x then false else offL f dn k) = offL f (dn ++ [x]) := by
 funext k
 simp only [offL, List.contains_eq_mem, List.mem_append, List.mem_singleton]
 by_cases e : k = x <;> simp [e]
theorem offL_end (f : Nat → Bool) {s : Nat → Bool} (hc : Canon s) : offL f (listS s) = diffS f s := by
 funext k
 simp only [offL, diffS, List.contains_eq_mem, mem_listS hc]
 cases s k <;> simp

/-! ### what lies where -/
structure LoF (W0 : World) (P : Nat) (v0 : Value) (w : World) : Prop where
 h0 : W0.heap.size ≤ w.heap.size
 hP : P < w.heap.size
 hv : ∀ q, v0.ownBlock = some q → q < w.heap.size
def LoJ (W0 : World) (d : WalkD) (P base : Nat) (v0 : Value) (L : List PartD) (w : World) (inn : Nat → Bool) (st : (Nat → Bool) × List PartD) (W : World) : Prop :=
 ∃ v, BldJ W0 d P base v (L ++ st.2) W ∧ W.heap[w.heap.size]? = some (.cells #[.pointer (some ⟨P, 0, none⟩)] 91 (0, 0)) ∧ W.heap[w.heap.size + 1]? = some (setO inn) ∧ W.heap[w.heap.size + 1 + 1]? = some (setO st.1) ∧
   W.heap[w.heap.size + 1 + 1 + 1]? = some (.cells #[.pointer (some ⟨w.heap.size + 1, 0, none⟩)] 141 (0, 0)) ∧ Chg (SP P v0) w W ∧ ∀ q, v.ownBlock = some q → v0.ownBlock = some q ∨ w.heap.size + 1 + 1 + 1 < q
section
variable {W0 : World} {d : WalkD} {P base : Nat} {v0 : Value} {L : List PartD} {w : World} {inn : Nat → Bool} {st : (Nat → Bool) × List PartD} {D : Nat} {W W' : World}
theorem LoJ.steady (hD : w.heap.size ≤ D) (h0 : W0.heap.size ≤ w.heap.size) : Steady D (LoJ W0 d P base v0 L w inn st) := by
 unfold LoJ
 exact Steady.ex fun v => (BldJ.steady (by omega)).and ((Steady.block _ _ rfl).and ((Steady.block _ _ rfl).and ((Steady.block _ _ rfl).and ((Steady.block _ _ rfl).and ((Steady.chg hD).and (Steady.pure _ _))))))
/-- one that is left is struck out -/
theorem LoJ.off (hF : LoF W0 P v0 w) (h : LoJ W0 d P base v0 L w inn st W) {y : Nat} (hy : y < 200) : LoJ W0 d P base v0 L w inn ((fun k => if k = y then false else st.1 k), st.2) (W.setCell ⟨w.heap.size + 1 + 1, y, none⟩ (.bool false)) := by
 obtain ⟨v, j0, j1, j2, j3, j4, jc, jv⟩ := h
 obtain ⟨f0, f1, f2⟩ := hF
 have g := grown_setCell W (w.heap.size + 1 + 1) y (.bool false)
 refine ⟨v, j0.grown g fun q e => ?_, grown_row g j1 fun e => ?_, grown_row g j2 fun e => ?_, set_put j3 y hy false, grown_row g j4 fun e => ?_, jc.setCell (.inr (by show w.heap.size ≤ w.heap.size + 1 + 1; omega)) _, jv⟩
 · injection e with e
   refine ⟨by omega, by omega, fun e2 => ?_⟩
   rcases jv q e2 with h | h
   · have := f2 q h; omega
   · omega
 all_goals (injection e with e; omega)
/-- parts are put behind -/
theorem LoJ.app (hF : LoF W0 P v0 w) {v : Value} {M : List PartD} {v' : Value} {W3 : World} (j0 : BldJ W0 d P base v (L ++ st.2) W) (h : LoJ W0 d P base v0 L w inn st W) (hv : ∀ q, v.ownBlock = some q → v0.ownBlock = some q ∨ w.heap.size + 1 + 1 + 1 < q) (j0' : BldJ W0 d P base v' (L ++ st.2 ++ M) W3) (hc : Chg (SP P v) W W3)
  (hat : ∀ q, v'.ownBlock = some q → v.ownBlock = some q ∨ W.heap.size ≤ q) : LoJ W0 d P base v0 L w inn (st.1, st.2 ++ M) W3 := by
 obtain ⟨v1, k0, j1, j2, j3, j4, jc, jv⟩ := h
 obtain ⟨f0, f1, f2⟩ := hF
 have key : ∀ {k : Nat} {o : Obj}, W.heap[k]? = some o → (k = w.heap.size ∨ k = w.heap.size + 1 ∨ k = w.heap.size + 1 + 1 ∨ k = w.heap.size + 1 + 1 + 1) → W3.heap[k]? = some o := fun {k o} hk he => by
  refine hc.row hk fun hs => ?_
  rcases hs with hs | hs
  · omega
  · rcases hv k hs with h | h
    · have := f2 k h; omega
    · omega
 have hlt := lt_of_heap j4
 refine ⟨v', by rw [← List.append_assoc]; exact j0', key j1 (by omega), key j2 (by omega), key j3 (by omega), key j4 (by omega), jc.then hc fun q hq => ?_, fun q hq => ?_⟩
 · rcases hq with rfl | hq
   · exact .inl (.inl rfl)
   · rcases hv q hq with h | h
     · exact .inl (.inr h)
     · exact .inr (by omega)
 · rcases hat q hq with h | h
   · exact hv q h
   · exact .inr (by omega)
end
theorem loops_any (W0 : World) (d : WalkD) (ts : List TermD) (hok : WalkOK W0 d ts) (hf : fitsB ts = true) (P base : Nat) :
  ∀ (f : Nat) (inn : Nat → Bool) (v : Value) (L : List PartD) (w : World), Canon inn → (∀ y, inn y = true → y < ts.length) → L.length + (loopsP ts f inn).length ≤ 1000 → (listS inn).length < f → BldJ W0 d P base v L w →
  Calls Try.prog 50 #[.pointer (some ⟨P, 0, none⟩), .agg (setA inn)] w (BldPost W0 d P base v w (L ++ loopsP ts f inn)) := by
 intro f
 induction f with
 | zero => intro inn v L w _ _ _ h; omega
 | succ f ih =>
   intro inn v L w hc hin hlen hlt h
   have IH := Lib.hid ih
   have HC := Lib.hid hc
   have HIN := Lib.hid hin
   have HLEN := Lib.hid hlen
   have HLT := Lib.hid hlt
   have HJ0 := Lib.hid h
   have HF := Lib.hid hf
   have HOK := Lib.hid hok
   have hbn : ts.length = d.bn := hok.1
   have hw0 : W0.heap.size ≤ w.heap.size := h.ext.size
   have hPw : P < w.heap.size := lt_of_heap h.bld
   have HLF : LoF W0 P v w := ⟨hw0, hPw, fun q hq => (h.own hq).2⟩
   have HBN := Lib.hid hbn
   clear hc hin hlen hlt h ih hok hf hbn
   refine (callsIn_wide (n := 0)).1 ?_
   refine callsIn_of_wp_marks Try.func50 rfl trivial ?_
   simp only [Try.ntmps50, List.size_toArray, List.length_cons, List.length_nil, Nat.reduceAdd, Nat.reduceSub, Array.replicate_succ, Array.replicate_zero, List.push_toArray, List.append_toArray, List.nil_append, List.cons_append]
   have hi1 : ((w.alloc (.cells #[.pointer (some ⟨P, 0, none⟩)] 91)).alloc (setO inn)).heap[w.heap.size + 1]? = some (setO inn) := heap_at _ _ _ (by simp)
   gi_wp2_with (first
    | (refine opIn_load_row 78 _ rfl (w.heap.size + 1) rfl 78 (setA inn) (0, 0) _ hi1 Try.underlying78 rfl (by rw [setA_size]; exact size_set) ?_)
    | (refine opIn_store_row 78 _ _ rfl (w.heap.size + 1 + 1) (setA inn) rfl rfl 78 Try.zeroCells78 (heap_at _ _ _ (by simp)) (by rw [setA_size]; exact size_set) (by rw [setA_size]; kernel_rfl) (setA_all _) ?_)
    | (gi_at_call 59; refine (callsIn_wide.2 (each_any _ _)).mono ?_; rintro e w' ⟨rfl, rfl⟩))
   clear hi1
   obtain ⟨W1, hW1⟩ : ∃ W1, W1 = ((((w.alloc (.cells #[.pointer (some ⟨P, 0, none⟩)] 91)).alloc (setO inn)).alloc (.cells Try.zeroCells78 78)).setRow (w.heap.size + 1 + 1) (setA inn)).alloc (.cells #[.pointer (some ⟨w.heap.size + 1, 0, none⟩)] 141) := ⟨_, rfl⟩
   rw [← hW1]
   have hb1 : Below w.heap.size w W1 := by rw [hW1]; exact (below_setRow ((((Below.refl _ w).alloc (Nat.le_refl _) _).alloc (by simp) _).alloc (by simp; omega) _) (by omega) _).alloc (by simp; omega) _
   have hsz1 : W1.heap.size = w.heap.size + 1 + 1 + 1 + 1 := by rw [hW1]; simp
   have HST : Hid (LoJ W0 d P base v L w inn (stP ts f inn []) W1) := by
    have e : stP ts f inn [] = (inn, []) := rfl
    rw [Hid, e]
    refine ⟨v, by rw [List.append_nil]; exact HJ0.out.ext' hb1, ?_, ?_, ?_, ?_, (Chg.refl _ _).of_ext hb1, fun q hq => .inl hq⟩
    · rw [hW1, Below.heap_alloc _ _ _ (by simp; omega), setRow_other _ _ _ _ (by omega), Below.heap_alloc _ _ _ (by simp; omega), Below.heap_alloc _ _ _ (by simp)]; exact heap_alloc_new _ _
    · rw [hW1, Below.heap_alloc _ _ _ (by simp), setRow_other _ _ _ _ (by omega), Below.heap_alloc _ _ _ (by simp)]; exact heap_at _ _ _ (by simp)
    · rw [hW1, Below.heap_alloc _ _ _ (by simp)]; exact setRow_heap _ _ _ _ _ _ (heap_at _ _ _ (by simp))
    · rw [hW1]; exact heap_at _ _ _ (by simp)
   clear hW1
   refine range_listN (ps := #[11]) (gf := 89) (lb := #[.pointer (some ⟨w.heap.size + 1 + 1 + 1, 0, none⟩)]) (enc := encN) (l := listS inn) rfl enter_each _ (each_iterI inn (w.heap.size + 1 + 1 + 1) (w.heap.size + 1)) (fun _ => rfl)
    (fun dn r W => Hid (LoJ W0 d P base v L w inn (stP ts f inn dn) W)) (fun _ _ => False) (fun dn r => LoJ.steady (by omega) hw0) (fun c => Steady.pure _ _)
    (fun dn r W h => by obtain ⟨v1, _, _, h2, _, h4, _⟩ := h.out; exact ⟨by rw [cell_of_row _ _ _ _ _ _ h4]; rfl, h2⟩) HST ?round ?done ?stop
   case round =>
    rintro lp dn x r W hd hJ
    unfold encN
    gi_wp2
    refine ⟨Keep.refl _, hJ, ?_⟩
    clear hJ lp W
    rintro lp W hlp ⟨rc, hrc⟩ hJ
    have hxin : inn x = true := (mem_listS HC.out x).1 (by rw [hd]; simp)
    have hxl : x < 200 := HC.out x hxin
    have hxb : inn x = true → x < d.bn := fun h => by rw [← HBN.out]; exact HIN.out x h
    have HXIN := Lib.hid hxin
    have HD := Lib.hid hd
    have HRC := Lib.hid hrc
    obtain ⟨v1, j0, j1, j2, j3, j4, jc, jv⟩ := hJ.out
    have J0 := Lib.hid j0.bld
    have J1 := Lib.hid j1
    have J2 := Lib.hid j2
    have JB := Lib.hid j0.ext
    have hWs : w.heap.size + 1 + 1 + 1 < W.heap.size := lt_of_heap j4
    clear hd hrc j0 j1 j2 j3 j4 jc jv hxin
    gi_wp2
    refine round_free 8 [some 12, some 13, some 14, some 15, some 16, some 17, some 18, some 6] (by kernel_rfl) (by kernel_rfl) (by repeat (first | exact noOut_round | refine noOut_then ?_ | refine noOut_block ?_)) (by kernel_rfl) (specB [.val (.pointer (some ⟨P, 0, none⟩)), .val (.pointer (some ⟨P, 0, none⟩)), .val (.pointer (some ⟨P, 0, none⟩)), .val (walkV d), .val (.int .i64 (x : Int)), .val (.agg (setA inn)), .val (.agg (setA (knotS ts x inn))), .new (setO fun _ => false)]) (specB_mono ?_) ?_ ?_
    · intro k hk
      simp only [List.mem_cons, List.not_mem_nil, or_false] at hk
      rcases hk with rfl | rfl | rfl | rfl | rfl | rfl | rfl | rfl
      · exact trivial
      · exact trivial
      · exact trivial
      · exact trivial
      · exact trivial
      · exact trivial
      · exact trivial
      · exact trivial
    · intro i hi ν lo hi' w1 K hB hD hK
      have hcase : i = 0 ∨ i = 1 ∨ i = 2 ∨ i = 3 ∨ i = 4 ∨ i = 5 ∨ i = 6 ∨ i = 7 := by omega
      clear hi
      rcases hcase with rfl | rfl | rfl | rfl | rfl | rfl | rfl | rfl
      · clear hD
        refine wpOp_atK rfl rfl ?_
        simp only [frameOf, frameGo, List.getD_cons_zero, List.getD_cons_succ, put_some, put_none, List.setIfInBounds_toArray, List.set_cons_succ, List.set_cons_zero] at hK ⊢
        have q1 := cell_ext hB (show W.cell? ⟨w.heap.size, 0, none⟩ = some (.pointer (some ⟨P, 0, none⟩)) by rw [cell_of_row _ _ _ _ _ _ J1.out]; rfl)
        go_simp
        exact hK _ _ (Below.refl _ _) rfl
      · have e0 := hD 0 (by kernel_rfl)
        replace e0 : ν 0 = (.pointer (some ⟨P, 0, none⟩)) := e0
        clear hD
        refine wpOp_atK rfl rfl ?_
        simp only [frameOf, frameGo, List.getD_cons_zero, List.getD_cons_succ, put_some, put_none, List.setIfInBounds_toArray, List.set_cons_succ, List.set_cons_zero, e0] at hK ⊢
        go_simp
        exact hK _ _ (Below.refl _ _) rfl
      · have e1 := hD 1 (by kernel_rfl)
        replace e1 : ν 1 = (.pointer (some ⟨P, 0, none⟩)) := e1
        clear hD
        refine wpOp_atK rfl rfl ?_
        simp only [frameOf, frameGo, List.getD_cons_zero, List.getD_cons_succ, put_some, put_none, List.setIfInBounds_toArray, List.set_cons_succ, List.set_cons_zero, e1] at hK ⊢
        go_simp
        exact hK _ _ (Below.refl _ _) rfl
      · have e2 := hD 2 (by kernel_rfl)
        replace e2 : ν 2 = (.pointer (some ⟨P, 0, none⟩)) := e2
        clear hD
        refine wpOp_atK rfl rfl ?_
        simp only [frameOf, frameGo, List.getD_cons_zero, List.getD_cons_succ, put_some, put_none, List.setIfInBounds_toArray, List.set_cons_succ, List.set_cons_zero, e2] at hK ⊢
        refine wp_load_mid 70 _ rfl P 0 rfl _ _ (bld_walk (block_ext hB J0.out)) Try.underlying70 rfl size_walk ?_
        exact hK _ _ (Below.refl _ _) rfl
      · clear hD
        refine wpOp_atK rfl rfl ?_
        simp only [frameOf, frameGo, List.getD_cons_zero, List.getD_cons_succ, put_some, put_none, List.setIfInBounds_toArray, List.set_cons_succ, List.set_cons_zero] at hK ⊢
        go_simp
        exact hK _ _ (Below.refl _ _) rfl
      · clear hD
        refine wpOp_atK rfl rfl ?_
        simp only [frameOf, frameGo, List.getD_cons_zero, List.getD_cons_succ, put_some, put_none, List.setIfInBounds_toArray, List.set_cons_succ, List.set_cons_zero] at hK ⊢
        refine wp_load_row 78 _ rfl (w.heap.size + 1) rfl 78 _ (0, 0) _ (block_ext hB J2.out) Try.underlying78 rfl (by rw [setA_size]; exact size_set) ?_
        exact hK _ _ (Below.refl _ _) rfl
      · have e3 := hD 3 (by kernel_rfl)
        replace e3 : ν 3 = (walkV d) := e3
        have e4 := hD 4 (by kernel_rfl)
        replace e4 : ν 4 = (.int .i64 (x : Int)) := e4
        have e5 := hD 5 (by kernel_rfl)
        replace e5 : ν 5 = (.agg (setA inn)) := e5
        clear hD
        refine wpOp_atK rfl rfl ?_
        simp only [frameOf, frameGo, List.getD_cons_zero, List.getD_cons_succ, put_some, put_none, List.setIfInBounds_toArray, List.set_cons_succ, List.set_cons_zero, e3, e4, e5] at hK ⊢
        go_simp
        refine (knot_any d ts x inn w1 hxl (HOK.out.ext (ext_trans JB.out hB)) (fits_facts HF.out).1 HC.out hxb).mono ?_
        rintro e w3 ⟨rfl, hb3⟩
        exact hK _ _ hb3 rfl
      · clear hD
        refine wpOp_atK rfl rfl ?_
        simp only [frameOf, frameGo, List.getD_cons_zero, List.getD_cons_succ, put_some, put_none, List.setIfInBounds_toArray, List.set_cons_succ, List.set_cons_zero] at hK ⊢
        go_simp
        refine hK _ _ (ext_alloc _ _) ⟨rfl, by simp, ?_⟩
        rw [heap_alloc_new, zero_set]
    · intro ν lo hi w1 hB hS hI hD
      have e0 : ν 0 = (.pointer (some ⟨P, 0, none⟩)) := hS 0 (by omega)
      have e1 : ν 1 = (.pointer (some ⟨P, 0, none⟩)) := hS 1 (by omega)
      have e2 : ν 2 = (.pointer (some ⟨P, 0, none⟩)) := hS 2 (by omega)
      have e3 : ν 3 = (walkV d) := hS 3 (by omega)
      have e4 : ν 4 = (.int .i64 (x : Int)) := hS 4 (by omega)
      have e5 : ν 5 = (.agg (setA inn)) := hS 5 (by omega)
      have e6 : ν 6 = (.agg (setA (knotS ts x inn))) := hS 6 (by omega)
      obtain ⟨e7, l7, h7⟩ := hS 7 (by omega)
      clear hS
      simp only [List.drop_succ_cons, List.drop_zero, frameOf, frameGo, List.getD_cons_zero, List.getD_cons_succ, put_some, put_none, List.setIfInBounds_toArray, List.set_cons_succ, List.set_cons_zero, e0, e1, e2, e3, e4, e5, e6, e7]
      obtain ⟨K, hKK⟩ : ∃ K, K = knotS ts x inn := ⟨_, rfl⟩
      rw [← hKK]
      have i7 := hI 7 (by omega)
      generalize lo 7 = S7 at *
      have hS7 := i7.1
      have hw2 := below_setRow (g := S7) hB hS7 (setA K)
      have hs2 := setRow_heap w1 S7 _ (setA K) _ _ h7
      refine wpList_store_row (o := ⟨none, .store 78 _ _, _, _, _, _⟩) rfl 78 _ _ rfl S7 (setA K) rfl rfl 78 _ h7 (by rw [setA_size]; exact size_set) rfl (setA_all _) ?_
      have HJ2 := Lib.hid ((LoJ.steady (Nat.le_refl _) hw0).ext hJ.out hw2)
      have HK2 := Lib.hid (Keep.ext hw2)
      have hrc2 := block_ext hw2 HRC.out
      have hS7b : S7 < w1.heap.size := lt_of_heap h7
      have hsz2 : (w1.setRow S7 (setA K)).heap.size = w1.heap.size := by simp
      generalize w1.setRow S7 (setA K) = w2 at *
      have HS2 := Lib.hid hs2
      have HRC2 := Lib.hid hrc2
      have HKK := Lib.hid hKK
      have hsS : W.heap.size ≤ S7 := hS7
      rw [← hsz2] at hS7b
      clear hI hD hB e0 e1 e2 e3 e4 e5 e6 e7 l7 h7 i7 hw2 hs2 hrc2 hsz2 hKK hJ HRC hS7
      go_wp2
      obtain ⟨v2, j0, j1, j2, j3, j4, jc, jv⟩ := HJ2.out
      obtain ⟨lb, hlb⟩ : ∃ b, b = (stP ts f inn dn).1 x := ⟨_, rfl⟩
      obtain ⟨kb, hkb⟩ : ∃ b, b = K x := ⟨_, rfl⟩
      have c1 := set_cell j3 x hxl
      have c2 := set_cell HS2.out x hxl
      rw [← hlb] at c1
      rw [← hkb] at c2
      have HLB := Lib.hid hlb
      have HKB := Lib.hid hkb
      clear hlb hkb j0 j1 j2 j3 j4 jc jv
      cases lb with
      | false =>
        have HE : Hid (stP ts f inn (dn ++ [x]) = stP ts f inn dn) := by rw [Hid, stP_snoc, stepP, ← HLB.out, Bool.false_and]; rfl
        gi_wp2
        exact ⟨HK2.out, by rw [HE.out]; exact HJ2⟩
      | true =>
        cases kb with
        | false =>
          have HE : Hid (stP ts f inn (dn ++ [x]) = stP ts f inn dn) := by rw [Hid, stP_snoc, stepP, ← HKK.out, ← HKB.out, Bool.and_false]; rfl
          gi_wp2
          exact ⟨HK2.out, by rw [HE.out]; exact HJ2⟩
        | true =>
          have HCK : Hid (Canon K) := by rw [Hid, HKK.out]; exact knot_canon HC.out x
          gi_wp2_with (gi_at_call 59; refine (CallsIn.inRound _ (callsIn_wide.2 (each_any _ _))).mono ?_; rintro e w' ⟨rfl, rfl⟩)
          clear c1 c2
          obtain ⟨w3, hw3⟩ : ∃ w3, w3 = w2.alloc (.cells #[.pointer (some ⟨S7, 0, none⟩)] 141) := ⟨_, rfl⟩
          rw [← hw3]
          have hb3 : Below w2.heap.size w2 w3 := by rw [hw3]; exact ext_alloc _ _
          have hg3 : w3.heap[w2.heap.size]? = some (.cells #[.pointer (some ⟨S7, 0, none⟩)] 141 (0, 0)) := by rw [hw3]; exact heap_alloc_new _ _
          have hrc3 := block_ext hb3 HRC2.out
          have hsz3 : w3.heap.size = w2.heap.size + 1 := by rw [hw3]; simp
          have HST3 : Hid (LoJ W0 d P base v L w inn (offL (stP ts f inn dn).1 [], (stP ts f inn dn).2) w3 ∧ w3.heap[S7]? = some (setO K) ∧ w3.heap[w2.heap.size]? = some (.cells #[.pointer (some ⟨S7, 0, none⟩)] 141 (0, 0)) ∧ Keep W w3) :=
           ⟨by rw [offL_nil]; exact (LoJ.steady (Nat.le_refl _) hw0).ext HJ2.out hb3, block_ext hb3 HS2.out, hg3, HK2.out.trans (Keep.ext hb3)⟩
          clear hw3 hb3 hg3 HJ2 HK2 HRC2 HS2
          refine range_listI (ps := #[30]) (gf := 89) (lb := #[.pointer (some ⟨w2.heap.size, 0, none⟩)]) (enc := encN) (l := listS K) hrc3 rfl enter_each _ (each_iterI K w2.heap.size S7) (fun _ => rfl)
           (fun dn2 r2 Wi => Hid (LoJ W0 d P base v L w inn (offL (stP ts f inn dn).1 dn2, (stP ts f inn dn).2) Wi ∧ Wi.heap[S7]? = some (setO K) ∧ Wi.heap[w2.heap.size]? = some (.cells #[.pointer (some ⟨S7, 0, none⟩)] 141 (0, 0)) ∧ Keep W Wi)) (fun _ _ => False)
           (fun dn2 r2 => (LoJ.steady (by omega) hw0).and ((Steady.block _ _ rfl).and ((Steady.block _ _ rfl).and (Steady.keep _ _ (by omega))))) (fun c => Steady.pure _ _)
           (fun dn2 r2 Wi h => ⟨by rw [cell_of_row _ _ _ _ _ _ h.out.2.2.1]; rfl, h.out.2.1⟩) HST3 ?round2 ?done2 ?stop2
          case round2 =>
           rintro lp2 dn2 y r2 Wi hd2 hJi
           unfold encN
           gi_wp2
           refine ⟨Keep.refl _, hJi, ?_⟩
           clear hJi lp2 Wi
           rintro lp2 Wi _ _ hJi
           have hyl : y < 200 := listS_lt K y (by rw [hd2]; simp)
           have HN : Hid (LoJ W0 d P base v L w inn (offL (stP ts f inn dn).1 (dn2 ++ [y]), (stP ts f inn dn).2) (Wi.setCell ⟨w.heap.size + 1 + 1, y, none⟩ (.bool false)) ∧ (Wi.setCell ⟨w.heap.size + 1 + 1, y, none⟩ (.bool false)).heap[S7]? = some (setO K) ∧ (Wi.setCell ⟨w.heap.size + 1 + 1, y, none⟩ (.bool false)).heap[w2.heap.size]? = some (.cells #[.pointer (some ⟨S7, 0, none⟩)] 141 (0, 0)) ∧ Keep W (Wi.setCell ⟨w.heap.size + 1 + 1, y, none⟩ (.bool false))) := by
            obtain ⟨i0, i1, i2, i3⟩ := hJi.out
            have g := grown_setCell Wi (w.heap.size + 1 + 1) y (.bool false)
            refine ⟨?_, grown_row g i1 fun e => by injection e with e; omega, grown_row g i2 fun e => by injection e with e; omega, i3.trans (Keep.setCell _ _ _)⟩
            rw [← offL_snoc]
            exact i0.off HLF hyl
           obtain ⟨i0, i1, i2, i3⟩ := hJi.out
           obtain ⟨vi, k0, k1, k2, k3, k4, kc, kv⟩ := i0
           have hc := set_cell k3 y hyl
           have hf := set_free k3 y
           have hl := lt_of_heap k3
           clear i1 i2 i3 k0 k1 k2 k3 k4 kc kv hJi hd2
           gi_wp2
           exact ⟨Keep.setCell _ _ _, HN⟩
          case stop2 => rintro c Wx h; exact h.elim
          case done2 =>
           rintro Wd hJd
           obtain ⟨i0, i1, i2, i3⟩ := hJd.out
           rw [offL_end _ HCK.out] at i0
           have HJ3 := Lib.hid i0
           have HS3 := Lib.hid i1
           have HK3 := Lib.hid i3
           clear i0 i1 i2 i3 hJd HST3 hrc3 hsz3
           obtain ⟨v3, j0, j1, j2, j3, j4, jc, jv⟩ := HJ3.out
           have g1 : ∀ n : ExtW Wd, n.val.cell? ⟨w.heap.size, 0, none⟩ = some (.pointer (some ⟨P, 0, none⟩)) := ExtW.cell (by rw [cell_of_row _ _ _ _ _ _ j1]; rfl)
           have g2 : ∀ w', (∃ n : ExtW Wd, w' = n.val) → w'.rangeAt P 0 [.slice d.pa d.pn d.pc, .slice d.ba d.bn d.bc, .slice d.ta d.bn d.tc, .slice d.fa d.bn d.fc] := fun w' ⟨n, e⟩ => by rw [e]; exact bld_walk (block_ext n.ext j0.bld)
           have g3 : ∀ w', (∃ n : ExtW Wd, w' = n.val) → w'.heap[S7]? = some (setO K) := fun w' ⟨n, e⟩ => by rw [e]; exact block_ext n.ext HS3.out
           have HWK := Lib.hid (HOK.out.ext (ext_trans j0.ext (ext_drewN (Below.refl _ Wd) 1)))
           clear j0 j1 j2 j3 j4 jc jv
           gi_wp2
           refine round_mix (fun w' => ∃ n : ExtW Wd, w' = n.val) [(0, 5, some (5, true)), (6, 1, none)] (by kernel_rfl) (by kernel_rfl) (by kernel_rfl) (by repeat (first | exact noOut_round | refine noOut_then ?_ | refine noOut_block ?_)) ⟨⟨_, ext_drewN (Below.refl _ _) 1⟩, rfl⟩ ?_
           simp only [wpMix, List.take_succ_cons, List.take_zero, List.drop_succ_cons, List.drop_zero]
           repeat (first
            | go_big_quiet_skip
            | (refine wpQuiet_load_mid (o := ⟨some 36, .load 70 _, _, _, _, _⟩) (by rfl) 70 _ rfl P 0 rfl _ _ g2 Try.underlying70 rfl size_walk ?_; simp only [put_some, List.setIfInBounds_toArray, List.set_cons_succ, List.set_cons_zero])
            | (refine wpQuiet_load_row (o := ⟨some 37, .load 78 _, _, _, _, _⟩) (by rfl) 78 _ rfl S7 rfl 78 (setA K) (0, 0) _ g3 Try.underlying78 rfl (by rw [setA_size]; exact size_set) ?_; simp only [put_some, List.setIfInBounds_toArray, List.set_cons_succ, List.set_cons_zero])
            | go_big_quiet_step (fail))
           refine wpQuiet_nil ?_
           refine wpOp_at rfl rfl ?_
           go_simp
           refine (entries_any d ts K Wd.drew HWK.out (fits_facts HF.out).1).mono ?_
           rintro e w4 ⟨v4, rfl, ho4, hb4⟩
           have hb4 := unDrew1 hb4
           refine ⟨⟨⟨w4, hb4⟩, rfl⟩, ?_⟩
           clear g1 g2 g3
           obtain ⟨av, cv, rfl⟩ := ho4.form
           repeat (go_big_quiet_step (fail))
           refine wpQuiet_nil ?_
           refine NoPanic.normal ?_
           have HJ4 := Lib.hid ((LoJ.steady (Nat.le_refl _) hw0).ext HJ3.out hb4)
           have HS4 := Lib.hid (block_ext hb4 HS3.out)
           have HK4 := Lib.hid (HK3.out.trans (Keep.ext hb4))
           have hEl : (intsN (entriesS ts K)).length = (entriesS ts K).length := by simp [intsN]
           rw [hEl]
           obtain ⟨E, hE⟩ : ∃ E, E = entriesS ts K := ⟨_, rfl⟩
           rw [hEl, ← hE] at ho4
           have HO4 := Lib.hid (ho4.mono (base' := Wd.heap.size) (Nat.le_refl _))
           have HEE := Lib.hid hE
           rw [← hE]
           clear ho4 hEl hE HJ3 HS3 HK3
           by_cases h1 : 1 < E.length
           · have h1' : (1 : Int) < (E.length : Int) := by omega
             have HE : Hid (stP ts f inn (dn ++ [x]) = (diffS (stP ts f inn dn).1 K, (stP ts f inn dn).2 ++ [⟨K, 3, -1⟩])) := by
              rw [Hid, stP_snoc, stepP, ← HKK.out, ← HLB.out, ← HKB.out, Bool.true_and, if_pos rfl, ← HEE.out, if_pos h1]
             have hb5 : (L ++ (stP ts f inn dn).2).length + 1 ≤ 1000 := by
              have q1 := stP_len ts f inn r (dn ++ [x])
              rw [HE.out] at q1
              have q2 : dn ++ [x] ++ r = listS inn := by rw [HD.out]; simp
              rw [q2] at q1
              have q3 := HLEN.out
              have q4 : loopsP ts (f + 1) inn = (stP ts f inn (listS inn)).2 := rfl
              rw [q4] at q3
              simp at q1 ⊢
              omega
             obtain ⟨v5, j0, j1, j2, j3, j4, jc, jv⟩ := HJ4.out
             obtain ⟨a5, c5, hv5⟩ := OwnR.form j0.parts
             obtain ⟨n5, hn5⟩ : ∃ n, n = (L ++ (stP ts f inn dn).2).length := ⟨_, rfl⟩
             rw [← hn5] at hv5
             subst hv5
             have hS5 : (Value.slice a5 n5 c5).ownBlock ≠ some S7 := own_other j0.parts.1 HS4.out (by decide)
             have g1 : ∀ n : ClsW (fun W' => w4.grownBy W' (Value.slice a5 n5 c5).ownBlock), n.val.cell? ⟨w.heap.size, 0, none⟩ = some (.pointer (some ⟨P, 0, none⟩)) := fun n => by rw [cell_of_row _ _ _ _ _ _ (grown_row n.prop j1 (own_other j0.parts.1 j1 (by decide)))]; rfl
             have g2 : ∀ n : ClsW (fun W' => w4.grownBy W' (Value.slice a5 n5 c5).ownBlock), n.val.cell? ⟨P, 4, none⟩ = some (.slice a5 n5 c5) := fun n => by rw [cell_of_row _ _ _ _ _ _ (grown_row n.prop j0.bld (own_other j0.parts.1 j0.bld (by decide)))]; rfl
             have g3 : ∀ w', (∃ n : ClsW (fun W' => w4.grownBy W' (Value.slice a5 n5 c5).ownBlock), w' = n.val) → w'.heap[S7]? = some (setO K) := fun w' ⟨n, e⟩ => by rw [e]; exact grown_row n.prop HS4.out hS5
             have hne : Nonempty (ClsW (fun W' => w4.grownBy W' (Value.slice a5 n5 c5).ownBlock)) := cls_ne (grown_same _ _)
             have J0 := Lib.hid (j0.ext' (drew_ext w4))
             have hown4 : w4.drew.ownsRow base 99 202 (.slice a5 n5 c5) n5 ((L ++ (stP ts f inn dn).2).flatMap partC) := by have := J0.out.parts.1; rwa [← hn5] at this
             have HOWN4 := Lib.hid hown4
             have JV := Lib.hid jv
             have HN5 := Lib.hid hn5
             have hbs := J0.out.bs
             have hn1000 : n5 + 1 ≤ 1000 := by omega
             clear j0 j1 j2 j3 j4 jc jv hown4 hn5
             gi_wp2
             refine round_mix (fun w' => ∃ n : ClsW (fun W' => w4.grownBy W' (Value.slice a5 n5 c5).ownBlock), w' = n.val) [(0, 7, some (7, true)), (8, 0, some (8, true)), (9, 2, some (11, false))] (by kernel_rfl) (by kernel_rfl) (by kernel_rfl) (by repeat (first | exact noOut_round | refine noOut_then ?_ | refine noOut_block ?_)) (cls_mk (grown_drew _ _)) ?_
             simp only [wpMix, List.take_succ_cons, List.take_zero, List.drop_succ_cons, List.drop_zero]
             repeat (first
              | go_big_quiet_skip
              | (refine wpQuiet_load_row (o := ⟨some 47, .load 78 _, _, _, _, _⟩) (by rfl) 78 _ rfl S7 rfl 78 (setA K) (0, 0) _ g3 Try.underlying78 rfl (by rw [setA_size]; exact size_set) ?_; simp only [put_some, List.setIfInBounds_toArray, List.set_cons_succ, List.set_cons_zero])
              | (refine quiet_part (o := ⟨some 48, .build 99 _, _, _, _, _⟩) (by rfl) _ _ _ K 3 (-1) rfl rfl rfl rfl ?_; simp only [put_some, List.setIfInBounds_toArray, List.set_cons_succ, List.set_cons_zero])
              | go_big_quiet_step (fail))
             refine wpQuiet_nil ?_
             refine wpOp_at rfl rfl ?_
             refine op_rowPart _ ⟨K, 3, (-1)⟩ rfl rfl ?_
             simp only [put_some, List.setIfInBounds_toArray, List.set_cons_succ, List.set_cons_zero]
             refine ⟨cls_mk (grown_tr (grown_drew _ _) (World.grownBy_alloc _ _ _)), ?_⟩
             refine wpQuiet_nil ?_
             refine wpOp_at rfl rfl ?_
             refine op_append1 w4.drew (.tmp 46) (.tmp 49) 92 99 rfl base _ 202 216 Try.underlying92 infoPart (by kernel_rfl) (by omega) (.slice a5 n5 c5) n5 _ (partC ⟨K, 3, (-1)⟩) rfl HOWN4.out w4.heap.size rfl rfl (partC_len _) (partC_one _) (by simp only [maxLen]; omega) (by omega) hbs ?_
             intro g cap w5 hown5 hg5 hat5
             have hP5 : w5.heap[P]? = some (bldO d (.slice a5 n5 c5)) := grown_row hg5 J0.out.bld (own_other HOWN4.out J0.out.bld (by decide))
             have hf5 : w5.frozen? ⟨P, 4, none⟩ = false := frozen_of_row _ _ _ _ _ hP5
             have hl5 := lt_of_heap hP5
             have hc5 : w5.cell? ⟨P, 4, none⟩ = some (.slice a5 n5 c5) := by rw [cell_of_row _ _ _ _ _ _ hP5]; rfl
             have hgg : w4.grownBy w5 (Value.slice a5 n5 c5).ownBlock := grown_tr (grown_drew _ _) hg5
             have happ := J0.out.app (M := [⟨K, 3, (-1)⟩]) hg5 (by rw [← HN5.out]; simpa using hown5) (by rw [← HN5.out]; simp; omega)
             have hJN := LoJ.app (st := (diffS (stP ts f inn dn).1 K, (stP ts f inn dn).2)) HLF J0.out ((LoJ.steady (Nat.le_refl _) hw0).ext HJ4.out (drew_ext w4)) JV.out happ.1 happ.2 (fun q hq => by
              simp only [Value.ownBlock, Option.some.injEq] at hq
              subst hq
              rcases hat5 with h | h
              · exact .inl h.symm
              · exact .inr (by rw [h]; exact Nat.le_succ _))
             have HBN5 := Lib.hid happ.1
             have HJN := Lib.hid hJN
             have HKN : Hid (Keep W (w5.setCell ⟨P, 4, none⟩ (.slice (some ⟨g, 0, none⟩) (n5 + 1) cap))) := HK4.out.trans ((Keep.grown hgg (fun q o e ho => by
              rcases HOWN4.out.2 with ⟨h, _⟩ | ⟨g', cap', cur, h, _, hg', _⟩
              · rw [h] at e; cases e
              · rw [h] at e
                simp only [Value.ownBlock, Option.some.injEq] at e
                subst e
                have ho' : w4.drew.heap[g']? = some o := ho
                rw [hg'] at ho'
                cases ho'
                rfl)).trans (Keep.setCell _ _ _))
             have HAT : Hid (some g = (Value.slice a5 n5 c5).ownBlock ∨ g = w4.heap.size + 1) := hat5
             have HGG := Lib.hid hgg
             refine ⟨cls_mk hgg, ?_⟩
             simp only [put_some, List.setIfInBounds_toArray, List.set_cons_succ, List.set_cons_zero]
             clear hown5 hg5 hat5 hgg happ hJN hP5 g1 g2 g3
             repeat (go_big_quiet_step (fail))
             refine wpQuiet_nil ?_
             refine wpOp_at rfl rfl ?_
             go_simp
             refine NoPanic.normal ?_
             gi_wp2
             exact ⟨HKN.out, by rw [HE.out]; exact HJN⟩
           · have h1' : ¬ (1 : Int) < (E.length : Int) := by omega
             have hlow : ∀ y, K y = true → 1 ≤ y ∧ y < ts.length := fun y hy => by
              rw [HKK.out] at hy
              obtain ⟨x', _, hx'⟩ := reach_step ((knot_iff HC.out x y).1 hy).2.1
              exact good_nx (fits_facts HF.out).1 hx'
             have hE1 : E = [E.headD 0] := by
              have h0 := entered HF.out HCK.out (y := x) HKB.out.symm hlow
              rw [← HEE.out] at h0
              exact entries_one h0 h1
             obtain ⟨e0, he0⟩ : ∃ e0, e0 = E.headD 0 := ⟨_, rfl⟩
             rw [← he0] at hE1
             have heK : K e0 = true := ((mem_entries HCK.out e0).1 (by rw [← HEE.out, hE1]; simp)).1
             have he200 : e0 < 200 := HCK.out e0 heK
             have HE : Hid (stP ts f inn (dn ++ [x]) = (diffS (stP ts f inn dn).1 K, (stP ts f inn dn).2 ++ ⟨K, 2, (e0 : Int)⟩ :: loopsP ts f (lessS K e0))) := by
              rw [Hid, stP_snoc, stepP, ← HKK.out, ← HLB.out, ← HKB.out, Bool.true_and, if_pos rfl, ← HEE.out, if_neg h1, ← he0]
             have hb6 : (L ++ (stP ts f inn dn).2).length + 1 + (loopsP ts f (lessS K e0)).length ≤ 1000 := by
              have q1 := stP_len ts f inn r (dn ++ [x])
              rw [HE.out] at q1
              have q2 : dn ++ [x] ++ r = listS inn := by rw [HD.out]; simp
              rw [q2] at q1
              have q3 := HLEN.out
              have q4 : loopsP ts (f + 1) inn = (stP ts f inn (listS inn)).2 := rfl
              rw [q4] at q3
              simp at q1 ⊢
              omega
             have HB6 := Lib.hid hb6
             have hb5 : (L ++ (stP ts f inn dn).2).length + 1 ≤ 1000 := by omega
             have hl1 : E.length = 1 := by rw [hE1]; rfl
             have ho4 := HO4.out
             rw [hl1, hE1] at ho4
             rw [hl1]
             have HLOW := Lib.hid hlow
             clear HO4 hE1 he0 hlow hb6 h1
             obtain ⟨g4, hav, cur4, HG4, HC4⟩ : ∃ g4, av = some ⟨g4, 0, none⟩ ∧ (∃ cur4, Hid (w4.heap[g4]? = some (.cells cur4 3 (0, 0))) ∧ Hid (cur4[0]? = some (.int .i64 (e0 : Int)))) := by
              rcases ho4.1.2 with ⟨h, _⟩ | ⟨g4, cap4, cur4, h, _, hg4, hcap1, _, hcs, htk⟩
              · cases h
              · injection h with h1 h2 h3
                refine ⟨g4, h1, cur4, hg4, ?_⟩
                have : (cur4.toList.take 1)[0]? = some (.int .i64 (e0 : Int)) := by
                 simp only [intsN, intVals, List.map_cons, List.map_nil, List.length_cons, List.length_nil] at htk
                 exact congrArg (fun (l : List Value) => l[0]?) htk
                rw [List.getElem?_take] at this
                simpa [Hid] using this
             subst hav
             have HO4 := Lib.hid ho4
             clear ho4
             obtain ⟨v5, j0, j1, j2, j3, j4, jc, jv⟩ := HJ4.out
             obtain ⟨a5, c5, hv5⟩ := OwnR.form j0.parts
             obtain ⟨n5, hn5⟩ : ∃ n, n = (L ++ (stP ts f inn dn).2).length := ⟨_, rfl⟩
             rw [← hn5] at hv5
             subst hv5
             have hS5 : (Value.slice a5 n5 c5).ownBlock ≠ some S7 := own_other j0.parts.1 HS4.out (by decide)
             have g1 : ∀ n : ClsW (fun W' => w4.grownBy W' (Value.slice a5 n5 c5).ownBlock), n.val.cell? ⟨w.heap.size, 0, none⟩ = some (.pointer (some ⟨P, 0, none⟩)) := fun n => by rw [cell_of_row _ _ _ _ _ _ (grown_row n.prop j1 (own_other j0.parts.1 j1 (by decide)))]; rfl
             have g2 : ∀ n : ClsW (fun W' => w4.grownBy W' (Value.slice a5 n5 c5).ownBlock), n.val.cell? ⟨P, 4, none⟩ = some (.slice a5 n5 c5) := fun n => by rw [cell_of_row _ _ _ _ _ _ (grown_row n.prop j0.bld (own_other j0.parts.1 j0.bld (by decide)))]; rfl
             have g3 : ∀ w', (∃ n : ClsW (fun W' => w4.grownBy W' (Value.slice a5 n5 c5).ownBlock), w' = n.val) → w'.heap[S7]? = some (setO K) := fun w' ⟨n, e⟩ => by rw [e]; exact grown_row n.prop HS4.out hS5
             have hne4 : (Value.slice a5 n5 c5).ownBlock ≠ some g4 := own_other j0.parts.1 HG4.out (by decide)
             have g4' : ∀ n : ClsW (fun W' => w4.grownBy W' (Value.slice a5 n5 c5).ownBlock), n.val.cell? ⟨g4, 0, none⟩ = some (.int .i64 (e0 : Int)) := fun n => by rw [cell_of_row _ _ _ _ _ _ (grown_row n.prop HG4.out hne4)]; exact HC4.out
             have hne : Nonempty (ClsW (fun W' => w4.grownBy W' (Value.slice a5 n5 c5).ownBlock)) := cls_ne (grown_same _ _)
             have J0 := Lib.hid (j0.ext' (drew_ext w4))
             have hown4 : w4.drew.ownsRow base 99 202 (.slice a5 n5 c5) n5 ((L ++ (stP ts f inn dn).2).flatMap partC) := by have := J0.out.parts.1; rwa [← hn5] at this
             have HOWN4 := Lib.hid hown4
             have JV := Lib.hid jv
             have HN5 := Lib.hid hn5
             have hbs := J0.out.bs
             have hn1000 : n5 + 1 ≤ 1000 := by omega
             clear j0 j1 j2 j3 j4 jc jv hown4 hn5
             gi_wp2
             refine round_mix (fun w' => ∃ n : ClsW (fun W' => w4.grownBy W' (Value.slice a5 n5 c5).ownBlock), w' = n.val) [(0, 10, some (10, true)), (11, 0, some (11, true)), (12, 2, some (14, false))] (by kernel_rfl) (by kernel_rfl) (by kernel_rfl) (by repeat (first | exact noOut_round | refine noOut_then ?_ | refine noOut_block ?_)) (cls_mk (grown_drew _ _)) ?_
             simp only [wpMix, List.take_succ_cons, List.take_zero, List.drop_succ_cons, List.drop_zero]
             repeat (first
              | go_big_quiet_skip
              | (refine wpQuiet_load_row (o := ⟨some 58, .load 78 _, _, _, _, _⟩) (by rfl) 78 _ rfl S7 rfl 78 (setA K) (0, 0) _ g3 Try.underlying78 rfl (by rw [setA_size]; exact size_set) ?_; simp only [put_some, List.setIfInBounds_toArray, List.set_cons_succ, List.set_cons_zero])
              | (refine quiet_part (o := ⟨some 62, .build 99 _, _, _, _, _⟩) (by rfl) _ _ _ K 2 (e0 : Int) rfl rfl rfl rfl ?_; simp only [put_some, List.setIfInBounds_toArray, List.set_cons_succ, List.set_cons_zero])
              | go_big_quiet_step (fail))
             refine wpQuiet_nil ?_
             refine wpOp_at rfl rfl ?_
             refine op_rowPart _ ⟨K, 2, (e0 : Int)⟩ rfl rfl ?_
             simp only [put_some, List.setIfInBounds_toArray, List.set_cons_succ, List.set_cons_zero]
             refine ⟨cls_mk (grown_tr (grown_drew _ _) (World.grownBy_alloc _ _ _)), ?_⟩
             refine wpQuiet_nil ?_
             refine wpOp_at rfl rfl ?_
             refine op_append1 w4.drew (.tmp 57) (.tmp 63) 92 99 rfl base _ 202 216 Try.underlying92 infoPart (by kernel_rfl) (by omega) (.slice a5 n5 c5) n5 _ (partC ⟨K, 2, (e0 : Int)⟩) rfl HOWN4.out w4.heap.size rfl rfl (partC_len _) (partC_one _) (by simp only [maxLen]; omega) (by omega) hbs ?_
             intro g cap w5 hown5 hg5 hat5
             have hP5 : w5.heap[P]? = some (bldO d (.slice a5 n5 c5)) := grown_row hg5 J0.out.bld (own_other HOWN4.out J0.out.bld (by decide))
             have hf5 : w5.frozen? ⟨P, 4, none⟩ = false := frozen_of_row _ _ _ _ _ hP5
             have hl5 := lt_of_heap hP5
             have hc5 : w5.cell? ⟨P, 4, none⟩ = some (.slice a5 n5 c5) := by rw [cell_of_row _ _ _ _ _ _ hP5]; rfl
             have hgg : w4.grownBy w5 (Value.slice a5 n5 c5).ownBlock := grown_tr (grown_drew _ _) hg5
             have happ := J0.out.app (M := [⟨K, 2, (e0 : Int)⟩]) hg5 (by rw [← HN5.out]; simpa using hown5) (by rw [← HN5.out]; simp; omega)
             have hJN := LoJ.app (st := (diffS (stP ts f inn dn).1 K, (stP ts f inn dn).2)) HLF J0.out ((LoJ.steady (Nat.le_refl _) hw0).ext HJ4.out (drew_ext w4)) JV.out happ.1 happ.2 (fun q hq => by
              simp only [Value.ownBlock, Option.some.injEq] at hq
              subst hq
              rcases hat5 with h | h
              · exact .inl h.symm
              · exact .inr (by rw [h]; exact Nat.le_succ _))
             have HBN5 := Lib.hid happ.1
             have HJN := Lib.hid hJN
             have HKN : Hid (Keep W (w5.setCell ⟨P, 4, none⟩ (.slice (some ⟨g, 0, none⟩) (n5 + 1) cap))) := HK4.out.trans ((Keep.grown hgg (fun q o e ho => by
              rcases HOWN4.out.2 with ⟨h, _⟩ | ⟨g', cap', cur, h, _, hg', _⟩
              · rw [h] at e; cases e
              · rw [h] at e
                simp only [Value.ownBlock, Option.some.injEq] at e
                subst e
                have ho' : w4.drew.heap[g']? = some o := ho
                rw [hg'] at ho'
                cases ho'
                rfl)).trans (Keep.setCell _ _ _))
             have HAT : Hid (some g = (Value.slice a5 n5 c5).ownBlock ∨ g = w4.heap.size + 1) := hat5
             have HGG := Lib.hid hgg
             refine ⟨cls_mk hgg, ?_⟩
             simp only [put_some, List.setIfInBounds_toArray, List.set_cons_succ, List.set_cons_zero]
             clear hown5 hg5 hat5 hgg happ hJN hP5 g1 g2 g3 g4'
             repeat (go_big_quiet_step (fail))
             refine wpQuiet_nil ?_
             refine wpOp_at rfl rfl ?_
             go_simp
             refine NoPanic.normal ?_
             have HS5 := Lib.hid hS5
             have hP7 : P ≠ S7 := by omega
             have hS6 : (w5.setCell ⟨P, 4, none⟩ (.slice (some ⟨g, 0, none⟩) (n5 + 1) cap)).heap[S7]? = some (setO K) := grown_row (grown_setCell w5 P 4 _) (grown_row HGG.out HS4.out hS5) (fun e => by injection e with e; omega)
             have hP4 : P ≠ g4 := by
              intro e
              have h5 := HG4.out
              rw [← e] at h5
              have h6 := J0.out.bld
              have h7 : w4.drew.heap[P]? = some (.cells cur4 3 (0, 0)) := h5
              rw [h6] at h7
              injection h7 with h7
              injection h7 with _ h7 _
              exact absurd h7 (by decide)
             have hg6 : (w5.setCell ⟨P, 4, none⟩ (.slice (some ⟨g, 0, none⟩) (n5 + 1) cap)).heap[g4]? = some (.cells cur4 3 (0, 0)) := grown_row (grown_setCell w5 P 4 _) (grown_row HGG.out HG4.out hne4) (fun e => by injection e with e; exact hP4 e)
             clear hc5 hf5 hl5 HGG hS5
             generalize w5.setCell ⟨P, 4, none⟩ (.slice (some ⟨g, 0, none⟩) (n5 + 1) cap) = w6 at *
             obtain ⟨v6, hv6⟩ : ∃ v6, v6 = Value.slice (some ⟨g, 0, none⟩) (n5 + 1) cap := ⟨_, rfl⟩
             have hv6o : ∀ q, v6.ownBlock = some q → v.ownBlock = some q ∨ w.heap.size + 1 + 1 + 1 < q := fun q hq => by
              rw [hv6] at hq
              simp only [Value.ownBlock, Option.some.injEq] at hq
              subst hq
              rcases HAT.out with h | h
              · exact JV.out g h.symm
              · right
                have := lt_of_heap HS4.out
                omega
             rw [← hv6] at HBN5
             have HV6 := Lib.hid hv6o
             clear hv6o
             have hj6 := HJN.out
             obtain ⟨v9, q0, q1, _⟩ := hj6
             have g1 : ∀ n : ExtW w6, n.val.cell? ⟨w.heap.size, 0, none⟩ = some (.pointer (some ⟨P, 0, none⟩)) := ExtW.cell (by rw [cell_of_row _ _ _ _ _ _ q1]; rfl)
             have g3 : ∀ w', (∃ n : ExtW w6, w' = n.val) → w'.heap[S7]? = some (setO K) := fun w' ⟨n, e⟩ => by rw [e]; exact block_ext n.ext hS6
             have g4' : ∀ n : ExtW w6, n.val.cell? ⟨g4, 0, none⟩ = some (.int .i64 (e0 : Int)) := ExtW.cell (by rw [cell_of_row _ _ _ _ _ _ hg6]; exact HC4.out)
             clear q0 q1 hS6 hg6
             gi_wp2
             refine round_mix (fun w' => ∃ n : ExtW w6, w' = n.val) [(0, 5, some (5, true)), (6, 0, some (6, false))] (by kernel_rfl) (by kernel_rfl) (by kernel_rfl) (by repeat (first | exact noOut_round | refine noOut_then ?_ | refine noOut_block ?_)) ⟨⟨_, ext_drewN (Below.refl _ _) 1⟩, rfl⟩ ?_
             simp only [wpMix, List.take_succ_cons, List.take_zero, List.drop_succ_cons, List.drop_zero]
             repeat (first
              | go_big_quiet_skip
              | (refine wpQuiet_load_row (o := ⟨some 68, .load 78 _, _, _, _, _⟩) (by rfl) 78 _ rfl S7 rfl 78 (setA K) (0, 0) _ g3 Try.underlying78 rfl (by rw [setA_size]; exact size_set) ?_; simp only [put_some, List.setIfInBounds_toArray, List.set_cons_succ, List.set_cons_zero])
              | go_big_quiet_step (fail))
             refine wpQuiet_nil ?_
             clear g1 g3 g4'
             refine wpOp_at rfl rfl ?_
             go_simp
             refine (less_any K e0 he200 w6.drew).mono ?_
             rintro e w7 ⟨rfl, hb7⟩
             have hb7 := unDrew1 hb7
             refine ⟨⟨⟨w7, hb7⟩, rfl⟩, ?_⟩
             refine wpQuiet_nil ?_
             refine wpOp_at rfl rfl ?_
             have hJ7 := (LoJ.steady (Nat.le_refl _) hw0).ext HJN.out hb7
             have hB7 : BldJ W0 d P base v6 (L ++ ((stP ts f inn dn).2 ++ [⟨K, 2, (e0 : Int)⟩])) w7 := by rw [← List.append_assoc]; exact HBN5.out.ext' hb7
             have hcall := IH.out (lessS K e0) v6 (L ++ ((stP ts f inn dn).2 ++ [⟨K, 2, (e0 : Int)⟩])) w7 (less_canon HCK.out e0) (fun y hy => (HLOW.out y (mem_less.1 hy).2).2) (by have := HB6.out; simp at this ⊢; omega)
              (by
                have h5 := less_len (s := K) (inn := inn) (e := e0) (fun y hy => by rw [HKK.out] at hy; exact ((knot_iff HC.out x y).1 hy).2.1.inn) HC.out heK
                have := HLT.out
                omega) hB7
             have HCALL := Lib.hid hcall
             have HJ7 := Lib.hid hJ7
             have HB7 := Lib.hid hB7
             have HBB7 := Lib.hid hb7
             clear hcall hJ7 hB7 hb7
             go_simp
             refine HCALL.out.mono ?_
             rintro e w8 ⟨rfl, v8, k0, kc, kv⟩
             have hJ8 := LoJ.app (st := (diffS (stP ts f inn dn).1 K, (stP ts f inn dn).2 ++ [⟨K, 2, (e0 : Int)⟩])) HLF HB7.out HJ7.out HV6.out k0 kc kv
             have HJ8 := Lib.hid hJ8
             have HK8 := Lib.hid ((HKN.out.trans (Keep.ext HBB7.out)).trans (HB7.out.keep kc))
             clear hJ8 k0 kc kv
             refine NoPanic.normal ?_
             gi_wp2
             refine ⟨HK8.out, ?_⟩
             rw [HE.out]
             have h9 := HJ8.out
             simp only [List.append_assoc, List.cons_append, List.nil_append] at h9
             exact h9
   case done =>
    rintro D W hD hJ hK
    have HJD := Lib.hid ((LoJ.steady (D := w.heap.size) (Nat.le_refl _) hw0).put (.deferred none) (l := D) hJ.out (by omega) hK rfl)
    have HKD := Lib.hid hK
    clear hJ
    gi_wp2
    refine ⟨by simp, .inl ⟨_, _, rfl, run_takeDeferred HKD.out, ?_⟩⟩
    obtain ⟨v9, j0, _, _, _, _, jc, jv⟩ := HJD.out
    refine ⟨.tuple #[], by simp [results, Try.results50, go_sem], rfl, v9, ?_, jc, fun q hq => ?_⟩
    · exact j0
    · rcases jv q hq with h | h
      · exact .inl h
      · exact .inr (by omega)
   case stop => rintro D c W hD h; exact h.elim
end
end Go.Proofs.Ytblhmdhfhaencaa
