/-
 The document's answer to layer 17: is a set in another one. (Printed by gen_in17.py.)
-/
import Derived.Test.YtblhmdhfhaencaaGreatRJ
import Derived.Test.YtblhmdhfhaencaaGreatDA
import Derived.Test.YtblhmdhfhaencaaGreatCC
import Derived.Test.YtblhmdhfhaencaaGreatEA
import Derived.Test.YtblhmdhfhaencaaGreatRC
namespace Go.Proofs.YtblhmdhfhaencaaGreat
set_option linter.unusedSimpArgs false
set_option linter.unusedVariables false
set_option linter.unusedSectionVars false
set_option maxRecDepth 100000
set_option maxHeartbeats 40000000
section
open Go.RowKit
attribute [local go_sem] Oper.semAt_some wide_fn wide_depth wide_fnR wide_depthR
theorem rangeAt_ext {w w' : World} (hb : Below w.heap.size w w') {B q : Nat} {cs : List Value} (h : w.rangeAt B q cs) : w'.rangeAt B q cs := fun k v hk => cell_ext hb (h k v hk)
theorem in17_any (f g : Nat → Bool) (w : World) : Calls Tryz.prog 77 #[.agg (setA f), .agg (setA g)] w fun e w' => e = .returned (.bool (withinB f g)) ∧ Below w.heap.size w w' := by
 go_enter Tryz.func77, Tryz.ntmps77
 go_upto_region 1 with (fail)
 obtain ⟨W, hW⟩ : ∃ W, W = (w.alloc (rsetO f)).alloc (rsetO g) := ⟨_, rfl⟩
 rw [← hW]
 have h0 : W.heap[w.heap.size]? = some (rsetO f) := by rw [hW, Below.heap_alloc _ _ _ (by simp)]; exact heap_alloc_new _ _
 have h1 : W.heap[w.heap.size + 1]? = some (rsetO g) := by rw [hW, heap_at _ _ _ (by simp)]
 have hB : Below w.heap.size w W := by rw [hW]; exact (ext_alloc _ _).alloc (by simp) _
 have HH := Lib.hid (And.intro h0 (And.intro h1 hB))
 clear hW h0 h1 hB
 go_wp2
 go_loopw [5] (fun s5 wr => ∃ k : Nat, k ≤ 200 ∧ s5 = .int .i64 (k : Int) ∧ Hid (∀ i, i < k → f i = true → g i = true) ∧ Hid (wr = W)) (fun s5 _ => 200 - (intOf s5).toNat)
 case atStart => exact ⟨0, by omega, rfl, fun i hi => absurd hi (by omega), rfl⟩
 case round =>
  obtain ⟨k, hk, rfl, HR, HW⟩ := hrel;have H0 : Hid (wr.heap[w.heap.size]? = some (rsetO f)) := by rw [HW.out]; exact HH.out.1
  have H1 : Hid (wr.heap[w.heap.size + 1]? = some (rsetO g)) := by rw [HW.out]; exact HH.out.2.1
  have HB : Hid (Below w.heap.size w wr) := by rw [HW.out]; exact HH.out.2.2
  by_cases hlt : k < 200
  · have hlt' : (k : Int) < 200 := by omega
    have c0 := rset_cell H0.out k hlt;have c1 := rset_cell H1.out k hlt;obtain ⟨fb, hfb⟩ : ∃ b, b = f k := ⟨_, rfl⟩
    obtain ⟨gb, hgb⟩ : ∃ b, b = g k := ⟨_, rfl⟩
    rw [← hfb] at c0;rw [← hgb] at c1;have HFB := Lib.hid hfb;have HGB := Lib.hid hgb;clear hfb hgb;cases fb with
    | false =>
      have HN : Hid (∀ i, i < k + 1 → f i = true → g i = true) := fun i hi hf => by
       rcases Nat.lt_or_ge i k with h | h
       · exact HR.out i h hf
       · obtain rfl : i = k := by omega
         rw [← HFB.out] at hf; cases hf
      go_wp2
      go_roundw
      case rel => exact ⟨k + 1, by omega, by go_num, HN, HW⟩
      case measure => simp [intOf]; omega
    | true =>
      cases gb with
      | false =>
        have HE : Hid (withinB f g = false) := in_no hlt HFB.out.symm HGB.out.symm;go_wp2
        go_ret
        exact ⟨by rw [HE.out]; rfl, HB.out⟩
      | true =>
        have HN : Hid (∀ i, i < k + 1 → f i = true → g i = true) := fun i hi hf => by
         rcases Nat.lt_or_ge i k with h | h
         · exact HR.out i h hf
         · obtain rfl : i = k := by omega
           exact HGB.out.symm
        go_wp2
        go_roundw
        case rel => exact ⟨k + 1, by omega, by go_num, HN, HW⟩
        case measure => simp [intOf]; omega
  · obtain rfl : k = 200 := by omega
    have HE : Hid (withinB f g = decide (cntS f 200 < cntS g 200)) := by
     rw [Hid, in_end HR.out];have e : ∀ h : Nat → Bool, cntS h 200 = (listS h).length := fun _ => rfl;rw [e, e]
    clear HR;go_upto_region 6 with (fail)
    refine region_free 5 [some 19, some 20, some 21, some 22, some 23] (by kernel_rfl) (by kernel_rfl) (specB [.val (.agg (setA f)), .val (.int .i64 (cntS f 200 : Nat)), .val (.agg (setA g)), .val (.int .i64 (cntS g 200 : Nat)), .val (.bool (decide (cntS f 200 < cntS g 200)))]) (specB_mono ?_) ?_ ?_
    · intro k hk;simp only [List.mem_cons, List.not_mem_nil, or_false] at hk;rcases hk with rfl | rfl | rfl | rfl | rfl
      · exact trivial
      · exact trivial
      · exact trivial
      · exact trivial
      · exact trivial
    · intro i hi ν lo hi' w1 K hB hD hK;have hcase : i = 0 ∨ i = 1 ∨ i = 2 ∨ i = 3 ∨ i = 4 := by omega
      clear hi;rcases hcase with rfl | rfl | rfl | rfl | rfl
      · clear hD;refine wpOp_atK rfl rfl ?_;simp only [zA,zB,zC,zD,zE,zF,zJ,zK,zG,zH,zI] at hK ⊢;refine wp_load_row 107 _ rfl w.heap.size rfl 107 _ (0, 0) _ (block_ext hB H0.out) Tryz.underlying107 rfl (by rw [setA_size]; exact size_rset) ?_;exact hK _ _ (Below.refl _ _) rfl
      · have e0 := hD 0 (by kernel_rfl)
        replace e0 : ν 0 = (.agg (setA f)) := e0
        clear hD;refine wpOp_atK rfl rfl ?_;simp only [zA,zB,zC,zD,zE,zF,zJ,zK,zG,zH,zI, e0] at hK ⊢;go_simp;refine (many17_any f w1).mono ?_;rintro e w3 ⟨rfl, hb3⟩;exact hK _ _ hb3 rfl
      · clear hD;refine wpOp_atK rfl rfl ?_;simp only [zA,zB,zC,zD,zE,zF,zJ,zK,zG,zH,zI] at hK ⊢;refine wp_load_row 107 _ rfl (w.heap.size + 1) rfl 107 _ (0, 0) _ (block_ext hB H1.out) Tryz.underlying107 rfl (by rw [setA_size]; exact size_rset) ?_;exact hK _ _ (Below.refl _ _) rfl
      · have e1 := hD 1 (by kernel_rfl)
        replace e1 : ν 1 = (.int .i64 (cntS f 200 : Nat)) := e1
        have e2 := hD 2 (by kernel_rfl)
        replace e2 : ν 2 = (.agg (setA g)) := e2
        clear hD;refine wpOp_atK rfl rfl ?_;simp only [zA,zB,zC,zD,zE,zF,zJ,zK,zG,zH,zI, e1, e2] at hK ⊢;go_simp;refine (many17_any g w1).mono ?_;rintro e w3 ⟨rfl, hb3⟩;exact hK _ _ hb3 rfl
      · have e1 := hD 1 (by kernel_rfl)
        replace e1 : ν 1 = (.int .i64 (cntS f 200 : Nat)) := e1
        have e3 := hD 3 (by kernel_rfl)
        replace e3 : ν 3 = (.int .i64 (cntS g 200 : Nat)) := e3
        clear hD;refine wpOp_atK rfl rfl ?_;simp only [zA,zB,zC,zD,zE,zF,zJ,zK,zG,zH,zI, e1, e3] at hK ⊢;go_simp;exact hK _ _ (Below.refl _ _) rfl
    · intro ν lo hi w1 hB hS hI hD;have e0 : ν 0 = (.agg (setA f)) := hS 0 (by omega);have e1 : ν 1 = (.int .i64 (cntS f 200 : Nat)) := hS 1 (by omega);have e2 : ν 2 = (.agg (setA g)) := hS 2 (by omega);have e3 : ν 3 = (.int .i64 (cntS g 200 : Nat)) := hS 3 (by omega);have e4 : ν 4 = (.bool (decide (cntS f 200 < cntS g 200))) := hS 4 (by omega);clear hS;simp only [List.drop_succ_cons, List.drop_zero, zA,zB,zC,zD,zE,zF,zJ,zK,zG,zH,zI, e0, e1, e2, e3, e4];have HBE := Lib.hid (ext_trans HB.out hB);clear hI hD hB e0 e1 e2 e3 e4;go_wp2
      go_ret
      exact ⟨by rw [HE.out]; rfl, HBE.out⟩
end

section
open Go.RowKit
attribute [local go_sem] Oper.semAt_some wide_fn wide_depth wide_fnR wide_depthR
theorem eql_rset (w : World) (f g : Nat → Bool) : (binOp .eql 107 (.agg (setA f)) (.agg (setA g))).run Tryz.prog w = .ok (.bool (eqS f g)) w := by
 rw [run_eql_struct, equal_rset]
 rfl
theorem around_stepC {ts : List TermD} {L : List PartD} (hl : ts.length ≤ 200) (P : PartsOK ts L) {i k : Nat} (hi : i < L.length) (hk : k < L.length) :
  aroundP (L.take (i + 1)) (L.getD k zPart) = aroundP (L.take i) (L.getD k zPart) + (if withinB (L.getD k zPart).s (L.getD i zPart).s then 1 else 0) := by
 rw [take_stepP L hi, aroundP, aroundP, List.filter_append, List.length_append]
 generalize L.getD k zPart = x
 generalize L.getD i zPart = y
 cases hw : withinB x.s y.s <;> simp [hw]
theorem depth17_any (a : Option Addr) (n c base : Nat) (ts : List TermD) (hl : ts.length ≤ 200) (L : List PartD) (P : PartsOK ts L) (k : Nat) (hk : k < n) (w : World) (h : PtsIn w base (.slice a n c) L) (hn : n ≤ 1000) :
  Calls Tryz.prog 75 #[.slice a n c, .int .i64 (k : Int)] w fun e w' => e = .returned (.int .i64 (aroundP L (L.getD k zPart) : Nat)) ∧ Below w.heap.size w w' := by
 have hlen : L.length = n := by
  obtain ⟨_, _, e⟩ := OwnR.form h;injection e with _ e _;exact e.symm
 have hform : ∃ g, a = some ⟨g, 0, none⟩ := by
  obtain ⟨g, c', e⟩ := own_form h.1 (by omega);injection e with e _ _;exact ⟨g, e⟩
 obtain ⟨gg, rfl⟩ := hform
 have HL := Lib.hid h
 have HP := Lib.hid P
 have HLN := Lib.hid hlen
 clear h P hlen
 go_enter Tryz.func75, Tryz.ntmps75
 go_wp2
 go_loopw [5, 6] (fun s5 s6 wr => ∃ j : Nat, j ≤ n ∧ s6 = .int .i64 (j : Int) ∧ s5 = .int .i64 (aroundP (L.take j) (L.getD k zPart) : Nat) ∧ Hid (Below w.heap.size w wr)) (fun _ s6 _ => n - (intOf s6).toNat)
 case atStart => exact ⟨0, by omega, rfl, by simp [aroundP], Below.refl _ _⟩
 case round =>
  obtain ⟨j, hj, rfl, rfl, HB⟩ := hrel;by_cases hlt : j < n
  · have hlt' : (j : Int) < (n : Int) := by omega
    have HLr : Hid (PtsIn wr base (.slice (some ⟨gg, 0, none⟩) n c) L) := PtsIn.ext HL.out HB.out;obtain ⟨ck, rk, _, _⟩ := pt_range (HLr.out.range hk);obtain ⟨cj, rj, _, _⟩ := pt_range (HLr.out.range hlt);have hst := around_stepC hl HP.out (i := j) (k := k) (by rw [HLN.out]; exact hlt) (by rw [HLN.out]; exact hk);have hsm := fun h => eq_same hl HP.out (i := j) (k := k) (by rw [HLN.out]; exact hlt) (by rw [HLN.out]; exact hk) h;have hcnt : aroundP (L.take j) (L.getD k zPart) ≤ 1000 := by
     have h1 : aroundP (L.take j) (L.getD k zPart) ≤ (L.take j).length := List.length_filter_le _ _;have h2 := List.length_take_le j L;omega
    obtain ⟨pj, hpj⟩ : ∃ p, p = L.getD j zPart := ⟨_, rfl⟩
    rw [← hpj] at cj rj hst hsm;obtain ⟨m, hm⟩ : ∃ m, m = aroundP (L.take j) (L.getD k zPart) := ⟨_, rfl⟩
    rw [← hm] at hst hcnt ⊢;obtain ⟨pk, hpk⟩ : ∃ p, p = L.getD k zPart := ⟨_, rfl⟩
    have HPK := Lib.hid hpk;have HPJ := Lib.hid hpj;rw [← hpk] at ck rk hst hsm;have HRK := Lib.hid rk;have HRJ := Lib.hid rj;clear hm hpk hpj rk rj HLr;obtain ⟨V, hV⟩ : ∃ V, V = wr := ⟨_, rfl⟩
    rw [← hV] at ck cj HRK HRJ HB ⊢;clear hV;have q1 : ∀ n' : ExtW V, n'.val.cell? ⟨gg, j * 202, none⟩ = some (.int .i64 pj.kind) := ExtW.cell cj;have q2 : ∀ n' : ExtW V, n'.val.cell? ⟨gg, k * 202, none⟩ = some (.int .i64 pk.kind) := ExtW.cell ck;have q3 : ∀ w', (∃ n' : ExtW V, w' = n'.val) → w'.rangeAt gg (j * 202 + 1) (setA pj.s).toList := fun w' ⟨n', e⟩ => by rw [e]; exact rangeAt_ext n'.ext HRJ.out
    have q4 : ∀ w', (∃ n' : ExtW V, w' = n'.val) → w'.rangeAt gg (k * 202 + 1) (setA pk.s).toList := fun w' ⟨n', e⟩ => by rw [e]; exact rangeAt_ext n'.ext HRK.out
    have Q3 := Lib.hid q3;have Q4 := Lib.hid q4;clear q3 q4 cj ck HRK HRJ;have HNE : Nonempty (ExtW V) := ⟨⟨V, Below.refl _ _⟩⟩
    have hk' : (k : Int) < (n : Int) := by omega
    have HIN : Hid (∀ n' : ExtW V, Calls Tryz.prog 77 #[.agg (setA pk.s), .agg (setA pj.s)] n'.val fun e w'' => e = .returned (.bool (withinB pk.s pj.s)) ∧ ∃ m : ExtW V, w'' = m.val) := fun n' => quiet_ext (in17_any pk.s pj.s n'.val);obtain ⟨wi, hwi⟩ : ∃ b, b = withinB pk.s pj.s := ⟨_, rfl⟩
    rw [← hwi] at HIN hst;obtain ⟨qe, hqe⟩ : ∃ b, b = eqS pj.s pk.s := ⟨_, rfl⟩
    have heq : ∀ w9, (binOp .eql 107 (.agg (setA pj.s)) (.agg (setA pk.s))).run Tryz.prog w9 = .ok (.bool qe) w9 := fun w9 => by rw [hqe]; exact eql_rset w9 _ _
    clear hwi;go_upto_region 5 with (fail)
    cases wi with
    | true =>
      have HST := Lib.hid hst;clear hst hsm hqe heq;refine region_ext (by kernel_rfl) (by kernel_rfl) ?_
      repeat (first
       | go_big_quiet_skip
       | (refine wpQuiet_load_mid (o := ⟨some 17, .load 107 _, _, _, _, _⟩) (by rfl) 107 _ rfl gg (k * 202 + 1) rfl (setA pk.s).toList _ Q4.out Tryz.underlying107 rfl (by rw [Array.length_toList, setA_size]; exact size_rset) ?_; simp only [zJ,zG,zH,zI, Array.toArray_toList])
       | (refine wpQuiet_load_mid (o := ⟨some 22, .load 107 _, _, _, _, _⟩) (by rfl) 107 _ rfl gg (j * 202 + 1) rfl (setA pj.s).toList _ Q3.out Tryz.underlying107 rfl (by rw [Array.length_toList, setA_size]; exact size_rset) ?_; simp only [zJ,zG,zH,zI, Array.toArray_toList])
       | go_big_quiet_step (first | (go_at_call 77; exact HIN.out _)))
      refine wpQuiet_nil ?_;rintro _ ⟨n', rfl⟩;have HB8 := Lib.hid (ext_trans HB.out n'.ext);clear q1 q2 HIN;go_wp2
      go_roundw
      case rel => exact ⟨j + 1, by omega, by go_num, by rw [← HPK.out, HST.out]; simp, HB8⟩
      case measure => simp [intOf]; omega
    | false =>
      have HST := Lib.hid hst;cases qe with
      | false =>
        clear hst hsm hqe;refine region_ext (by kernel_rfl) (by kernel_rfl) ?_
        repeat (first
         | go_big_quiet_skip
         | (refine wpQuiet_load_mid (o := ⟨some 17, .load 107 _, _, _, _, _⟩) (by rfl) 107 _ rfl gg (k * 202 + 1) rfl (setA pk.s).toList _ Q4.out Tryz.underlying107 rfl (by rw [Array.length_toList, setA_size]; exact size_rset) ?_; simp only [zJ,zG,zH,zI, Array.toArray_toList])
         | (refine wpQuiet_load_mid (o := ⟨some 22, .load 107 _, _, _, _, _⟩) (by rfl) 107 _ rfl gg (j * 202 + 1) rfl (setA pj.s).toList _ Q3.out Tryz.underlying107 rfl (by rw [Array.length_toList, setA_size]; exact size_rset) ?_; simp only [zJ,zG,zH,zI, Array.toArray_toList])
         | (refine wpQuiet_load_mid (o := ⟨some 29, .load 107 _, _, _, _, _⟩) (by rfl) 107 _ rfl gg (j * 202 + 1) rfl (setA pj.s).toList _ Q3.out Tryz.underlying107 rfl (by rw [Array.length_toList, setA_size]; exact size_rset) ?_; simp only [zJ,zG,zH,zI, Array.toArray_toList])
         | (refine wpQuiet_load_mid (o := ⟨some 34, .load 107 _, _, _, _, _⟩) (by rfl) 107 _ rfl gg (k * 202 + 1) rfl (setA pk.s).toList _ Q4.out Tryz.underlying107 rfl (by rw [Array.length_toList, setA_size]; exact size_rset) ?_; simp only [zJ,zG,zH,zI, Array.toArray_toList])
         | go_big_quiet_step (first | (go_at_call 77; exact HIN.out _)))
        refine wpQuiet_nil ?_;rintro _ ⟨n', rfl⟩;have HB8 := Lib.hid (ext_trans HB.out n'.ext);clear q1 q2 HIN heq;go_wp2
        go_roundw
        case rel => exact ⟨j + 1, by omega, by go_num, by rw [← HPK.out, HST.out]; simp, HB8⟩
        case measure => simp [intOf]; omega
      | true =>
        obtain rfl := hsm hqe.symm;obtain rfl : pj = pk := by rw [HPJ.out, HPK.out]
        clear hst hsm hqe;obtain ⟨kd, hkd⟩ : ∃ d, d = pj.kind := ⟨_, rfl⟩
        rw [← hkd] at q1 q2;clear hkd;by_cases h4 : kd = 4
        · have d4 : (kd == 4) = true := by simpa using h4
          have d5 : (kd != 4) = false := by simpa using h4
          clear h4;refine region_ext (by kernel_rfl) (by kernel_rfl) ?_
          repeat (first
           | go_big_quiet_skip
           | (refine wpQuiet_load_mid (by rfl) 107 _ rfl gg (j * 202 + 1) rfl (setA pj.s).toList _ Q3.out Tryz.underlying107 rfl (by rw [Array.length_toList, setA_size]; exact size_rset) ?_; simp only [zJ,zG,zH,zI, Array.toArray_toList])
           | go_big_quiet_step (first | (go_at_call 77; exact HIN.out _)))
          refine wpQuiet_nil ?_;rintro _ ⟨n', rfl⟩;have HB8 := Lib.hid (ext_trans HB.out n'.ext);clear q1 q2 HIN heq;go_wp2
          go_roundw
          case rel => exact ⟨j + 1, by omega, by go_num, by rw [← HPK.out, HST.out]; simp, HB8⟩
          case measure => simp [intOf]; omega
        · have d4 : (kd == 4) = false := by simpa using h4
          refine region_ext (by kernel_rfl) (by kernel_rfl) ?_
          repeat (first
           | go_big_quiet_skip
           | (refine wpQuiet_load_mid (by rfl) 107 _ rfl gg (j * 202 + 1) rfl (setA pj.s).toList _ Q3.out Tryz.underlying107 rfl (by rw [Array.length_toList, setA_size]; exact size_rset) ?_; simp only [zJ,zG,zH,zI, Array.toArray_toList])
           | go_big_quiet_step (first | (go_at_call 77; exact HIN.out _)))
          refine wpQuiet_nil ?_;rintro _ ⟨n', rfl⟩;have HB8 := Lib.hid (ext_trans HB.out n'.ext);clear q1 q2 HIN heq;go_wp2
          go_roundw
          case rel => exact ⟨j + 1, by omega, by go_num, by rw [← HPK.out, HST.out]; simp, HB8⟩
          case measure => simp [intOf]; omega
  · obtain rfl : j = n := by omega
    have HE : Hid (L.take j = L) := by rw [Hid, ← HLN.out]; exact List.take_length
    rw [HE.out];go_wp2
    go_ret
    exact ⟨rfl, HB.out⟩
end

section
open Go.RowKit
attribute [local go_sem] Oper.semAt_some wide_fn wide_depth wide_fnR wide_depthR
theorem smallest17_any (a : Option Addr) (n c base : Nat) (ts : List TermD) (hl : ts.length ≤ 200) (L : List PartD) (F : LoopsF ts (wholeS ts.length) L) (b : Nat) (hb : b < 200) (w : World) (h : PtsIn w base (.slice a n c) L) (hn : n ≤ 1000) :
  Calls Tryz.prog 125 #[.slice a n c, .int .i64 (b : Int)] w fun e w' => (∃ best : Int, e = .returned (.int .i64 best) ∧ smOK ts.length L b L.length best) ∧ Below w.heap.size w w' := by
 have hlen : L.length = n := by
  obtain ⟨_, _, e⟩ := OwnR.form h;injection e with _ e _;exact e.symm
 have hb' : (b : Int) < 200 := by omega
 have HL := Lib.hid h
 have HF := Lib.hid F
 clear h F
 go_enter Tryz.func125, Tryz.ntmps125
 go_wp2
 go_loopw [5, 6] (fun s5 s6 wr => ∃ (j : Nat) (best : Int), j ≤ n ∧ s6 = .int .i64 (j : Int) ∧ s5 = .int .i64 best ∧ Hid (smOK ts.length L b j best) ∧ Hid (Below w.heap.size w wr)) (fun _ s6 _ => n - (intOf s6).toNat)
 case atStart => exact ⟨0, -1, by omega, rfl, rfl, smOK.start _ _ _, Below.refl _ _⟩
 case round =>
  obtain ⟨j, best, hj, rfl, rfl, HS, HB⟩ := hrel;by_cases hlt : j < n
  · have hlt' : (j : Int) < (n : Int) := by omega
    have hform : ∃ g, a = some ⟨g, 0, none⟩ := by
     obtain ⟨g, c', e⟩ := own_form HL.out.1 (by omega);injection e with e _ _;exact ⟨g, e⟩
    obtain ⟨gg, rfl⟩ := hform;have HLr : Hid (PtsIn wr base (.slice (some ⟨gg, 0, none⟩) n c) L) := PtsIn.ext HL.out HB.out;obtain ⟨_, rj, _, cj⟩ := pt_range (HLr.out.range hlt);have cb := cj b hb;have HJL : Hid (j < L.length) := by rw [Hid, hlen]; exact hlt
    obtain ⟨p, hp⟩ : ∃ p, p = L.getD j zPart := ⟨_, rfl⟩
    obtain ⟨pb, hpb⟩ : ∃ x, x = p.s b := ⟨_, rfl⟩
    rw [← hp] at rj cb;rw [← hpb] at cb;have RJ := Lib.hid rj;have CB := Lib.hid cb;have HP := Lib.hid hp;have HPB := Lib.hid hpb;clear rj cj cb hp hpb;cases pb with
    | false =>
      have HL1 : Hid (smOK ts.length L b (j + 1) best) := HS.out.skip HJL.out (by rw [← HP.out]; exact HPB.out.symm);have g1 : ∀ q : ExtW wr, q.val.cell? ⟨gg, j * 202 + 1 + b, none⟩ = some (.bool false) := ExtW.cell CB.out;clear HLr HS;go_upto_region 5 with (fail)
      refine region_ext (by kernel_rfl) (by kernel_rfl) ?_
      repeat (first
       | go_big_quiet_skip
       | go_big_quiet_step (fail))
      refine wpQuiet_nil ?_;intro _ hw';obtain ⟨n', rfl⟩ := hw';have HBE := Lib.hid (ext_trans HB.out n'.ext);generalize n'.val = W9 at *;go_wp2
      go_roundw
      case rel => exact ⟨j + 1, best, by omega, by go_num, rfl, HL1, HBE⟩
      case measure => simp [intOf]; omega
    | true =>
      have hls := HS.out.less hl HF.out HJL.out (by rw [← HP.out]; exact HPB.out.symm);have HL1 : Hid (smOK ts.length L b (j + 1) (j : Int)) := hls.2;rcases HS.out with ⟨rfl, _⟩ | ⟨i, rfl, hij, _, _⟩
      · have g1 : ∀ q : ExtW wr, q.val.cell? ⟨gg, j * 202 + 1 + b, none⟩ = some (.bool true) := ExtW.cell CB.out;clear HLr HS hls;go_upto_region 5 with (fail)
        refine region_ext (by kernel_rfl) (by kernel_rfl) ?_
        repeat (first
         | go_big_quiet_skip
         | go_big_quiet_step (fail))
        refine wpQuiet_nil ?_;intro _ hw';obtain ⟨n', rfl⟩ := hw';have HBE := Lib.hid (ext_trans HB.out n'.ext);generalize n'.val = W9 at *;go_wp2
        go_roundw
        case rel => exact ⟨j + 1, (j : Int), by omega, by go_num, rfl, HL1, HBE⟩
        case measure => simp [intOf]; omega
      · obtain ⟨_, ri, _, _⟩ := pt_range (HLr.out.range (show i < n by omega));have hlq := hls.1 i rfl;obtain ⟨q, hq⟩ : ∃ q, q = L.getD i zPart := ⟨_, rfl⟩
        rw [← hq] at ri hlq;rw [← HP.out] at hlq;have hlq2 : ((cntS p.s 200 : Nat) : Int) < ((cntS q.s 200 : Nat) : Int) := by
         have : cntS p.s 200 < cntS q.s 200 := hlq;omega
        have hlq3 : cntS p.s 200 < cntS q.s 200 := hlq;have RI := Lib.hid ri;have hi0 : ¬ (i : Int) < 0 := by omega
        have hin : (i : Int) < (n : Int) := by omega
        clear ri hlq hq HLr HS hls;go_upto_region 5 with (fail)
        refine region_free 26 [some 13, some 14, some 15, some 16, some 17, some 18, some 19, some 20, some 21, some 22, some 23, some 24, some 25, some 26, some 27, some 28, some 29, some 30, some 31, some 32, some 33, some 34, some 35, some 36, some 37, some 38] (by kernel_rfl) (by kernel_rfl) (specB [.val (.slice (some ⟨gg, 0, none⟩) n c), .val (.int .i64 (j : Int)), .val (.int .i64 (b : Int)), .val (.pointer (some ⟨gg, j * 202, none⟩)), .val (.pointer (some ⟨gg, j * 202 + 1, none⟩)), .val (.pointer (some ⟨gg, j * 202 + 1 + b, none⟩)), .val (.bool true), .val (.bool true), .val (.int .i64 (i : Int)), .val (.bool false), .val (.bool false), .val (.slice (some ⟨gg, 0, none⟩) n c), .val (.int .i64 (j : Int)), .val (.pointer (some ⟨gg, j * 202, none⟩)), .val (.pointer (some ⟨gg, j * 202 + 1, none⟩)), .val (.agg (setA p.s)), .val (.int .i64 (cntS p.s 200 : Nat)), .val (.slice (some ⟨gg, 0, none⟩) n c), .val (.int .i64 (i : Int)), .val (.pointer (some ⟨gg, i * 202, none⟩)), .val (.pointer (some ⟨gg, i * 202 + 1, none⟩)), .val (.agg (setA q.s)), .val (.int .i64 (cntS q.s 200 : Nat)), .val (.bool true), .val (.bool true), .val (.bool true)]) (specB_mono ?_) ?_ ?_
        · intro k hk;simp only [List.mem_cons, List.not_mem_nil, or_false] at hk;rcases hk with rfl | rfl | rfl | rfl | rfl | rfl | rfl | rfl | rfl | rfl | rfl | rfl | rfl | rfl | rfl | rfl | rfl | rfl | rfl | rfl | rfl | rfl | rfl | rfl | rfl | rfl
          · exact trivial
          · exact trivial
          · exact trivial
          · exact trivial
          · exact trivial
          · exact trivial
          · exact trivial
          · exact trivial
          · exact trivial
          · exact trivial
          · exact trivial
          · exact trivial
          · exact trivial
          · exact trivial
          · exact trivial
          · exact trivial
          · exact trivial
          · exact trivial
          · exact trivial
          · exact trivial
          · exact trivial
          · exact trivial
          · exact trivial
          · exact trivial
          · exact trivial
          · exact trivial
        · intro i hi ν lo hi' w1 K hB hD hK;have hcase : i = 0 ∨ i = 1 ∨ i = 2 ∨ i = 3 ∨ i = 4 ∨ i = 5 ∨ i = 6 ∨ i = 7 ∨ i = 8 ∨ i = 9 ∨ i = 10 ∨ i = 11 ∨ i = 12 ∨ i = 13 ∨ i = 14 ∨ i = 15 ∨ i = 16 ∨ i = 17 ∨ i = 18 ∨ i = 19 ∨ i = 20 ∨ i = 21 ∨ i = 22 ∨ i = 23 ∨ i = 24 ∨ i = 25 := by omega
          clear hi;rcases hcase with rfl | rfl | rfl | rfl | rfl | rfl | rfl | rfl | rfl | rfl | rfl | rfl | rfl | rfl | rfl | rfl | rfl | rfl | rfl | rfl | rfl | rfl | rfl | rfl | rfl | rfl
          · clear hD;refine wpOp_atK rfl rfl ?_;simp only [zA,zB,zC,zD,zE,zF,zJ,zK,zG,zH,zI] at hK ⊢;go_simp;exact hK _ _ (Below.refl _ _) rfl
          · clear hD;refine wpOp_atK rfl rfl ?_;simp only [zA,zB,zC,zD,zE,zF,zJ,zK,zG,zH,zI] at hK ⊢;go_simp;exact hK _ _ (Below.refl _ _) rfl
          · clear hD;refine wpOp_atK rfl rfl ?_;simp only [zA,zB,zC,zD,zE,zF,zJ,zK,zG,zH,zI] at hK ⊢;go_simp;exact hK _ _ (Below.refl _ _) rfl
          · have e0 := hD 0 (by kernel_rfl)
            replace e0 : ν 0 = (.slice (some ⟨gg, 0, none⟩) n c) := e0
            have e1 := hD 1 (by kernel_rfl)
            replace e1 : ν 1 = (.int .i64 (j : Int)) := e1
            clear hD;refine wpOp_atK rfl rfl ?_;simp only [zA,zB,zC,zD,zE,zF,zJ,zK,zG,zH,zI, e0, e1] at hK ⊢;go_simp;exact hK _ _ (Below.refl _ _) rfl
          · have e3 := hD 3 (by kernel_rfl)
            replace e3 : ν 3 = (.pointer (some ⟨gg, j * 202, none⟩)) := e3
            clear hD;refine wpOp_atK rfl rfl ?_;simp only [zA,zB,zC,zD,zE,zF,zJ,zK,zG,zH,zI, e3] at hK ⊢;go_simp;exact hK _ _ (Below.refl _ _) rfl
          · have e2 := hD 2 (by kernel_rfl)
            replace e2 : ν 2 = (.int .i64 (b : Int)) := e2
            have e4 := hD 4 (by kernel_rfl)
            replace e4 : ν 4 = (.pointer (some ⟨gg, j * 202 + 1, none⟩)) := e4
            clear hD;refine wpOp_atK rfl rfl ?_;simp only [zA,zB,zC,zD,zE,zF,zJ,zK,zG,zH,zI, e2, e4] at hK ⊢;go_simp;exact hK _ _ (Below.refl _ _) rfl
          · have e5 := hD 5 (by kernel_rfl)
            replace e5 : ν 5 = (.pointer (some ⟨gg, j * 202 + 1 + b, none⟩)) := e5
            clear hD;refine wpOp_atK rfl rfl ?_;simp only [zA,zB,zC,zD,zE,zF,zJ,zK,zG,zH,zI, e5] at hK ⊢;have hcl := cell_ext hB CB.out;go_simp;exact hK _ _ (Below.refl _ _) rfl
          · have e6 := hD 6 (by kernel_rfl)
            replace e6 : ν 6 = (.bool true) := e6
            clear hD;refine wpOp_atK rfl rfl ?_;simp only [zA,zB,zC,zD,zE,zF,zJ,zK,zG,zH,zI, e6] at hK ⊢;go_simp;exact hK _ _ (Below.refl _ _) rfl
          · have e7 := hD 7 (by kernel_rfl)
            replace e7 : ν 7 = (.bool true) := e7
            clear hD;simp only [zA,zB,zC,zD,zE,zF,zJ,zK,zG,zH,zI, e7] at hK ⊢;refine wpOp_atW rfl (by rfl) ?_;go_simp;exact hK _ _ (Below.refl _ _) rfl
          · have e7 := hD 7 (by kernel_rfl)
            replace e7 : ν 7 = (.bool true) := e7
            have e8 := hD 8 (by kernel_rfl)
            replace e8 : ν 8 = (.int .i64 (i : Int)) := e8
            clear hD;simp only [zA,zB,zC,zD,zE,zF,zJ,zK,zG,zH,zI, e7, e8] at hK ⊢;refine wpOp_atW rfl (by rfl) ?_;go_simp;exact hK _ _ (Below.refl _ _) rfl
          · have e7 := hD 7 (by kernel_rfl)
            replace e7 : ν 7 = (.bool true) := e7
            have e9 := hD 9 (by kernel_rfl)
            replace e9 : ν 9 = (.bool false) := e9
            clear hD;simp only [zA,zB,zC,zD,zE,zF,zJ,zK,zG,zH,zI, e7, e9] at hK ⊢;refine wpOp_atW rfl (by rfl) ?_;go_simp;exact hK _ _ (Below.refl _ _) rfl
          · have e10 := hD 10 (by kernel_rfl)
            replace e10 : ν 10 = (.bool false) := e10
            clear hD;simp only [zA,zB,zC,zD,zE,zF,zJ,zK,zG,zH,zI, e10] at hK ⊢;refine wpOp_atW rfl (by rfl) ?_;go_simp;exact hK _ _ (Below.refl _ _) rfl
          · have e10 := hD 10 (by kernel_rfl)
            replace e10 : ν 10 = (.bool false) := e10
            clear hD;simp only [zA,zB,zC,zD,zE,zF,zJ,zK,zG,zH,zI, e10] at hK ⊢;refine wpOp_atW rfl (by rfl) ?_;go_simp;exact hK _ _ (Below.refl _ _) rfl
          · have e10 := hD 10 (by kernel_rfl)
            replace e10 : ν 10 = (.bool false) := e10
            have e11 := hD 11 (by kernel_rfl)
            replace e11 : ν 11 = (.slice (some ⟨gg, 0, none⟩) n c) := e11
            have e12 := hD 12 (by kernel_rfl)
            replace e12 : ν 12 = (.int .i64 (j : Int)) := e12
            clear hD;simp only [zA,zB,zC,zD,zE,zF,zJ,zK,zG,zH,zI, e10, e11, e12] at hK ⊢;refine wpOp_atW rfl (by rfl) ?_;go_simp;exact hK _ _ (Below.refl _ _) rfl
          · have e10 := hD 10 (by kernel_rfl)
            replace e10 : ν 10 = (.bool false) := e10
            have e13 := hD 13 (by kernel_rfl)
            replace e13 : ν 13 = (.pointer (some ⟨gg, j * 202, none⟩)) := e13
            clear hD;simp only [zA,zB,zC,zD,zE,zF,zJ,zK,zG,zH,zI, e10, e13] at hK ⊢;refine wpOp_atW rfl (by rfl) ?_;go_simp;exact hK _ _ (Below.refl _ _) rfl
          · have e10 := hD 10 (by kernel_rfl)
            replace e10 : ν 10 = (.bool false) := e10
            have e14 := hD 14 (by kernel_rfl)
            replace e14 : ν 14 = (.pointer (some ⟨gg, j * 202 + 1, none⟩)) := e14
            clear hD;simp only [zA,zB,zC,zD,zE,zF,zJ,zK,zG,zH,zI, e10, e14] at hK ⊢;refine wpOp_atW rfl (by rfl) ?_;refine wp_load_mid 107 _ rfl gg (j * 202 + 1) rfl (setA p.s).toList _ (rangeAt_ext hB RJ.out) Tryz.underlying107 rfl (by rw [Array.length_toList, setA_size]; exact size_rset) ?_;exact hK _ _ (Below.refl _ _) (show Value.agg (setA p.s).toList.toArray = .agg (setA p.s) by simp)
          · have e10 := hD 10 (by kernel_rfl)
            replace e10 : ν 10 = (.bool false) := e10
            have e15 := hD 15 (by kernel_rfl)
            replace e15 : ν 15 = (.agg (setA p.s)) := e15
            clear hD;simp only [zA,zB,zC,zD,zE,zF,zJ,zK,zG,zH,zI, e10, e15] at hK ⊢;refine wpOp_atW rfl (by rfl) ?_;go_simp;refine (many17_any p.s w1).mono ?_;rintro e w3 ⟨rfl, hb3⟩;exact hK _ _ hb3 rfl
          · have e10 := hD 10 (by kernel_rfl)
            replace e10 : ν 10 = (.bool false) := e10
            clear hD;simp only [zA,zB,zC,zD,zE,zF,zJ,zK,zG,zH,zI, e10] at hK ⊢;refine wpOp_atW rfl (by rfl) ?_;go_simp;exact hK _ _ (Below.refl _ _) rfl
          · have e10 := hD 10 (by kernel_rfl)
            replace e10 : ν 10 = (.bool false) := e10
            clear hD;simp only [zA,zB,zC,zD,zE,zF,zJ,zK,zG,zH,zI, e10] at hK ⊢;refine wpOp_atW rfl (by rfl) ?_;go_simp;exact hK _ _ (Below.refl _ _) rfl
          · have e10 := hD 10 (by kernel_rfl)
            replace e10 : ν 10 = (.bool false) := e10
            have e17 := hD 17 (by kernel_rfl)
            replace e17 : ν 17 = (.slice (some ⟨gg, 0, none⟩) n c) := e17
            have e18 := hD 18 (by kernel_rfl)
            replace e18 : ν 18 = (.int .i64 (i : Int)) := e18
            clear hD;simp only [zA,zB,zC,zD,zE,zF,zJ,zK,zG,zH,zI, e10, e17, e18] at hK ⊢;refine wpOp_atW rfl (by rfl) ?_;go_simp;exact hK _ _ (Below.refl _ _) rfl
          · have e10 := hD 10 (by kernel_rfl)
            replace e10 : ν 10 = (.bool false) := e10
            have e19 := hD 19 (by kernel_rfl)
            replace e19 : ν 19 = (.pointer (some ⟨gg, i * 202, none⟩)) := e19
            clear hD;simp only [zA,zB,zC,zD,zE,zF,zJ,zK,zG,zH,zI, e10, e19] at hK ⊢;refine wpOp_atW rfl (by rfl) ?_;go_simp;exact hK _ _ (Below.refl _ _) rfl
          · have e10 := hD 10 (by kernel_rfl)
            replace e10 : ν 10 = (.bool false) := e10
            have e20 := hD 20 (by kernel_rfl)
            replace e20 : ν 20 = (.pointer (some ⟨gg, i * 202 + 1, none⟩)) := e20
            clear hD;simp only [zA,zB,zC,zD,zE,zF,zJ,zK,zG,zH,zI, e10, e20] at hK ⊢;refine wpOp_atW rfl (by rfl) ?_;refine wp_load_mid 107 _ rfl gg (i * 202 + 1) rfl (setA q.s).toList _ (rangeAt_ext hB RI.out) Tryz.underlying107 rfl (by rw [Array.length_toList, setA_size]; exact size_rset) ?_;exact hK _ _ (Below.refl _ _) (show Value.agg (setA q.s).toList.toArray = .agg (setA q.s) by simp)
          · have e10 := hD 10 (by kernel_rfl)
            replace e10 : ν 10 = (.bool false) := e10
            have e16 := hD 16 (by kernel_rfl)
            replace e16 : ν 16 = (.int .i64 (cntS p.s 200 : Nat)) := e16
            have e21 := hD 21 (by kernel_rfl)
            replace e21 : ν 21 = (.agg (setA q.s)) := e21
            clear hD;simp only [zA,zB,zC,zD,zE,zF,zJ,zK,zG,zH,zI, e10, e16, e21] at hK ⊢;refine wpOp_atW rfl (by rfl) ?_;go_simp;refine (many17_any q.s w1).mono ?_;rintro e w3 ⟨rfl, hb3⟩;exact hK _ _ hb3 rfl
          · have e10 := hD 10 (by kernel_rfl)
            replace e10 : ν 10 = (.bool false) := e10
            have e16 := hD 16 (by kernel_rfl)
            replace e16 : ν 16 = (.int .i64 (cntS p.s 200 : Nat)) := e16
            have e22 := hD 22 (by kernel_rfl)
            replace e22 : ν 22 = (.int .i64 (cntS q.s 200 : Nat)) := e22
            clear hD;simp only [zA,zB,zC,zD,zE,zF,zJ,zK,zG,zH,zI, e10, e16, e22] at hK ⊢;refine wpOp_atW rfl (by rfl) ?_;go_simp;exact hK _ _ (Below.refl _ _) rfl
          · have e7 := hD 7 (by kernel_rfl)
            replace e7 : ν 7 = (.bool true) := e7
            have e10 := hD 10 (by kernel_rfl)
            replace e10 : ν 10 = (.bool false) := e10
            have e23 := hD 23 (by kernel_rfl)
            replace e23 : ν 23 = (.bool true) := e23
            clear hD;simp only [zA,zB,zC,zD,zE,zF,zJ,zK,zG,zH,zI, e7, e10, e23] at hK ⊢;refine wpOp_atW rfl (by rfl) ?_;go_simp;exact hK _ _ (Below.refl _ _) rfl
          · have e7 := hD 7 (by kernel_rfl)
            replace e7 : ν 7 = (.bool true) := e7
            have e24 := hD 24 (by kernel_rfl)
            replace e24 : ν 24 = (.bool true) := e24
            clear hD;refine wpOp_atK rfl rfl ?_;simp only [zA,zB,zC,zD,zE,zF,zJ,zK,zG,zH,zI, e7, e24] at hK ⊢;go_simp;exact hK _ _ (Below.refl _ _) rfl
        · intro ν lo hi w1 hB hS hI hD;have e0 : ν 0 = (.slice (some ⟨gg, 0, none⟩) n c) := hS 0 (by omega);have e1 : ν 1 = (.int .i64 (j : Int)) := hS 1 (by omega);have e2 : ν 2 = (.int .i64 (b : Int)) := hS 2 (by omega);have e3 : ν 3 = (.pointer (some ⟨gg, j * 202, none⟩)) := hS 3 (by omega);have e4 : ν 4 = (.pointer (some ⟨gg, j * 202 + 1, none⟩)) := hS 4 (by omega);have e5 : ν 5 = (.pointer (some ⟨gg, j * 202 + 1 + b, none⟩)) := hS 5 (by omega);have e6 : ν 6 = (.bool true) := hS 6 (by omega);have e7 : ν 7 = (.bool true) := hS 7 (by omega);have e8 : ν 8 = (.int .i64 (i : Int)) := hS 8 (by omega);have e9 : ν 9 = (.bool false) := hS 9 (by omega);have e10 : ν 10 = (.bool false) := hS 10 (by omega);have e11 : ν 11 = (.slice (some ⟨gg, 0, none⟩) n c) := hS 11 (by omega);have e12 : ν 12 = (.int .i64 (j : Int)) := hS 12 (by omega);have e13 : ν 13 = (.pointer (some ⟨gg, j * 202, none⟩)) := hS 13 (by omega);have e14 : ν 14 = (.pointer (some ⟨gg, j * 202 + 1, none⟩)) := hS 14 (by omega);have e15 : ν 15 = (.agg (setA p.s)) := hS 15 (by omega);have e16 : ν 16 = (.int .i64 (cntS p.s 200 : Nat)) := hS 16 (by omega);have e17 : ν 17 = (.slice (some ⟨gg, 0, none⟩) n c) := hS 17 (by omega);have e18 : ν 18 = (.int .i64 (i : Int)) := hS 18 (by omega);have e19 : ν 19 = (.pointer (some ⟨gg, i * 202, none⟩)) := hS 19 (by omega);have e20 : ν 20 = (.pointer (some ⟨gg, i * 202 + 1, none⟩)) := hS 20 (by omega);have e21 : ν 21 = (.agg (setA q.s)) := hS 21 (by omega);have e22 : ν 22 = (.int .i64 (cntS q.s 200 : Nat)) := hS 22 (by omega);have e23 : ν 23 = (.bool true) := hS 23 (by omega);have e24 : ν 24 = (.bool true) := hS 24 (by omega);have e25 : ν 25 = (.bool true) := hS 25 (by omega);clear hS;simp only [List.drop_succ_cons, List.drop_zero, zA,zB,zC,zD,zE,zF,zJ,zK,zG,zH,zI, e0, e1, e2, e3, e4, e5, e6, e7, e8, e9, e10, e11, e12, e13, e14, e15, e16, e17, e18, e19, e20, e21, e22, e23, e24, e25];have HBE := Lib.hid (ext_trans HB.out hB);clear hI hD hB e0 e1 e2 e3 e4 e5 e6 e7 e8 e9 e10 e11 e12 e13 e14 e15 e16 e17 e18 e19 e20 e21 e22 e23 e24 e25;go_wp2
          go_roundw
          case rel => exact ⟨j + 1, (j : Int), by omega, by go_num, rfl, HL1, HBE⟩
          case measure => simp [intOf]; omega
  · have hje : j = L.length := by omega
    have HE := Lib.hid (hje ▸ HS.out);have hlt' : ¬ (j : Int) < (n : Int) := by omega
    go_wp2
    go_ret
    exact ⟨⟨best, rfl, by rw [← hlen]; exact HE.out⟩, HB.out⟩
end

section
open Go.RowKit
attribute [local go_sem] Oper.semAt_some wide_fn wide_depth wide_fnR wide_depthR
theorem edges17_any (pa : Option Addr) (pn pc : Nat) (ba : Option Addr) (bn bc : Nat) (bs : List BlkH) (b : Nat) (w : World) (h : BlksOK w ba bn bs) (hg : goodB (tsOf bs) = true) (hb : b < 200) :
  Calls Tryz.prog 126 #[funcV pa pn pc ba bn bc, .int .i64 (b : Int)] w fun e w' => e = .returned (.tuple #[.int .i64 ((pv (tsOf bs) b).length : Int), .bool (brV (tsOf bs) (pv (tsOf bs) b))]) ∧ Below w.heap.size w w' := by
 have hbn : bn ≤ 200 := by have := ((goodB_iff _).1 hg).1.2; rw [tsOf_len, h.1.1] at this; exact this
 have HTL : Hid ((tsOf bs).length = bn) := by rw [Hid, tsOf_len, h.1.1]
 have H := Lib.hid h
 have HG := Lib.hid hg
 clear h hg
 go_enter Tryz.func126, Tryz.ntmps126
 go_upto_region 1 with (fail)
 obtain ⟨W, hW⟩ : ∃ W, W = w.alloc (funcO pa pn pc ba bn bc) := ⟨_, rfl⟩
 rw [← hW]
 have ho : W.heap[w.heap.size]? = some (funcO pa pn pc ba bn bc) := by rw [hW]; exact heap_alloc_new _ _
 have hB : Below w.heap.size w W := by rw [hW]; exact ext_alloc _ _
 have HO := Lib.hid ho
 have HB := Lib.hid hB
 clear hW ho hB
 go_wp2
 go_loopw [6, 7, 8, 9, 10] (fun s6 s7 s8 _ _ wr => ∃ i : Nat, i ≤ bn ∧ s6 = .int .i64 ((pvAt (tsOf bs) i 0 b).length : Int) ∧ s7 = .bool (brV (tsOf bs) (pvAt (tsOf bs) i 0 b)) ∧ s8 = .int .i64 (i : Int) ∧ Hid (wr.heap[w.heap.size]? = some (funcO pa pn pc ba bn bc)) ∧ Hid (Below w.heap.size w wr)) (fun _ _ s8 _ _ _ => bn - (intOf s8).toNat)
 case atStart => exact ⟨0, by omega, by rw [pvAt_zero]; rfl, by rw [pvAt_zero]; rfl, by go_num, HO, HB⟩
 case round =>
  obtain ⟨i, hi, rfl, rfl, rfl, HO1, HB1⟩ := hrel;clear HO HB;have kf := HO1.out;have k1 : wr.cell? ⟨w.heap.size, 1, none⟩ = some (.slice ba bn bc) := by rw [cell_of_row _ _ _ _ _ _ kf]; rfl
  clear kf;by_cases hlt : i < bn
  · have hlt' : (i : Int) < (bn : Int) := by omega
    have hsz := lt_of_heap HO1.out
    go_upto_region 6 with (first
     | (refine wpList_load_row (o := ⟨some 18, .load 25 _, _, _, _, _⟩) rfl 25 _ rfl w.heap.size rfl 25 _ (0, 0) _ HO1.out Tryz.underlying25 rfl size_func ?_)
     | (go_at_call 96
        refine (to17_any pa pn pc ba bn bc bs i wr (H.out.ext HB1.out) hlt).mono ?_;rintro e w1 ⟨v, rfl, ho, hb⟩;rw [toD_nx HG.out] at ho;obtain ⟨va, vc, rfl⟩ := ho.form;have HNX := Lib.hid ho.ints;have HO2 := Lib.hid (block_ext hb HO1.out);have HB2 := Lib.hid (ext_trans HB1.out hb)
        clear ho hb k1))
    have hnl : (intsN (nx (tsOf bs) i)).length = (nx (tsOf bs) i).length := by simp [intsN]
    have hnl2 : (nx (tsOf bs) i).length ≤ 2 := by simp only [nx, List.length_map]; exact toD_len _
    rw [hnl];rw [hnl] at HNX;clear hnl HO1 HB1 hsz;go_wp2;obtain ⟨dl, hdl⟩ : ∃ x, x = decide (((nx (tsOf bs) i).length : Int) = 2) := ⟨_, rfl⟩
    have HDL := Lib.hid hdl
    go_loopw [6, 7, 10] (fun s6 s7 s10 wi => ∃ k : Nat, k ≤ (nx (tsOf bs) i).length ∧ s6 = .int .i64 ((pvAt (tsOf bs) i k b).length : Int) ∧ s7 = .bool (brV (tsOf bs) (pvAt (tsOf bs) i k b)) ∧ s10 = .int .i64 (k : Int) ∧ Hid (wi = w1)) (fun _ _ s10 _ => (nx (tsOf bs) i).length - (intOf s10).toNat)
    case atStart => exact ⟨0, by omega, rfl, rfl, by go_num, rfl⟩
    case round =>
     obtain ⟨k, hk, rfl, rfl, rfl, HW1⟩ := hrel;clear hdl;obtain rfl := HW1.out.symm;by_cases hkl : k < (nx (tsOf bs) i).length
     · have hkl' : (k : Int) < ((nx (tsOf bs) i).length : Int) := by omega
       have hg0 : (nx (tsOf bs) i)[k]? = some ((nx (tsOf bs) i).getD k 0) := by rw [List.getD_eq_getElem?_getD, List.getElem?_eq_getElem hkl]; rfl
       obtain ⟨b3, o4, rfl, hcy, _⟩ := HNX.out.2.2 k hkl;have hey : (intsN (nx (tsOf bs) i)).getD k 0 = (((nx (tsOf bs) i).getD k 0 : Nat) : Int) := by simp [intsN, List.getD_eq_getElem?_getD, hkl]
       rw [hey] at hcy;have hst := pvAt_step (tsOf bs) i k _ hg0 b;have hln := pvAt_len (tsOf bs) i k b;clear hey hg0;generalize (nx (tsOf bs) i).getD k 0 = y at *;by_cases hy : y = b
       · subst hy;rw [if_pos rfl] at hst;have hl' : (pvAt (tsOf bs) i (k + 1) y).length = (pvAt (tsOf bs) i k y).length + 1 := by rw [hst]; simp
         have hb' : brV (tsOf bs) (pvAt (tsOf bs) i (k + 1) y) = ((nx (tsOf bs) i).length == 2) := by rw [hst]; exact brV_snoc _ _ _
         have HL' := Lib.hid hl';have HB' := Lib.hid hb';clear hst hl' hb';generalize (pvAt (tsOf bs) i k y).length = m at *;generalize brV (tsOf bs) (pvAt (tsOf bs) i k y) = br at *;go_wp2
         go_roundw
         case rel => exact ⟨k + 1, by omega, by rw [HL'.out]; go_num, by rw [HB'.out]; simp only [Value.bool.injEq]; rw [Bool.eq_iff_iff]; simp; omega, by go_num, trivial⟩
         case measure => simp [intOf]; omega
       · have hy' : ¬ (y : Int) = (b : Int) := by omega
         rw [if_neg (fun e => hy e.symm)] at hst;have HST := Lib.hid hst;clear hst;go_wp2
         go_roundw
         case rel => exact ⟨k + 1, by omega, by rw [HST.out], by rw [HST.out], by go_num, trivial⟩
         case measure => simp [intOf]; omega
     · have hk2 : k = (nx (tsOf bs) i).length := by omega
       have HE : Hid (pvAt (tsOf bs) i k b = pvAt (tsOf bs) (i + 1) 0 b) := pvAt_next _ _ _ _ (by omega);have hkl' : ¬ (k : Int) < ((nx (tsOf bs) i).length : Int) := by omega
       go_wp2
       go_roundw
       case rel => exact ⟨i + 1, by omega, by rw [← HE.out], by rw [← HE.out], by go_num, HO2, HB2⟩
       case measure => simp [intOf]; omega
  · obtain rfl : i = bn := by omega
    have HE : Hid (pvAt (tsOf bs) i 0 b = pv (tsOf bs) b) := by rw [Hid, ← HTL.out]; exact pvAt_end _ _
    rw [HE.out];obtain ⟨br, hbr⟩ : ∃ x, x = brV (tsOf bs) (pv (tsOf bs) b) := ⟨_, rfl⟩
    obtain ⟨m, hm⟩ : ∃ x, x = (pv (tsOf bs) b).length := ⟨_, rfl⟩
    rw [← hbr, ← hm];have HBR := Lib.hid hbr;have HMM := Lib.hid hm;clear hbr hm;go_wp2;exact bodyPost_ret (v := .tuple #[.int .i64 (m : Int), .bool br]) (by simp [results, Tryz.results126, go_sem, Act.put]) rfl ⟨by rw [HMM.out, HBR.out], HB1.out⟩
end

section
open Go.RowKit
attribute [local go_sem] Oper.semAt_some wide_fn wide_depth wide_fnR wide_depthR
def guTo (of fr : Nat → Bool) (i : Nat) : Nat → Bool := fun x => decide (x < i) && (of x && !fr x)
theorem guTo_zero (of fr : Nat → Bool) : guTo of fr 0 = fun _ => false := by funext x; simp [guTo]
theorem guTo_step (of fr : Nat → Bool) (i : Nat) {v : Bool} (hv : v = (of i && !fr i)) : (fun k => if k = i then v else guTo of fr i k) = guTo of fr (i + 1) := by
 subst hv
 funext k
 simp only [guTo]
 by_cases e : k = i
 · subst e; simp
 · have : decide (k < i + 1) = decide (k < i) := by rw [decide_eq_decide]; omega
   rw [if_neg e, this]
def fr0 (ts : List TermD) (b : Nat) : Nat → Bool := fun k => if k = 0 then true else walkF (nx ts) (lessS (wholeS ts.length) b) 0 k
theorem guTo_end (ts : List TermD) (b : Nat) {of : Nat → Bool} (h : ∀ y, of y = true → y < ts.length) : guTo of (fr0 ts b) ts.length = guardedP ts b of := by
 funext x
 simp only [guTo, guardedP, fr0]
 cases ho : of x with
 | false => simp
 | true =>
   have := h x ho;by_cases e : x = 0
   · subst e; simp
   · simp [e, this]
structure GuR (w : World) (fo : Obj) (of fr : Nat → Bool) (F S i : Nat) (W : World) : Prop where
 h0 : W.heap[w.heap.size]? = some fo
 h1 : W.heap[w.heap.size + 1]? = some (rsetO of)
 h2 : W.heap[w.heap.size + 1 + 1]? = some (rsetO fun _ => false)
 free : W.heap[F]? = some (rsetO fr)
 set : W.heap[S]? = some (rsetO (guTo of fr i))
 below : Below w.heap.size w W
theorem GuR.step {w : World} {fo : Obj} {of fr : Nat → Bool} {F S i : Nat} {W : World} (h : GuR w fo of fr F S i W) (hi : i < 200) (hF : F < S) (hS : w.heap.size + 1 + 1 < F) {v : Bool} (hv : v = (of i && !fr i)) : GuR w fo of fr F S (i + 1) (W.setCell ⟨S, i, none⟩ (.bool v)) := by
 have hg := grown_setCell W S i (.bool v)
 exact ⟨grown_row hg h.h0 (by simp; omega), grown_row hg h.h1 (by simp; omega), grown_row hg h.h2 (by simp; omega), grown_row hg h.free (by simp; omega), rset_to h.set hi (guTo_step of fr i hv), h.below.setCell (by simp; omega) _⟩
theorem guarded17_any (pa : Option Addr) (pn pc : Nat) (ba : Option Addr) (bn bc : Nat) (bs : List BlkH) (b : Nat) (of : Nat → Bool) (w : World) (h : BlksOK w ba bn bs) (hg : goodB (tsOf bs) = true) (hb : b < 200) (hb0 : 1 ≤ b) (hof : ∀ y, of y = true → y < bn) :
  Calls Tryz.prog 127 #[funcV pa pn pc ba bn bc, .int .i64 (b : Int), .agg (setA of)] w (SetPost w (guardedP (tsOf bs) b of)) := by
 have hgg := (goodB_iff _).1 hg
 have hbn : bn ≤ 200 := by have := hgg.1.2; rw [tsOf_len, h.1.1] at this; exact this
 have hbn1 : 1 ≤ bn := by have := hgg.1.1; rw [tsOf_len, h.1.1] at this; exact this
 have HTL : Hid ((tsOf bs).length = bn) := by rw [Hid, tsOf_len, h.1.1]
 have H := Lib.hid h
 have HG := Lib.hid hg
 have HOF := Lib.hid hof
 clear h hg hof hgg
 go_enter Tryz.func127, Tryz.ntmps127
 go_upto_region 1 with (fail)
 obtain ⟨W, hW⟩ : ∃ W, W = ((w.alloc (funcO pa pn pc ba bn bc)).alloc (rsetO of)).alloc (.cells Tryz.zeroCells107 107) := ⟨_, rfl⟩
 rw [← hW]
 have h0 : W.heap[w.heap.size]? = some (funcO pa pn pc ba bn bc) := by rw [hW, Below.heap_alloc _ _ _ (by simp; omega), Below.heap_alloc _ _ _ (by simp)]; exact heap_alloc_new _ _
 have h1 : W.heap[w.heap.size + 1]? = some (rsetO of) := by rw [hW, Below.heap_alloc _ _ _ (by simp), heap_at _ _ _ (by simp)]
 have h2 : W.heap[w.heap.size + 1 + 1]? = some (rsetO fun _ => false) := by rw [hW, heap_at _ _ _ (by simp), zero_rset]
 have hB : Below w.heap.size w W := by rw [hW]; exact ((ext_alloc _ _).alloc (by simp) _).alloc (by simp; omega) _
 have HJ := Lib.hid (And.intro h0 (And.intro h1 (And.intro h2 hB)))
 have hWs := lt_of_heap h2
 clear hW h0 h1 h2 hB
 go_upto_region 2 with (first
  | (refine wpList_load_row (o := ⟨some 11, .load 25 _, _, _, _, _⟩) rfl 25 _ rfl w.heap.size rfl 25 _ (0, 0) _ HJ.out.1 Tryz.underlying25 rfl size_func ?_)
  | (go_at_call 73
     refine (whole17_any pa pn pc ba bn bc hbn W).mono ?_;rintro e w1 ⟨rfl, hb1⟩;have HB1 := Lib.hid hb1;have hw1 := hb1.size
     clear hb1)
  | (refine wpList_store_row (o := ⟨none, .store 107 _ _, _, _, _, _⟩) rfl 107 _ _ rfl w1.heap.size (setA (wholeS bn)) rfl rfl 107 _ (heap_alloc_new _ _) (by rw [setA_size]; exact size_rset) rfl (setA_all _) ?_))
 obtain ⟨R, hR⟩ : ∃ R, R = w1.heap.size := ⟨_, rfl⟩
 obtain ⟨W2, hW2⟩ : ∃ W, W = (w1.alloc (.cells Tryz.zeroCells107 107)).setRow w1.heap.size (setA (wholeS bn)) := ⟨_, rfl⟩
 rw [← hW2, ← hR, put_none]
 have hr2 : W2.heap[R]? = some (rsetO (wholeS bn)) := by rw [hW2, hR]; exact setRow_heap _ _ _ _ _ _ (heap_alloc_new _ _)
 have hb2 : Below W.heap.size W W2 := by rw [hW2]; exact below_setRow (ext_trans HB1.out (ext_alloc _ _)) hw1 _
 have hRs : W.heap.size ≤ R := by rw [hR]; exact hw1
 have hc2 := rset_cell hr2 b hb
 have hf2 := rset_free hr2 b
 have hl2 := lt_of_heap hr2
 have HR2 := Lib.hid hr2
 have HB2 := Lib.hid hb2
 clear hW2 hR hr2 hb2 HB1 hw1
 go_upto_region 3 with (fail)
 obtain ⟨W3, hW3⟩ : ∃ W, W = W2.setCell ⟨R, b, none⟩ (.bool false) := ⟨_, rfl⟩
 rw [← hW3]
 have hr3 : W3.heap[R]? = some (rsetO (lessS (wholeS bn) b)) := by rw [hW3]; exact rset_to HR2.out hb (by funext k; simp only [lessS]; by_cases e : k = b <;> simp [e])
 have hb3 : Below W.heap.size W W3 := by rw [hW3]; exact HB2.out.setCell (by simpa using hRs) _
 have HR3 := Lib.hid hr3
 have HB3 := Lib.hid hb3
 have hl3 := hb3.size
 clear hW3 hr3 hb3 hc2 hf2 hl2 HR2 HB2
 obtain ⟨fr, hfr⟩ : ∃ f, f = walkF (nx (tsOf bs)) (lessS (wholeS bn) b) 0 := ⟨_, rfl⟩
 have HFR := Lib.hid hfr
 clear hfr
 go_upto_region 4 with (first
  | (refine wpList_load_row (o := ⟨some 15, .load 25 _, _, _, _, _⟩) rfl 25 _ rfl w.heap.size rfl 25 _ (0, 0) _ (block_ext HB3.out HJ.out.1) Tryz.underlying25 rfl size_func ?_)
  | (refine wpList_load_row (o := ⟨some 16, .load 107 _, _, _, _, _⟩) rfl 107 _ rfl R rfl 107 _ (0, 0) _ HR3.out Tryz.underlying107 rfl (by rw [setA_size]; exact size_rset) ?_)
  | (go_at_call 98
     refine (behind17_any pa pn pc ba bn bc bs 0 (lessS (wholeS bn) b) W3 (H.out.ext (ext_trans HJ.out.2.2.2 HB3.out)) HG.out (by omega) (less_canon (whole_canon hbn) b) (fun _ => by omega)).mono ?_;rintro e w4 ⟨rfl, hb4⟩;rw [← HFR.out];have HB4 := Lib.hid (ext_trans HB3.out hb4)
     clear hb4)
  | (refine wpList_store_row (o := ⟨none, .store 107 _ _, _, _, _, _⟩) rfl 107 _ _ rfl w4.heap.size (setA fr) rfl rfl 107 _ (heap_alloc_new _ _) (by rw [setA_size]; exact size_rset) rfl (setA_all _) ?_))
 obtain ⟨F, hF⟩ : ∃ F, F = w4.heap.size := ⟨_, rfl⟩
 obtain ⟨W5, hW5⟩ : ∃ W, W = (w4.alloc (.cells Tryz.zeroCells107 107)).setRow w4.heap.size (setA fr) := ⟨_, rfl⟩
 rw [← hW5, ← hF, put_none]
 have hr5 : W5.heap[F]? = some (rsetO fr) := by rw [hW5, hF]; exact setRow_heap _ _ _ _ _ _ (heap_alloc_new _ _)
 have hb5 : Below W.heap.size W W5 := by rw [hW5]; exact below_setRow (ext_trans HB4.out (ext_alloc _ _)) HB4.out.size _
 have hFs : W.heap.size ≤ F := by rw [hF]; exact HB4.out.size
 have hc5 := rset_cell hr5 0 (by omega)
 have hf5 := rset_free hr5 0
 have hl5 := lt_of_heap hr5
 have HR5 := Lib.hid hr5
 have HB5 := Lib.hid hb5
 clear hW5 hF hr5 hb5 HB4 HR3 HB3 hRs hl3
 go_upto_region 6 with (fail)
 obtain ⟨S, hS⟩ : ∃ S, S = W5.heap.size := ⟨_, rfl⟩
 obtain ⟨W6, hW6⟩ : ∃ W, W = (W5.setCell ⟨F, 0, none⟩ (.bool true)).alloc (.cells Tryz.zeroCells107 107) := ⟨_, rfl⟩
 have hr6 : W6.heap[F]? = some (rsetO (fr0 (tsOf bs) b)) := by
  rw [hW6, Below.heap_alloc _ _ _ (by simp; exact hl5)];exact rset_to HR5.out (by omega) (by funext k; simp only [fr0, HFR.out, HTL.out])
 have hs6 : W6.heap[S]? = some (rsetO (guTo of (fr0 (tsOf bs) b) 0)) := by rw [hW6, heap_at _ _ _ (by simp [hS]), zero_rset, guTo_zero]
 have hb6 : Below W.heap.size W W6 := by rw [hW6]; exact (HB5.out.setCell (by simpa using hFs) _).alloc (by simp; omega) _
 have hFS : F < S := by omega
 have hWF : w.heap.size + 1 + 1 < F := by omega
 have HJ6 : Hid (GuR w (funcO pa pn pc ba bn bc) of (fr0 (tsOf bs) b) F S 0 W6) := ⟨block_ext hb6 HJ.out.1, block_ext hb6 HJ.out.2.1, block_ext hb6 HJ.out.2.2.1, hr6, hs6, ext_trans HJ.out.2.2.2 hb6⟩
 rw [← hW6, ← hS]
 clear hW6 hS hr6 hs6 hb6 hc5 hf5 hl5 HR5 HB5 HFR HJ hFs hWs
 go_wp2
 go_loopw [10] (fun s10 wr => ∃ i : Nat, i ≤ bn ∧ s10 = .int .i64 (i : Int) ∧ Hid (GuR w (funcO pa pn pc ba bn bc) of (fr0 (tsOf bs) b) F S i wr)) (fun s10 _ => bn - (intOf s10).toNat)
 case atStart => exact ⟨0, by omega, rfl, HJ6⟩
 case round =>
  obtain ⟨i, hi, rfl, HI⟩ := hrel;clear HJ6;have kf := HI.out.h0;have k1 : wr.cell? ⟨w.heap.size, 1, none⟩ = some (.slice ba bn bc) := by rw [cell_of_row _ _ _ _ _ _ kf]; rfl
  clear kf;by_cases hlt : i < bn
  · have hlt' : (i : Int) < (bn : Int) := by omega
    have hi200 : i < 200 := by omega
    have co := rset_cell HI.out.h1 i hi200;have cf := rset_cell HI.out.free i hi200;have cs := rset_cell HI.out.set i hi200;have fs := rset_free HI.out.set i;have hls := lt_of_heap HI.out.set;obtain ⟨ob, hob⟩ : ∃ x, x = of i := ⟨_, rfl⟩
    obtain ⟨fb, hfb⟩ : ∃ x, x = fr0 (tsOf bs) b i := ⟨_, rfl⟩
    rw [← hob] at co;rw [← hfb] at cf;have HOB := Lib.hid hob;have HFB := Lib.hid hfb;clear hob hfb;cases ob with
    | false =>
      have HN := Lib.hid (HI.out.step hi200 hFS hWF (v := false) (by rw [← HOB.out]; rfl));go_wp2
      go_roundw
      case rel => exact ⟨i + 1, by omega, by go_num, HN⟩
      case measure => simp [intOf]; omega
    | true =>
      have HN := Lib.hid (HI.out.step hi200 hFS hWF (v := !fb) (by rw [← HOB.out, ← HFB.out]; rfl));go_wp2
      go_roundw
      case rel => exact ⟨i + 1, by omega, by go_num, HN⟩
      case measure => simp [intOf]; omega
  · obtain rfl : i = bn := by omega
    have hsz := lt_of_heap HI.out.h2;have HE : Hid (guTo of (fr0 (tsOf bs) b) i = guardedP (tsOf bs) b of) := by rw [Hid, ← HTL.out]; exact guTo_end _ _ (by rw [HTL.out]; exact HOF.out)
    have hst := HI.out.set;rw [HE.out] at hst;have HST := Lib.hid hst;clear hst;obtain ⟨G, hG⟩ : ∃ G, G = guardedP (tsOf bs) b of := ⟨_, rfl⟩
    rw [← hG] at HST;have HGE := Lib.hid hG;clear hG HE
    go_wp2_with (first
     | (refine wpList_load_row rfl 107 _ rfl S rfl 107 _ (0, 0) _ HST.out Tryz.underlying107 rfl (by rw [setA_size]; exact size_rset) ?_)
     | (refine wpList_store_row rfl 107 _ _ rfl (w.heap.size + 1 + 1) (setA G) rfl rfl 107 _ HI.out.h2 (by rw [setA_size]; exact size_rset) rfl (setA_all _) ?_))
    exact bodyPost_ret (v := .agg (setA G)) (by simp [results, Tryz.results127, asAddr, Act.put, load_rset (setRow_heap _ _ _ _ _ _ HI.out.h2)]) rfl ⟨by rw [HGE.out], below_setRow HI.out.below (by omega) _⟩
end
end Go.Proofs.YtblhmdhfhaencaaGreat
