/-
  Blocks with their instructions; BlocksOf, FuncOf, the laws' own great, with all bounds that they give.
-/
import Derived.Test.YtblhmdhfhaencaaGreatEL
import Derived.Test.YtblhmdhfhaencaaGreatLentG
import Derived.Test.YtblhmdhfhaencaaGreatBR
import Derived.Test.YtblhmdhfhaencaaGreatSortI
import Derived.Test.YtblhmdhfhaencaaGreatTI
import Derived.Test.YtblhmdhfhaencaaGreatTV
import Derived.Test.YtblhmdhfhaencaaGreatFI2
import Derived.ArgAppend
import Derived.Deep.Onto
import Derived.Maps.AppendAt
namespace Go.Proofs.YtblhmdhfhaencaaGreat
set_option linter.unusedSimpArgs false
set_option linter.unusedVariables false
set_option linter.unusedSectionVars false
set_option maxRecDepth 100000
set_option maxHeartbeats 40000000
section
open Go.RowKit
attribute [local go_sem] Oper.semAt_some wide_fn wide_depth wide_fnR wide_depthR
structure BlkR where
  h : BlkH
  rs : List InsR
abbrev blkC' (b : BlkR) : List Value := blkC b.h
theorem blkC'_len (b : BlkR) : (blkC' b).length = 5 := rfl
def BlkROK (w : World) (b : BlkR) : Prop := TermOK b.h.t ∧ InsS w b.h.ia b.h.n b.rs
theorem BlkROK.ext {w w' : World} {b : BlkR} (h : BlkROK w b) (hb : Below w.heap.size w w') : BlkROK w' b := ⟨h.1, h.2.ext hb⟩
def BlksR (w : World) (a : Option Addr) (n : Nat) (bs : List BlkR) : Prop := Recs 5 blkC' w a n bs ∧ ∀ b ∈ bs, BlkROK w b
theorem BlksR.ext {w w' : World} {a : Option Addr} {n : Nat} {bs : List BlkR} (h : BlksR w a n bs) (hb : Below w.heap.size w w') : BlksR w' a n bs := ⟨h.1.ext blkC'_len hb, fun b hx => (h.2 b hx).ext hb⟩
def hOf (bs : List BlkR) : List BlkH := bs.map (·.h)
theorem BlksR.x {w : World} {a : Option Addr} {n : Nat} {bs : List BlkR} (h : BlksR w a n bs) : BlksX w a n (hOf bs) := by
  refine ⟨⟨⟨by simp [hOf, h.1.1], h.1.2.1, fun k r hr => ?_⟩, fun b hb => ?_⟩, fun b hb => ?_⟩
  · simp only [hOf, List.getElem?_map, Option.map_eq_some_iff] at hr;obtain ⟨x, hx, rfl⟩ := hr;exact h.1.2.2 k x hx
  · simp only [hOf, List.mem_map] at hb;obtain ⟨x, hx, rfl⟩ := hb;exact (h.2 x hx).1
  · simp only [hOf, List.mem_map] at hb;obtain ⟨x, hx, rfl⟩ := hb;exact ⟨x.rs, (h.2 x hx).2⟩
theorem BlksX.r {w : World} {a : Option Addr} {n : Nat} {bs : List BlkH} (h : BlksX w a n bs) : ∃ xs, hOf xs = bs ∧ BlksR w a n xs := by
  have key : ∀ bs : List BlkH, (∀ b ∈ bs, ∃ rs, InsS w b.ia b.n rs) → ∃ xs : List BlkR, hOf xs = bs ∧ ∀ x ∈ xs, InsS w x.h.ia x.h.n x.rs := by
    intro bs
    induction bs with
    | nil => exact fun _ => ⟨[], rfl, fun x hx => by cases hx⟩
    | cons b bs ih =>
      intro hb;obtain ⟨xs, h1, h2⟩ := ih fun c hc => hb c (by simp [hc]);obtain ⟨rs, hr⟩ := hb b (by simp);refine ⟨⟨b, rs⟩ :: xs, by simp [hOf] at h1 ⊢; exact h1, fun x hx => ?_⟩;rcases List.mem_cons.1 hx with rfl | hx
      · exact hr
      · exact h2 x hx
  obtain ⟨xs, h1, h2⟩ := key bs h.2
  subst h1
  refine ⟨xs, rfl, ⟨by have := h.1.1.1; simpa [hOf] using this, h.1.1.2.1, fun k r hr => h.1.1.2.2 k r.h (by simp [hOf, hr])⟩, fun x hx => ⟨h.1.2 x.h (by simp only [hOf, List.mem_map]; exact ⟨x, hx, rfl⟩), h2 x hx⟩⟩
def BigOK (most : Int) (b : BlkR) : Prop := (b.h.n : Int) ≤ most ∧ ∀ r ∈ b.rs, (r.na : Int) ≤ most
def BlocksPost2 (bs : List BlkR) (most : Int) (w : World) (e : Ending) (w' : World) : Prop := ∃ v : Int, e = .returned (.int .i64 v) ∧ 0 ≤ v ∧ v ≤ 35184372088841 ∧ (v ≤ most → (bs.length : Int) ≤ most ∧ ∀ b ∈ bs, BigOK most b) ∧ w = w'
theorem blocksOf_any2 (a : Option Addr) (n c : Nat) (bs : List BlkR) (most : Int) (h0 : 0 ≤ most) (h1 : most ≤ 10000) (w : World) (h : BlksR w a n bs) :
    Calls Tryz.prog 111 #[.slice a n c, .int .i64 most] w (BlocksPost2 bs most w) := by
  have H := Lib.hid h
  have HL := Lib.hid h.1.1
  have hn := h.1.2.1
  clear h
  go_enter Tryz.func111, Tryz.ntmps111
  go_wp2
  go_loopg [5, 6, 7] n (fun gg s5 s6 _ wr => ∃ (i : Nat) (acc : Int), s6 = .int .i64 i ∧ s5 = .int .i64 acc ∧ i ≤ n ∧ n - i ≤ gg ∧ (i : Int) ≤ acc ∧ acc ≤ 35184372088841 ∧ Hid (acc ≤ most → ∀ b ∈ bs.take i, BigOK most b) ∧ wr = w)
  case atStart => exact ⟨0, 0, rfl, rfl, by omega, by omega, by omega, by omega, fun _ b hb => by simp at hb, rfl⟩
  case round =>
    obtain ⟨i, acc, rfl, rfl, hi, hgg, ha0, ha1, HR, rfl⟩ := hrel;by_cases hlt : i < n
    · by_cases hm : acc ≤ most
      · have hir : i < bs.length := by rw [HL.out]; exact hlt
        obtain ⟨b, hb⟩ : ∃ b, bs[i]? = some b := ⟨bs[i], List.getElem?_eq_getElem hir⟩
        obtain ⟨B, o, rfl, hc⟩ := H.out.1.2.2 i b hb;have g0 := hc 0 (by omega);rw [Nat.add_zero] at g0;have hI := (H.out.2 b (List.mem_of_getElem? hb)).2;have HI := Lib.hid hI;have hbn := hI.1.2.1;have HB := Lib.hid hb;have g0' : wr.cell? ⟨B, o + i * 5, none⟩ = some (.slice b.h.ia b.h.n b.h.c) := g0;have hmr := HR.out hm;have HMR := Lib.hid hmr;clear hb hc hI g0 hmr;have hlt' : (i : Int) < (n : Int) := by omega
        go_wp2;obtain ⟨wo, rfl⟩ : ∃ wo : World, wo = wr := ⟨_, rfl⟩
        have HT : Hid (∀ acc2 : Int, acc + 1 + b.h.n ≤ acc2 → acc2 ≤ most → (∀ r ∈ b.rs, (r.na : Int) ≤ most) → ∀ x ∈ bs.take (i + 1), BigOK most x) := fun acc2 h1 h2 h3 x hx => by
          rw [List.take_add_one, HB.out, List.mem_append] at hx;rcases hx with hx | hx
          · exact HMR.out x hx
          · simp at hx; subst hx; exact ⟨by omega, h3⟩
        go_loopg [5, 7] b.h.n (fun gg2 s5 s7 wi => ∃ (k : Nat) (acc2 : Int), s7 = .int .i64 k ∧ s5 = .int .i64 acc2 ∧ k ≤ b.h.n ∧ b.h.n - k ≤ gg2 ∧ acc + 1 + b.h.n ≤ acc2 ∧ acc2 ≤ 35184372088841 ∧ Hid (acc2 ≤ most → ∀ r ∈ b.rs.take k, (r.na : Int) ≤ most) ∧ wi = wo)
        case atStart => exact ⟨0, acc + 1 + b.h.n, rfl, rfl, by omega, by omega, by omega, by omega, fun _ r hr => by simp at hr, rfl⟩
        case round =>
          obtain ⟨k, acc2, rfl, rfl, hk, hgg2, hb1, hb2, HRk, rfl⟩ := hrel;by_cases hk2 : k < b.h.n
          · by_cases hm2 : acc2 ≤ most
            · obtain ⟨r, bb, oo, hr, hok, hia, c0, c1, c2, c3, c4, c5, c6, c7⟩ := HI.out.cells hk2;have hna := hok.1.2.1;rw [hia] at g0';have hkz : (k : Int) < (b.h.n : Int) := by omega
              have HRk2 : Hid (acc2 + r.na ≤ most → ∀ q ∈ b.rs.take (k + 1), (q.na : Int) ≤ most) := fun h q hq => by
                rw [List.take_add_one, hr, List.mem_append] at hq;rcases hq with hq | hq
                · exact HRk.out (by omega) q hq
                · simp at hq; subst hq; omega
              clear hr hok c0 c1 c2 c3 c4 c5 c7 hia;go_wp2
              go_roundg (b.h.n - (k + 1))
              case measure => omega
              case rel => exact ⟨k + 1, acc2 + r.na, by go_num, rfl, by omega, Nat.le_refl _, by omega, by omega, HRk2, rfl⟩
            · have hkz : (k : Int) < (b.h.n : Int) := by omega
              have hm3 : most < acc2 := by omega
              go_wp2
              go_roundg (n - (i + 1))
              case measure => omega
              case rel => exact ⟨i + 1, acc2, by go_num, rfl, by omega, Nat.le_refl _, by omega, by omega, fun h => absurd h (by omega), rfl⟩
          · have hkz : ¬ (k : Int) < (b.h.n : Int) := by omega
            have HRk3 : Hid (acc2 ≤ most → ∀ r ∈ b.rs, (r.na : Int) ≤ most) := fun h => by
              have := HRk.out h
              rwa [List.take_of_length_le (by rw [HI.out.1.1]; omega)] at this
            go_wp2
            go_roundg (n - (i + 1))
            case measure => omega
            case rel => exact ⟨i + 1, acc2, by go_num, rfl, by omega, Nat.le_refl _, by omega, by omega, fun h => HT.out acc2 hb1 h (HRk3.out h), rfl⟩
      · have hm3 : most < acc := by omega
        have hlt' : (i : Int) < (n : Int) := by omega
        go_wp2
        go_ret
        exact ⟨acc, rfl, by omega, ha1, fun h => absurd h (by omega), rfl⟩
    · obtain rfl : i = n := by omega
      have HT : Hid (bs.take i = bs) := List.take_of_length_le (by rw [HL.out]; omega);go_wp2
      go_ret
      exact ⟨acc, rfl, by omega, ha1, fun h => ⟨by rw [HL.out]; omega, by have := HR.out h; rw [HT.out] at this; exact this⟩, rfl⟩
def FuncOfPost2 (pn : Nat) (bs : List BlkR) (most : Int) (w : World) (e : Ending) (w' : World) : Prop := ∃ z : Int, e = .returned (.int .i64 z) ∧ 0 ≤ z ∧ z ≤ 70368744177664 ∧ (z ≤ most → (pn : Int) ≤ most ∧ (bs.length : Int) ≤ most ∧ ∀ b ∈ bs, BigOK most b) ∧ Below w.heap.size w w'
theorem funcOf_any2 (pa : Option Addr) (pn pc : Nat) (hpn : pn ≤ 17592186044416) (ba : Option Addr) (bn bc : Nat) (bs : List BlkR) (most : Int) (h0 : 0 ≤ most) (h1 : most ≤ 10000) (w : World) (h : BlksR w ba bn bs) :
    Calls Tryz.prog 51 #[funcV pa pn pc ba bn bc, .int .i64 most] w (FuncOfPost2 pn bs most w) := by
  have HX := Lib.hid h
  clear h
  go_enter Tryz.func51, Tryz.ntmps51
  go_upto_region 1 with (fail)
  obtain ⟨W, hW⟩ : ∃ W, W = w.alloc (funcO pa pn pc ba bn bc) := ⟨_, rfl⟩
  rw [← hW]
  have hk0 : W.heap[w.heap.size]? = some (funcO pa pn pc ba bn bc) := by rw [hW]; exact heap_alloc_new _ _
  have hB : Below w.heap.size w W := by rw [hW]; exact ext_alloc _ _
  have HK := Lib.hid hk0
  have HB := Lib.hid hB
  clear hW hk0 hB
  refine region_free 8 [some 5, some 6, some 7, some 8, some 9, some 10, some 11, some 12] (by kernel_rfl) (by kernel_rfl) (specB [.val (.pointer (some ⟨w.heap.size, 0, none⟩)), .val (.slice pa pn pc), .val (.int .i64 (pn : Int)), .val (.pointer (some ⟨w.heap.size, 1, none⟩)), .val (.slice ba bn bc), .val (.int .i64 most), (.any fun v lo hi W => ∃ z : Int, v = .int .i64 z ∧ 0 ≤ z ∧ z ≤ 35184372088841 ∧ (z ≤ most → (bs.length : Int) ≤ most ∧ ∀ b ∈ bs, BigOK most b)), (.any fun v lo hi W => ∃ z : Int, v = .int .i64 z ∧ 0 ≤ z ∧ z ≤ 70368744177664 ∧ (z ≤ most → (pn : Int) ≤ most ∧ (bs.length : Int) ≤ most ∧ ∀ b ∈ bs, BigOK most b))]) (specB_mono ?_) ?_ ?_
  · intro k hk;simp only [List.mem_cons, List.not_mem_nil, or_false] at hk;rcases hk with rfl | rfl | rfl | rfl | rfl | rfl | rfl | rfl
    · exact trivial
    · exact trivial
    · exact trivial
    · exact trivial
    · exact trivial
    · exact trivial
    · intro v lo hi w w' _ h; exact h
    · intro v lo hi w w' _ h; exact h
  · intro i hi ν lo hi' w1 K hB hD hK;have hcase : i = 0 ∨ i = 1 ∨ i = 2 ∨ i = 3 ∨ i = 4 ∨ i = 5 ∨ i = 6 ∨ i = 7 := by omega
    clear hi;rcases hcase with rfl | rfl | rfl | rfl | rfl | rfl | rfl | rfl
    · clear hD;refine wpOp_atK rfl rfl ?_;simp only [zA,zB,zC,zD,zE,zF,zJ,zK,zG,zH,zI] at hK ⊢;go_simp;exact hK _ _ (Below.refl _ _) rfl
    · have e0 := hD 0 (by kernel_rfl)
      replace e0 : ν 0 = (.pointer (some ⟨w.heap.size, 0, none⟩)) := e0
      clear hD;refine wpOp_atK rfl rfl ?_;simp only [zA,zB,zC,zD,zE,zF,zJ,zK,zG,zH,zI, e0] at hK ⊢;have hcl : w1.cell? ⟨w.heap.size, 0, none⟩ = some (.slice pa pn pc) := (by rw [cell_of_row _ _ _ _ _ _ (block_ext hB HK.out)]; rfl)
      go_simp;exact hK _ _ (Below.refl _ _) rfl
    · have e1 := hD 1 (by kernel_rfl)
      replace e1 : ν 1 = (.slice pa pn pc) := e1
      clear hD;refine wpOp_atK rfl rfl ?_;simp only [zA,zB,zC,zD,zE,zF,zJ,zK,zG,zH,zI, e1] at hK ⊢;go_simp;exact hK _ _ (Below.refl _ _) rfl
    · clear hD;refine wpOp_atK rfl rfl ?_;simp only [zA,zB,zC,zD,zE,zF,zJ,zK,zG,zH,zI] at hK ⊢;go_simp;exact hK _ _ (Below.refl _ _) rfl
    · have e3 := hD 3 (by kernel_rfl)
      replace e3 : ν 3 = (.pointer (some ⟨w.heap.size, 1, none⟩)) := e3
      clear hD;refine wpOp_atK rfl rfl ?_;simp only [zA,zB,zC,zD,zE,zF,zJ,zK,zG,zH,zI, e3] at hK ⊢;have hcl : w1.cell? ⟨w.heap.size, 1, none⟩ = some (.slice ba bn bc) := (by rw [cell_of_row _ _ _ _ _ _ (block_ext hB HK.out)]; rfl)
      go_simp;exact hK _ _ (Below.refl _ _) rfl
    · clear hD;refine wpOp_atK rfl rfl ?_;simp only [zA,zB,zC,zD,zE,zF,zJ,zK,zG,zH,zI] at hK ⊢;go_simp;exact hK _ _ (Below.refl _ _) rfl
    · have e4 := hD 4 (by kernel_rfl)
      replace e4 : ν 4 = (.slice ba bn bc) := e4
      have e5 := hD 5 (by kernel_rfl)
      replace e5 : ν 5 = (.int .i64 most) := e5
      clear hD;refine wpOp_atK rfl rfl ?_;simp only [zA,zB,zC,zD,zE,zF,zJ,zK,zG,zH,zI, e4, e5] at hK ⊢;go_simp;refine (blocksOf_any2 ba bn bc bs most h0 h1 w1 (HX.out.ext (ext_trans HB.out hB))).mono ?_;rintro e w3 ⟨z, rfl, hz0, hz1, hz2, rfl⟩;exact hK _ _ (Below.refl _ _) ⟨z, rfl, hz0, hz1, hz2⟩
    · have e2 := hD 2 (by kernel_rfl)
      replace e2 : ν 2 = (.int .i64 (pn : Int)) := e2
      have e6 := hD 6 (by kernel_rfl);unfold specB at e6;simp only [List.getD_cons_zero, List.getD_cons_succ, specK] at e6;clear hD;refine wpOp_atK rfl rfl ?_;simp only [zA,zB,zC,zD,zE,zF,zJ,zK,zG,zH,zI, e2] at hK ⊢;obtain ⟨z, hz, hz0, hz1, hz2⟩ := e6;simp only [hz] at hK ⊢;go_simp;exact hK _ _ (Below.refl _ _) ⟨(pn : Int) + z, by rw [IntKind.wrap_i64]; congr 1; omega, by omega, by omega, fun h => ⟨by omega, hz2 (by omega)⟩⟩
  · intro ν lo hi w1 hB hS hI hD;have e0 : ν 0 = (.pointer (some ⟨w.heap.size, 0, none⟩)) := hS 0 (by omega);have e1 : ν 1 = (.slice pa pn pc) := hS 1 (by omega);have e2 : ν 2 = (.int .i64 (pn : Int)) := hS 2 (by omega);have e3 : ν 3 = (.pointer (some ⟨w.heap.size, 1, none⟩)) := hS 3 (by omega);have e4 : ν 4 = (.slice ba bn bc) := hS 4 (by omega);have e5 : ν 5 = (.int .i64 most) := hS 5 (by omega);have e6 := hS 6 (by omega);unfold specB at e6;simp only [List.getD_cons_zero, List.getD_cons_succ, specK] at e6;have e7 := hS 7 (by omega);unfold specB at e7;simp only [List.getD_cons_zero, List.getD_cons_succ, specK] at e7;clear hS;simp only [List.drop_succ_cons, List.drop_zero, zA,zB,zC,zD,zE,zF,zJ,zK,zG,zH,zI, e0, e1, e2, e3, e4, e5];clear e0 e1 e2 e3 e4 e5 e6;obtain ⟨z, hz, hz0, hz1, hz2⟩ := e7;rw [hz];have HZ2 := Lib.hid hz2;have HB9 := Lib.hid (ext_trans HB.out hB);clear hI hD hB hz2;go_wp2
    go_ret
    exact ⟨z, rfl, hz0, hz1, HZ2.out, HB9.out⟩
def GreatPost2 (bn : Nat) (pn : Nat) (bs : List BlkR) (n : Nat) (ls : List TileR) (most : Nat) (w : World) (e : Ending) (w' : World) : Prop :=
  ∃ b, e = .returned (.bool b) ∧ Below w.heap.size w w' ∧ (b = false → (bn ≤ most ∨ 200 < bn) ∧ n + totL (tdOf ls) ≤ 3 * most ∧ (pn : Int) ≤ 2000 ∧ (bs.length : Int) ≤ 2000 ∧ ∀ b ∈ bs, BigOK 2000 b)
end

section
open Go.RowKit
def InsNA (r : InsR) : Prop := r.na ≤ 1000000
def SDIns (r s : InsR) : Prop := r.d = s.d
theorem SDIns_refl (r : InsR) : SDIns r r := rfl
theorem info_Ins : (Tryz.prog.info? 216).map (fun i => (i.zero, i.size, i.bytes)) = some (some (.agg #[.int .i64 0, .int .i64 0, .int .i64 0, .int .i64 0, .int .i64 0, .int .i64 0, .slice none 0 0, .int .i64 0]), 8, 80) := by kernel_rfl
theorem Ins_one (r : InsR) : ∀ u ∈ insC r, u.oneCell' = true := by
  intro u hu
  simp only [insC, List.mem_cons, List.not_mem_nil, or_false] at hu
  rcases hu with rfl | rfl | rfl | rfl | rfl | rfl | rfl | rfl <;> rfl
def LentR (w : World) (base : Nat) (r r' : InsR) : Prop := r'.d = r.d ∧ Lent w base (.slice r'.aa r'.na r'.ca) r.d.args
theorem LentR.sd {w : World} {base : Nat} {r r' : InsR} (h : LentR w base r r') : SDIns r' r := h.1
theorem LentR_law : LentLaw [3] LentR where
  chg := fun h hc hn => ⟨h.1, h.2.chg hc hn⟩
  mono := fun hb h => ⟨h.1, h.2.mono hb⟩
  grown := fun he h ho hg => ⟨h.1, h.2.grown (fun e => he (by simp [e])) ho hg⟩
theorem LentR.ok {w : World} {base : Nat} {r r' : InsR} (h : LentR w base r r') (hr : InsOK w r) (_ : InsNA r) : InsOK w r' := by
  obtain ⟨hd, hl⟩ := h
  obtain ⟨a, c, e, hi⟩ := hl.ints (by rw [hr.1.1]; exact hr.1.2.1) hr.1.mem
  obtain ⟨g, cap, e2, hc, _⟩ := hl.cells
  injection e with e1 e2' e3
  injection e2 with f1 f2 f3
  refine ⟨?_, by omega, ?_⟩
  · rw [hd, e1, e2']; exact hi
  · rw [hd]; exact hr.2.2
def markR (i : Nat) : InsR := ⟨⟨0, 0, 0, 0, markV 1 (i : Int), 0, [], 0⟩, none, 0, 0⟩
theorem markR_ok (w : World) (k : Nat) (hk : k < 12) : InsOK w (markR k) := by
  have hm : I64 (markV 1 (k : Int)) := by unfold I64 markV; omega
  have z : I64 0 := by unfold I64; omega
  exact ⟨⟨rfl, Nat.zero_le _, fun j hj => absurd hj (by simp [markR])⟩, Nat.le_refl _, z, z, z, z, hm, z, z⟩
theorem markR_na (k : Nat) : InsNA (markR k) := by simp [InsNA, markR]
theorem lentIns_any (r : InsR) (w : World) (h : InsOK w r) (hn : InsNA r) :
    Calls Tryz.prog 209 #[insVR r] w fun e w' => ∃ r', e = .returned (insVR r') ∧ LentR w' w.heap.size r r' ∧ Below w.heap.size w w' := by
  have H := Lib.hid h
  have HN := Lib.hid hn
  clear h hn
  go_enter Tryz.func209, Tryz.ntmps209
  go_wp2_with (first
    | (go_at_call 52
       refine (lentInts_any r.aa r.na r.ca r.d.args _ (H.out.1.ext (ext_trans (ext_alloc _ _) (ext_alloc _ _))) HN.out).mono ?_;rintro e w1 ⟨v, rfl, hL, hb⟩;obtain ⟨g0, cap0, rfl⟩ := hL.form;obtain ⟨x1, x2, x3⟩ := box2 w (.cells #[.int .i64 r.d.op, .int .i64 r.d.dst, .int .i64 r.d.a, .int .i64 r.d.b, .int .i64 r.d.imm, .int .i64 r.d.callee, .slice r.aa r.na r.ca, .int .i64 r.d.many] 216) (.cells #[.int .i64 0, .int .i64 0, .int .i64 0, .int .i64 0, .int .i64 0, .int .i64 0, .slice none 0 0, .int .i64 0] 216) w1 hb;have y6 : w1.cell? ⟨w.heap.size, 6, none⟩ = some (.slice r.aa r.na r.ca) := by rw [cell_of_row _ _ _ _ _ _ x1]; rfl
       have z6 : w1.frozen? ⟨w.heap.size, 6, none⟩ = false := frozen_of_row _ _ _ _ _ x1;obtain ⟨W1, hW2⟩ : ∃ W, w1.setCell ⟨w.heap.size, 6, none⟩ (.slice (some ⟨g0, 0, none⟩) r.d.args.length cap0) = W := ⟨_, rfl⟩
       have c2 : Chg (fun k => k = w.heap.size) w1 W1 := by rw [← hW2]; exact chg_setCell _ _ _ _
       have HL1_0 := Lib.hid (hL.chg c2 (fun k hk => by simp; omega));have X1 : W1.heap[w.heap.size]? = some (.cells #[.int .i64 r.d.op, .int .i64 r.d.dst, .int .i64 r.d.a, .int .i64 r.d.b, .int .i64 r.d.imm, .int .i64 r.d.callee, .slice (some ⟨g0, 0, none⟩) r.d.args.length cap0, .int .i64 r.d.many] 216 (0, 0)) := by rw [← hW2, heap_setCell_same _ _ 6 _ _ _ x1]; rfl
       have HK1 := Lib.hid X1;have HZ1 := Lib.hid (c2.row x2 (by omega));have HX1 := Lib.hid (x3.trans (c2.below (B := w.heap.size) x3.size (fun k hk => by omega)));have i1_0 : W1.cell? ⟨w.heap.size, 0, none⟩ = some (.int .i64 r.d.op) := by rw [cell_of_row _ _ _ _ _ _ X1]; rfl
       have i1_1 : W1.cell? ⟨w.heap.size, 1, none⟩ = some (.int .i64 r.d.dst) := by rw [cell_of_row _ _ _ _ _ _ X1]; rfl
       have i1_2 : W1.cell? ⟨w.heap.size, 2, none⟩ = some (.int .i64 r.d.a) := by rw [cell_of_row _ _ _ _ _ _ X1]; rfl
       have i1_3 : W1.cell? ⟨w.heap.size, 3, none⟩ = some (.int .i64 r.d.b) := by rw [cell_of_row _ _ _ _ _ _ X1]; rfl
       have i1_4 : W1.cell? ⟨w.heap.size, 4, none⟩ = some (.int .i64 r.d.imm) := by rw [cell_of_row _ _ _ _ _ _ X1]; rfl
       have i1_5 : W1.cell? ⟨w.heap.size, 5, none⟩ = some (.int .i64 r.d.callee) := by rw [cell_of_row _ _ _ _ _ _ X1]; rfl
       have i1_6 : W1.cell? ⟨w.heap.size, 6, none⟩ = some (.slice (some ⟨g0, 0, none⟩) r.d.args.length cap0) := by rw [cell_of_row _ _ _ _ _ _ X1]; rfl
       have i1_7 : W1.cell? ⟨w.heap.size, 7, none⟩ = some (.int .i64 r.d.many) := by rw [cell_of_row _ _ _ _ _ _ X1]; rfl
       clear hL x1 x2 x3 hb c2 X1)
    | (refine wpList_store_rowC rfl 216 _ _ rfl (w.heap.size + 1) #[.int .i64 r.d.op, .int .i64 r.d.dst, .int .i64 r.d.a, .int .i64 r.d.b, .int .i64 r.d.imm, .int .i64 r.d.callee, .slice (some ⟨g0, 0, none⟩) r.d.args.length cap0, .int .i64 r.d.many] rfl rfl 216 _ HZ1.out (by kernel_rfl) rfl (by simp [Value.oneCell']) ?_
       intro W9 c3 X3;have HL9_0 := Lib.hid (HL1_0.out.chg c3 (fun k hk => by simp; omega));have HX9 := Lib.hid (HX1.out.trans (c3.below (B := w.heap.size) HX1.out.size (fun k hk => by omega)));have j0 : W9.cell? ⟨w.heap.size + 1, 0, none⟩ = some (.int .i64 r.d.op) := by rw [cell_of_row _ _ _ _ _ _ X3]; rfl
       have j1 : W9.cell? ⟨w.heap.size + 1, 1, none⟩ = some (.int .i64 r.d.dst) := by rw [cell_of_row _ _ _ _ _ _ X3]; rfl
       have j2 : W9.cell? ⟨w.heap.size + 1, 2, none⟩ = some (.int .i64 r.d.a) := by rw [cell_of_row _ _ _ _ _ _ X3]; rfl
       have j3 : W9.cell? ⟨w.heap.size + 1, 3, none⟩ = some (.int .i64 r.d.b) := by rw [cell_of_row _ _ _ _ _ _ X3]; rfl
       have j4 : W9.cell? ⟨w.heap.size + 1, 4, none⟩ = some (.int .i64 r.d.imm) := by rw [cell_of_row _ _ _ _ _ _ X3]; rfl
       have j5 : W9.cell? ⟨w.heap.size + 1, 5, none⟩ = some (.int .i64 r.d.callee) := by rw [cell_of_row _ _ _ _ _ _ X3]; rfl
       have j6 : W9.cell? ⟨w.heap.size + 1, 6, none⟩ = some (.slice (some ⟨g0, 0, none⟩) r.d.args.length cap0) := by rw [cell_of_row _ _ _ _ _ _ X3]; rfl
       have j7 : W9.cell? ⟨w.heap.size + 1, 7, none⟩ = some (.int .i64 r.d.many) := by rw [cell_of_row _ _ _ _ _ _ X3]; rfl
       clear c3 X3))
  refine bodyPost_ret (v := .agg #[.int .i64 r.d.op, .int .i64 r.d.dst, .int .i64 r.d.a, .int .i64 r.d.b, .int .i64 r.d.imm, .int .i64 r.d.callee, .slice (some ⟨g0, 0, none⟩) r.d.args.length cap0, .int .i64 r.d.many]) (by simp [results, Tryz.results209, go_sem, j0, j1, j2, j3, j4, j5, j6, j7]) rfl ⟨⟨r.d, some ⟨g0, 0, none⟩, r.d.args.length, cap0⟩, rfl, ?_, HX9.out⟩
  exact ⟨rfl, HL9_0.out.mono (by simp; omega)⟩
theorem sameIns_any (r s : InsR) (w : World) (hd : SDIns r s) (hr : InsOK w r) (hs : InsOK w s) (hna : InsNA s) :
    Calls Tryz.prog 183 #[insVR r, insVR s] w fun e w' => e = .returned (.bool true) ∧ Below w.heap.size w w' := by
  obtain ⟨dr, ra, rn, rc⟩ := r
  obtain rfl : dr = s.d := hd
  have HR := Lib.hid hr
  have HS := Lib.hid hs
  clear hr hs hna
  obtain ⟨W0, HW0, hR, hS, hW0⟩ := boxes2 w (.cells #[.int .i64 s.d.op, .int .i64 s.d.dst, .int .i64 s.d.a, .int .i64 s.d.b, .int .i64 s.d.imm, .int .i64 s.d.callee, .slice ra rn rc, .int .i64 s.d.many] 216) (.cells #[.int .i64 s.d.op, .int .i64 s.d.dst, .int .i64 s.d.a, .int .i64 s.d.b, .int .i64 s.d.imm, .int .i64 s.d.callee, .slice s.aa s.na s.ca, .int .i64 s.d.many] 216)
  have x0 : ∀ w', Below W0.heap.size W0 w' → w'.cell? ⟨w.heap.size, 0, none⟩ = some (.int .i64 s.d.op) := fun w' hb => by rw [cell_of_row _ _ _ _ _ _ (block_ext hb hR)]; rfl
  have x1 : ∀ w', Below W0.heap.size W0 w' → w'.cell? ⟨w.heap.size, 1, none⟩ = some (.int .i64 s.d.dst) := fun w' hb => by rw [cell_of_row _ _ _ _ _ _ (block_ext hb hR)]; rfl
  have x2 : ∀ w', Below W0.heap.size W0 w' → w'.cell? ⟨w.heap.size, 2, none⟩ = some (.int .i64 s.d.a) := fun w' hb => by rw [cell_of_row _ _ _ _ _ _ (block_ext hb hR)]; rfl
  have x3 : ∀ w', Below W0.heap.size W0 w' → w'.cell? ⟨w.heap.size, 3, none⟩ = some (.int .i64 s.d.b) := fun w' hb => by rw [cell_of_row _ _ _ _ _ _ (block_ext hb hR)]; rfl
  have x4 : ∀ w', Below W0.heap.size W0 w' → w'.cell? ⟨w.heap.size, 4, none⟩ = some (.int .i64 s.d.imm) := fun w' hb => by rw [cell_of_row _ _ _ _ _ _ (block_ext hb hR)]; rfl
  have x5 : ∀ w', Below W0.heap.size W0 w' → w'.cell? ⟨w.heap.size, 5, none⟩ = some (.int .i64 s.d.callee) := fun w' hb => by rw [cell_of_row _ _ _ _ _ _ (block_ext hb hR)]; rfl
  have x6 : ∀ w', Below W0.heap.size W0 w' → w'.cell? ⟨w.heap.size, 6, none⟩ = some (.slice ra rn rc) := fun w' hb => by rw [cell_of_row _ _ _ _ _ _ (block_ext hb hR)]; rfl
  have x7 : ∀ w', Below W0.heap.size W0 w' → w'.cell? ⟨w.heap.size, 7, none⟩ = some (.int .i64 s.d.many) := fun w' hb => by rw [cell_of_row _ _ _ _ _ _ (block_ext hb hR)]; rfl
  have y0 : ∀ w', Below W0.heap.size W0 w' → w'.cell? ⟨w.heap.size + 1, 0, none⟩ = some (.int .i64 s.d.op) := fun w' hb => by rw [cell_of_row _ _ _ _ _ _ (block_ext hb hS)]; rfl
  have y1 : ∀ w', Below W0.heap.size W0 w' → w'.cell? ⟨w.heap.size + 1, 1, none⟩ = some (.int .i64 s.d.dst) := fun w' hb => by rw [cell_of_row _ _ _ _ _ _ (block_ext hb hS)]; rfl
  have y2 : ∀ w', Below W0.heap.size W0 w' → w'.cell? ⟨w.heap.size + 1, 2, none⟩ = some (.int .i64 s.d.a) := fun w' hb => by rw [cell_of_row _ _ _ _ _ _ (block_ext hb hS)]; rfl
  have y3 : ∀ w', Below W0.heap.size W0 w' → w'.cell? ⟨w.heap.size + 1, 3, none⟩ = some (.int .i64 s.d.b) := fun w' hb => by rw [cell_of_row _ _ _ _ _ _ (block_ext hb hS)]; rfl
  have y4 : ∀ w', Below W0.heap.size W0 w' → w'.cell? ⟨w.heap.size + 1, 4, none⟩ = some (.int .i64 s.d.imm) := fun w' hb => by rw [cell_of_row _ _ _ _ _ _ (block_ext hb hS)]; rfl
  have y5 : ∀ w', Below W0.heap.size W0 w' → w'.cell? ⟨w.heap.size + 1, 5, none⟩ = some (.int .i64 s.d.callee) := fun w' hb => by rw [cell_of_row _ _ _ _ _ _ (block_ext hb hS)]; rfl
  have y6 : ∀ w', Below W0.heap.size W0 w' → w'.cell? ⟨w.heap.size + 1, 6, none⟩ = some (.slice s.aa s.na s.ca) := fun w' hb => by rw [cell_of_row _ _ _ _ _ _ (block_ext hb hS)]; rfl
  have y7 : ∀ w', Below W0.heap.size W0 w' → w'.cell? ⟨w.heap.size + 1, 7, none⟩ = some (.int .i64 s.d.many) := fun w' hb => by rw [cell_of_row _ _ _ _ _ _ (block_ext hb hS)]; rfl
  have E0 : Below W0.heap.size W0 W0 := Below.refl _ _
  clear hR hS
  go_enter Tryz.func183, Tryz.ntmps183
  go_wp2_with (first
    | (go_at_call 44
       refine (sameInts_any ra s.aa rn s.na rc s.ca s.d.args s.d.args W0 ((HR.out.1.ext HW0.out).ext E0) ((HS.out.1.ext HW0.out).ext E0)).mono ?_;rw [decide_eq_true rfl];rintro e w1 ⟨rfl, q1, hq1⟩;have E1 : Below W0.heap.size W0 w1 := by rw [hq1]; exact ext_drewN E0 q1
       clear hq1))
  go_ret
  exact ⟨rfl, ext_trans HW0.out E1⟩
theorem keptIns_any (r s : InsR) (base : Nat) (w : World) (h : LentR w base s r) (hs : InsOK w s) (hn : InsNA s) :
    Calls Tryz.prog 210 #[insVR r, insVR s] w fun e w' => e = .returned (.bool true) ∧ Below w.heap.size w w' := by
  have HR := Lib.hid (h.ok hs hn)
  have HS := Lib.hid hs
  have HH := Lib.hid h
  have HN := Lib.hid hn
  have HD := Lib.hid h.sd
  clear hs h hn
  obtain ⟨W0, HW0, hR, hS, hW0⟩ := boxes2 w (.cells #[.int .i64 r.d.op, .int .i64 r.d.dst, .int .i64 r.d.a, .int .i64 r.d.b, .int .i64 r.d.imm, .int .i64 r.d.callee, .slice r.aa r.na r.ca, .int .i64 r.d.many] 216) (.cells #[.int .i64 s.d.op, .int .i64 s.d.dst, .int .i64 s.d.a, .int .i64 s.d.b, .int .i64 s.d.imm, .int .i64 s.d.callee, .slice s.aa s.na s.ca, .int .i64 s.d.many] 216)
  have x0 : ∀ w', Below W0.heap.size W0 w' → w'.cell? ⟨w.heap.size, 0, none⟩ = some (.int .i64 r.d.op) := fun w' hb => by rw [cell_of_row _ _ _ _ _ _ (block_ext hb hR)]; rfl
  have x1 : ∀ w', Below W0.heap.size W0 w' → w'.cell? ⟨w.heap.size, 1, none⟩ = some (.int .i64 r.d.dst) := fun w' hb => by rw [cell_of_row _ _ _ _ _ _ (block_ext hb hR)]; rfl
  have x2 : ∀ w', Below W0.heap.size W0 w' → w'.cell? ⟨w.heap.size, 2, none⟩ = some (.int .i64 r.d.a) := fun w' hb => by rw [cell_of_row _ _ _ _ _ _ (block_ext hb hR)]; rfl
  have x3 : ∀ w', Below W0.heap.size W0 w' → w'.cell? ⟨w.heap.size, 3, none⟩ = some (.int .i64 r.d.b) := fun w' hb => by rw [cell_of_row _ _ _ _ _ _ (block_ext hb hR)]; rfl
  have x4 : ∀ w', Below W0.heap.size W0 w' → w'.cell? ⟨w.heap.size, 4, none⟩ = some (.int .i64 r.d.imm) := fun w' hb => by rw [cell_of_row _ _ _ _ _ _ (block_ext hb hR)]; rfl
  have x5 : ∀ w', Below W0.heap.size W0 w' → w'.cell? ⟨w.heap.size, 5, none⟩ = some (.int .i64 r.d.callee) := fun w' hb => by rw [cell_of_row _ _ _ _ _ _ (block_ext hb hR)]; rfl
  have x6 : ∀ w', Below W0.heap.size W0 w' → w'.cell? ⟨w.heap.size, 6, none⟩ = some (.slice r.aa r.na r.ca) := fun w' hb => by rw [cell_of_row _ _ _ _ _ _ (block_ext hb hR)]; rfl
  have x7 : ∀ w', Below W0.heap.size W0 w' → w'.cell? ⟨w.heap.size, 7, none⟩ = some (.int .i64 r.d.many) := fun w' hb => by rw [cell_of_row _ _ _ _ _ _ (block_ext hb hR)]; rfl
  have y0 : ∀ w', Below W0.heap.size W0 w' → w'.cell? ⟨w.heap.size + 1, 0, none⟩ = some (.int .i64 s.d.op) := fun w' hb => by rw [cell_of_row _ _ _ _ _ _ (block_ext hb hS)]; rfl
  have y1 : ∀ w', Below W0.heap.size W0 w' → w'.cell? ⟨w.heap.size + 1, 1, none⟩ = some (.int .i64 s.d.dst) := fun w' hb => by rw [cell_of_row _ _ _ _ _ _ (block_ext hb hS)]; rfl
  have y2 : ∀ w', Below W0.heap.size W0 w' → w'.cell? ⟨w.heap.size + 1, 2, none⟩ = some (.int .i64 s.d.a) := fun w' hb => by rw [cell_of_row _ _ _ _ _ _ (block_ext hb hS)]; rfl
  have y3 : ∀ w', Below W0.heap.size W0 w' → w'.cell? ⟨w.heap.size + 1, 3, none⟩ = some (.int .i64 s.d.b) := fun w' hb => by rw [cell_of_row _ _ _ _ _ _ (block_ext hb hS)]; rfl
  have y4 : ∀ w', Below W0.heap.size W0 w' → w'.cell? ⟨w.heap.size + 1, 4, none⟩ = some (.int .i64 s.d.imm) := fun w' hb => by rw [cell_of_row _ _ _ _ _ _ (block_ext hb hS)]; rfl
  have y5 : ∀ w', Below W0.heap.size W0 w' → w'.cell? ⟨w.heap.size + 1, 5, none⟩ = some (.int .i64 s.d.callee) := fun w' hb => by rw [cell_of_row _ _ _ _ _ _ (block_ext hb hS)]; rfl
  have y6 : ∀ w', Below W0.heap.size W0 w' → w'.cell? ⟨w.heap.size + 1, 6, none⟩ = some (.slice s.aa s.na s.ca) := fun w' hb => by rw [cell_of_row _ _ _ _ _ _ (block_ext hb hS)]; rfl
  have y7 : ∀ w', Below W0.heap.size W0 w' → w'.cell? ⟨w.heap.size + 1, 7, none⟩ = some (.int .i64 s.d.many) := fun w' hb => by rw [cell_of_row _ _ _ _ _ _ (block_ext hb hS)]; rfl
  have E0 : Below W0.heap.size W0 W0 := Below.refl _ _
  clear hR hS
  go_enter Tryz.func210, Tryz.ntmps210
  go_wp2_with (first
    | (go_at_call 63
       refine (keptInts_any base _ s.aa s.na s.ca s.d.args w1 (LentR_law.ext (LentR_law.ext HH.out HW0.out) E1).2 ((HS.out.ext HW0.out).ext E1).1 HN.out).mono ?_;rintro e w2 ⟨rfl, q2, hq2⟩;have E2 : Below W0.heap.size W0 w2 := by rw [hq2]; exact ext_drewN E1 q2
       clear hq2)
    | (go_at_call 183
       refine (sameIns_any r s W0 HD.out (HR.out.ext HW0.out) (HS.out.ext HW0.out) HN.out).mono ?_
       rintro e w1 ⟨rfl, E1⟩))
  go_ret
  exact ⟨rfl, ext_trans HW0.out E2⟩
theorem markIns_any (i : Nat) (w : World) (hi : i ≤ 100000) :
    Calls Tryz.prog 182 #[.int .i64 1, .int .i64 (i : Int)] w fun e w' => e = .returned (insVR (markR i)) ∧ Below w.heap.size w w' := by
  go_enter Tryz.func182, Tryz.ntmps182
  go_wp2_with (first
    | (go_at_call 112; refine (mark_any _ _ _ (by omega) (by omega)).mono ?_; rintro e w' ⟨rfl, rfl⟩)
    | (refine wpList_store_rowB rfl 216 _ _ rfl w.heap.size #[.int .i64 0, .int .i64 0, .int .i64 0, .int .i64 0, .int .i64 (markV 1 (i : Int)), .int .i64 0, .slice none 0 0, .int .i64 0] rfl rfl 216 _ (heap_alloc_new w _) (by kernel_rfl) rfl (by simp [Value.oneCell']) w.heap.size w (ext_alloc w _) (Nat.le_refl _) ?_
       intro W3 hb3 X3;have HX := Lib.hid hb3;have j0 : W3.cell? ⟨w.heap.size, 0, none⟩ = some (.int .i64 0) := by rw [cell_of_row _ _ _ _ _ _ X3]; rfl
       have j1 : W3.cell? ⟨w.heap.size, 1, none⟩ = some (.int .i64 0) := by rw [cell_of_row _ _ _ _ _ _ X3]; rfl
       have j2 : W3.cell? ⟨w.heap.size, 2, none⟩ = some (.int .i64 0) := by rw [cell_of_row _ _ _ _ _ _ X3]; rfl
       have j3 : W3.cell? ⟨w.heap.size, 3, none⟩ = some (.int .i64 0) := by rw [cell_of_row _ _ _ _ _ _ X3]; rfl
       have j4 : W3.cell? ⟨w.heap.size, 4, none⟩ = some (.int .i64 (markV 1 (i : Int))) := by rw [cell_of_row _ _ _ _ _ _ X3]; rfl
       have j5 : W3.cell? ⟨w.heap.size, 5, none⟩ = some (.int .i64 0) := by rw [cell_of_row _ _ _ _ _ _ X3]; rfl
       have j6 : W3.cell? ⟨w.heap.size, 6, none⟩ = some (.slice none 0 0) := by rw [cell_of_row _ _ _ _ _ _ X3]; rfl
       have j7 : W3.cell? ⟨w.heap.size, 7, none⟩ = some (.int .i64 0) := by rw [cell_of_row _ _ _ _ _ _ X3]; rfl
       clear hb3 X3))
  refine bodyPost_ret (v := insVR (markR i)) (by simp [results, Tryz.results182, go_sem, j0, j1, j2, j3, j4, j5, j6, j7, markR]) rfl ⟨rfl, HX.out⟩
abbrev LentRow (w : World) (base : Nat) (v : Value) (rs rs' : List InsR) : Prop := LentL insC 8 216 LentR markR w base v rs rs'
def LentRowPost (w : World) (rs : List InsR) (e : Ending) (w' : World) : Prop := ∃ v rs', e = .returned v ∧ LentRow w' w.heap.size v rs rs' ∧ Below w.heap.size w w'
theorem LentRow.okS {w : World} {base : Nat} {g n cap : Nat} {rs rs' : List InsR} {a : Option Addr} (h : LentRow w base (.slice (some ⟨g, 0, none⟩) n cap) rs rs') (hs : InsS w a n rs) (hn : n ≤ 1000000) (hna : ∀ r ∈ rs, InsNA r) :
    InsS w (some ⟨g, 0, none⟩) (n + 12) (rs' ++ markL markR) ∧ InsS w (some ⟨g, 0, none⟩) n rs' ∧ rs'.length = n ∧ n + 12 ≤ cap ∧ cap ≤ maxLen ∧ LentEs LentR w base rs rs' := by
  obtain ⟨h1, h2, h3, h4, h5, h6⟩ := h.recs insC_len (by omega) hn
  have ho : ∀ r ∈ rs', InsOK w r := fun r hm => by
    obtain ⟨k, hk, e⟩ := List.mem_iff_getElem.1 hm;have hk2 : k < rs.length := by rw [← h6.1]; exact hk
    exact (h6.2 k rs[k] r (List.getElem?_eq_getElem hk2) (by rw [List.getElem?_eq_getElem hk, e])).ok (hs.2 _ (List.getElem_mem hk2)) (hna _ (List.getElem_mem hk2))
  refine ⟨⟨h1, fun r hm => ?_⟩, ⟨h.recsN insC_len (by omega) hn, ho⟩, h3, h4, h5, h6⟩
  rcases List.mem_append.1 hm with hm | hm
  · exact ho r hm
  · exact markL_all (OK := fun r => InsOK w r) (fun j hj => markR_ok w j hj) r hm
theorem lentRow_any (a : Option Addr) (n c : Nat) (rs : List InsR) (w : World) (h : InsS w a n rs) (hn : n ≤ 1000000) (hna : ∀ r ∈ rs, InsNA r) :
    Calls Tryz.prog 170 #[.slice a n c] w (LentRowPost w rs) := by
  obtain ⟨i0, hi, hz0, hz1, hz2⟩ := info_parts (P := Tryz.prog) info_Ins
  have HL := Lib.hid h.1.1
  have H := Lib.hid h
  have HNA := Lib.hid hna
  clear h hna
  go_enter Tryz.func170, Tryz.ntmps170
  go_wp2_with (first
    | (at_make
       refine wpList_make_own _ rfl _ _ 71 rfl w.heap.size 216 i0 _ 8 Tryz.underlying71 hi hz0 hz1 .i64 .i64 _ (n + 12) rfl rfl (by omega) (by rw [hz2]; omega) (by simp only [maxLen]; omega) (Nat.le_refl _) ?_;intro w1 hown1 hg1;have HO1 := Lib.hid hown1;have HB1 : Hid (Below w.heap.size w w1) := (Below.refl _ _).grown hg1 (Nat.le_refl _) (by simp)
       clear hown1 hg1))
  go_loopw [3, 4, 5] (fun v i _ wr => ∃ (k : Nat) (rs' : List InsR), k ≤ n ∧ i = .int .i64 k ∧ Hid (wr.ownsRow w.heap.size 216 8 v k (rs'.flatMap insC)) ∧ Hid (LentEs LentR wr w.heap.size (rs.take k) rs') ∧ Hid (Below w.heap.size w wr)) (fun _ i _ _ => n - (intOf i).toNat)
  case atStart => exact ⟨0, [], by omega, rfl, HO1, LentEs.nil _ _, HB1⟩
  case round =>
    obtain ⟨k, rs', hk, rfl, HO, HLR, HB⟩ := hrel;by_cases hlt : k < n
    · obtain ⟨r, b, o, hr, hok, rfl, y0, y1, y2, y3, y4, y5, y6, y7⟩ := (H.out.ext HB.out).cells hlt;have HG := Lib.hid hr;have HOK := Lib.hid hok;have HTK : Hid (rs.take (k + 1) = rs.take k ++ [r]) := by rw [Hid, List.take_add_one, hr]; rfl
      have HNr := Lib.hid (HNA.out r (List.mem_of_getElem? hr));clear hr hok
      go_wp2_with (first
        | (go_at_call 209
           refine (lentIns_any r wr HOK.out HNr.out).mono ?_;rintro e w1 ⟨r', rfl, hL, hb⟩;have HLr := Lib.hid hL;have HB1 := Lib.hid hb
           clear hL hb y0 y1 y2 y3 y4 y5 y6 y7)
        | (refine wpList_store_rowB rfl 216 _ _ rfl w1.heap.size #[.int .i64 r'.d.op, .int .i64 r'.d.dst, .int .i64 r'.d.a, .int .i64 r'.d.b, .int .i64 r'.d.imm, .int .i64 r'.d.callee, .slice r'.aa r'.na r'.ca, .int .i64 r'.d.many] rfl rfl 216 _ (heap_alloc_new w1 _) (by kernel_rfl) rfl (by simp [Value.oneCell']) w1.heap.size w1 (ext_alloc w1 _) (Nat.le_refl _) ?_
           intro W3 hb3 X3;have HB3 := Lib.hid (ext_trans HB1.out hb3);have HLr3 := Lib.hid (LentR_law.ext (LentR_law.mono HB.out.size HLr.out) hb3);have i0 : W3.cell? ⟨w1.heap.size, 0, none⟩ = some (.int .i64 r'.d.op) := by rw [cell_of_row _ _ _ _ _ _ X3]; rfl
           have i1 : W3.cell? ⟨w1.heap.size, 1, none⟩ = some (.int .i64 r'.d.dst) := by rw [cell_of_row _ _ _ _ _ _ X3]; rfl
           have i2 : W3.cell? ⟨w1.heap.size, 2, none⟩ = some (.int .i64 r'.d.a) := by rw [cell_of_row _ _ _ _ _ _ X3]; rfl
           have i3 : W3.cell? ⟨w1.heap.size, 3, none⟩ = some (.int .i64 r'.d.b) := by rw [cell_of_row _ _ _ _ _ _ X3]; rfl
           have i4 : W3.cell? ⟨w1.heap.size, 4, none⟩ = some (.int .i64 r'.d.imm) := by rw [cell_of_row _ _ _ _ _ _ X3]; rfl
           have i5 : W3.cell? ⟨w1.heap.size, 5, none⟩ = some (.int .i64 r'.d.callee) := by rw [cell_of_row _ _ _ _ _ _ X3]; rfl
           have i6 : W3.cell? ⟨w1.heap.size, 6, none⟩ = some (.slice r'.aa r'.na r'.ca) := by rw [cell_of_row _ _ _ _ _ _ X3]; rfl
           have i7 : W3.cell? ⟨w1.heap.size, 7, none⟩ = some (.int .i64 r'.d.many) := by rw [cell_of_row _ _ _ _ _ _ X3]; rfl
           clear hb3 X3)
        | (at_builtin
           go_loud (
             have HO1 := Lib.hid ((Steady.ownsRow wr.heap.size _ _ _ _ _ _).ext HO.out HB3.out);refine wpList_append1 rfl W3 (.tmp 22) (.tmp 24) 71 216 rfl w.heap.size _ 8 80 Tryz.underlying71 info_Ins rfl (by omega) u3 k _ (insC r') rfl HO1.out W3.heap.size rfl rfl rfl (Ins_one r') (by simp only [maxLen]; omega) (by omega) (ext_trans HB.out HB3.out).size ?_;intro g cap w4 hown4 hg4 hat4;have HO4 : Hid (w4.ownsRow w.heap.size 216 8 (.slice (some ⟨g, 0, none⟩) (k + 1) cap) (k + 1) ((rs' ++ [r']).flatMap insC)) := by rw [Hid, List.flatMap_append]; simpa using hown4
             have HB4 : Hid (Below w.heap.size w w4) := (ext_trans HB.out HB3.out).grown hg4 (ext_trans HB.out HB3.out).size (fun j e => (HO1.out.lt j e).1);have HL4 : Hid (LentEs LentR w4 w.heap.size (rs.take (k + 1)) (rs' ++ [r'])) := by
               rw [Hid, HTK.out];exact ((HLR.out.ext LentR_law HB3.out).snoc HLr3.out).grown LentR_law (by decide) HO1.out hg4
             clear hown4 hg4 hat4 i0 i1 i2 i3 i4 i5 i6 i7)))
      go_roundw
      case rel => exact ⟨k + 1, rs' ++ [r'], by omega, by go_num, HO4, HL4, HB4⟩
      case measure => simp [intOf]; omega
    · obtain rfl : k = n := by omega
      have HLR1 : Hid (LentEs LentR wr w.heap.size rs rs') := by
        have := HLR.out;rw [List.take_of_length_le (by rw [HL.out]; omega)] at this;exact this
      have HO1 : Hid (wr.ownsRow w.heap.size 216 8 u3 (k + 0) ((rs' ++ (markL markR).take 0).flatMap insC)) := by rw [Hid]; simpa using HO.out
      clear HLR HO;go_wp2
      go_loopw [3, 6] (fun v i wr => ∃ (j : Nat), j ≤ 12 ∧ i = .int .i64 j ∧ Hid (wr.ownsRow w.heap.size 216 8 v (k + j) ((rs' ++ (markL markR).take j).flatMap insC)) ∧ Hid (LentEs LentR wr w.heap.size rs rs') ∧ Hid (Below w.heap.size w wr)) (fun _ i _ => 12 - (intOf i).toNat)
      case atStart => exact ⟨0, by omega, rfl, HO1, HLR1, HB⟩
      case round =>
        clear HO1 HLR1 HB;obtain ⟨j, hj, rfl, HO, HLR, HB⟩ := hrel;by_cases hlt : j < 12
        · go_wp2_with (first
            | (go_at_call 182; refine (markIns_any j _ (by omega)).mono ?_; rintro e w1 ⟨rfl, hb1⟩; have HB1 := Lib.hid hb1; clear hb1)
            | (at_builtin
               go_loud (
                 have HO1 := Lib.hid ((Steady.ownsRow wr.heap.size _ _ _ _ _ _).ext HO.out HB1.out);refine wpList_append1 rfl w1 (.tmp 30) (.tmp 33) 71 216 rfl w.heap.size _ 8 80 Tryz.underlying71 info_Ins rfl (by omega) u3 (k + j) _ (insC (markR j)) rfl HO1.out w1.heap.size rfl rfl rfl (Ins_one _) (by simp only [maxLen]; omega) (by omega) (ext_trans HB.out HB1.out).size ?_;intro g cap w4 hown4 hg4 hat4;have HO4 : Hid (w4.ownsRow w.heap.size 216 8 (.slice (some ⟨g, 0, none⟩) (k + j + 1) cap) (k + j + 1) ((rs' ++ (markL markR).take (j + 1)).flatMap insC)) := by rw [Hid, markL_take markR j hlt, ← List.append_assoc, List.flatMap_append]; simpa using hown4
                 have HB4 : Hid (Below w.heap.size w w4) := (ext_trans HB.out HB1.out).grown hg4 (ext_trans HB.out HB1.out).size (fun j e => (HO1.out.lt j e).1);have HL4 : Hid (LentEs LentR w4 w.heap.size rs rs') := (HLR.out.ext LentR_law HB1.out).grown LentR_law (by decide) HO1.out hg4
                 clear hown4 hg4 hat4)))
          go_roundw
          case rel => exact ⟨j + 1, by omega, by go_num, HO4, HL4, HB4⟩
          case measure => simp [intOf]; omega
        · obtain rfl : j = 12 := by omega
          have hown := HO.out;have hform : ∃ g cap, u3 = .slice (some ⟨g, 0, none⟩) (k + 12) cap ∧ k + 12 ≤ cap ∧ cap ≤ maxLen := by
            rcases hown.2 with ⟨_, h0⟩ | ⟨g', cap', cur, hv, _, _, h1, h2, _⟩
            · omega
            · exact ⟨_, _, hv, h1, h2⟩
          obtain ⟨g, cap, rfl, hc1, hc2⟩ := hform;clear hown;unfold maxLen at hc2;go_wp2
          go_ret
          refine ⟨_, rs', rfl, ⟨g, cap, by rw [HL.out]; rfl, ?_, HLR.out⟩, HB.out⟩;have := HO.out;rw [HL.out];rw [List.take_of_length_le (by rw [markL_len]; omega)] at this;exact this
theorem sameRow_any (a b : Option Addr) (n c d : Nat) (rs ss : List InsR) (w : World) (hr : InsS w a n rs) (hs : InsS w b n ss) (h : SameEs SDIns rs ss) (hna : ∀ r ∈ ss, InsNA r) :
    Calls Tryz.prog 172 #[.slice a n c, .slice b n d] w fun e w' => e = .returned (.bool true) ∧ Below w.heap.size w w' := by
  have HR := Lib.hid hr
  have HS := Lib.hid hs
  have HH := Lib.hid h
  have HNA := Lib.hid hna
  have hn := hr.1.2.1
  clear hr hs h hna
  have hne : ((n : Int) != (n : Int)) = false := by simp
  go_enter Tryz.func172, Tryz.ntmps172
  go_wp2
  go_loopw [5] (fun i wr => ∃ (k : Nat), k ≤ n ∧ i = .int .i64 k ∧ Hid (Below w.heap.size w wr)) (fun i _ => n - (intOf i).toNat)
  case atStart => exact ⟨0, by omega, rfl, Below.refl _ _⟩
  case round =>
    obtain ⟨k, hk, rfl, HB⟩ := hrel;by_cases hlt : k < n
    · obtain ⟨r, b1, o1, hr, hokr, rfl, y0, y1, y2, y3, y4, y5, y6, y7⟩ := (HR.out.ext HB.out).cells hlt;obtain ⟨s, b2, o2, hs, hoks, rfl, z0, z1, z2, z3, z4, z5, z6, z7⟩ := (HS.out.ext HB.out).cells hlt;have HD := Lib.hid (HH.out.2 k r s hr hs);have HNs := Lib.hid (HNA.out s (List.mem_of_getElem? hs));have HOr := Lib.hid hokr;have HOs := Lib.hid hoks;have hk0 : (0 : Int) ≤ (k : Int) := by omega
      have hk1 : (k : Int) < (n : Int) := by omega
      have kx0 : ∀ n : ExtW wr, n.val.cell? ⟨b1, o1 + k * 8, none⟩ = some (.int .i64 r.d.op) := fun n => cell_ext n.ext y0;have kx1 : ∀ n : ExtW wr, n.val.cell? ⟨b1, o1 + k * 8 + 1, none⟩ = some (.int .i64 r.d.dst) := fun n => cell_ext n.ext y1;have kx2 : ∀ n : ExtW wr, n.val.cell? ⟨b1, o1 + k * 8 + 2, none⟩ = some (.int .i64 r.d.a) := fun n => cell_ext n.ext y2;have kx3 : ∀ n : ExtW wr, n.val.cell? ⟨b1, o1 + k * 8 + 3, none⟩ = some (.int .i64 r.d.b) := fun n => cell_ext n.ext y3;have kx4 : ∀ n : ExtW wr, n.val.cell? ⟨b1, o1 + k * 8 + 4, none⟩ = some (.int .i64 r.d.imm) := fun n => cell_ext n.ext y4;have kx5 : ∀ n : ExtW wr, n.val.cell? ⟨b1, o1 + k * 8 + 5, none⟩ = some (.int .i64 r.d.callee) := fun n => cell_ext n.ext y5;have kx6 : ∀ n : ExtW wr, n.val.cell? ⟨b1, o1 + k * 8 + 6, none⟩ = some (.slice r.aa r.na r.ca) := fun n => cell_ext n.ext y6;have kx7 : ∀ n : ExtW wr, n.val.cell? ⟨b1, o1 + k * 8 + 7, none⟩ = some (.int .i64 r.d.many) := fun n => cell_ext n.ext y7;have ky0 : ∀ n : ExtW wr, n.val.cell? ⟨b2, o2 + k * 8, none⟩ = some (.int .i64 s.d.op) := fun n => cell_ext n.ext z0;have ky1 : ∀ n : ExtW wr, n.val.cell? ⟨b2, o2 + k * 8 + 1, none⟩ = some (.int .i64 s.d.dst) := fun n => cell_ext n.ext z1;have ky2 : ∀ n : ExtW wr, n.val.cell? ⟨b2, o2 + k * 8 + 2, none⟩ = some (.int .i64 s.d.a) := fun n => cell_ext n.ext z2;have ky3 : ∀ n : ExtW wr, n.val.cell? ⟨b2, o2 + k * 8 + 3, none⟩ = some (.int .i64 s.d.b) := fun n => cell_ext n.ext z3;have ky4 : ∀ n : ExtW wr, n.val.cell? ⟨b2, o2 + k * 8 + 4, none⟩ = some (.int .i64 s.d.imm) := fun n => cell_ext n.ext z4;have ky5 : ∀ n : ExtW wr, n.val.cell? ⟨b2, o2 + k * 8 + 5, none⟩ = some (.int .i64 s.d.callee) := fun n => cell_ext n.ext z5;have ky6 : ∀ n : ExtW wr, n.val.cell? ⟨b2, o2 + k * 8 + 6, none⟩ = some (.slice s.aa s.na s.ca) := fun n => cell_ext n.ext z6;have ky7 : ∀ n : ExtW wr, n.val.cell? ⟨b2, o2 + k * 8 + 7, none⟩ = some (.int .i64 s.d.many) := fun n => cell_ext n.ext z7;have HNE : Nonempty (ExtW wr) := ⟨⟨wr, Below.refl _ _⟩⟩
      clear hr hs hokr hoks y0 y1 y2 y3 y4 y5 y6 y7 z0 z1 z2 z3 z4 z5 z6 z7;go_wp2;refine region_ext (by kernel_rfl) (by kernel_rfl) ?_
      repeat (first
        | go_big_quiet_skip
        | go_big_quiet_step (first
          | (go_at_call 183; exact quiet_ext (sameIns_any r s _ HD.out (InsOK.ext HOr.out (ExtW.ext _)) (InsOK.ext HOs.out (ExtW.ext _)) HNs.out))))
      refine wpQuiet_nil ?_;rintro _ ⟨mm, rfl⟩;have HM := Lib.hid (ext_trans HB.out mm.ext);generalize mm.val = W8 at *;clear kx0 kx1 kx2 kx3 kx4 kx5 kx6 kx7 ky0 ky1 ky2 ky3 ky4 ky5 ky6 ky7;go_wp2
      go_roundw
      case rel => exact ⟨k + 1, by omega, by go_num, HM⟩
      case measure => simp [intOf]; omega
    · go_wp2
      go_ret
      exact ⟨rfl, HB.out⟩
theorem keptRow_any (base g cap : Nat) (a : Option Addr) (n c : Nat) (rs rs' : List InsR) (w : World) (h : LentRow w base (.slice (some ⟨g, 0, none⟩) n cap) rs rs') (hs : InsS w a n rs) (hn : n ≤ 1000000) (hna : ∀ r ∈ rs, InsNA r) :
    Calls Tryz.prog 171 #[.slice (some ⟨g, 0, none⟩) n cap, .slice a n c] w fun e w' => e = .returned (.bool true) ∧ Below w.heap.size w w' := by
  obtain ⟨h1, _, hlen, hc1, hc2, hl⟩ := h.okS hs hn hna
  have HA := Lib.hid h1
  have HS := Lib.hid hs
  have HL := Lib.hid hl
  have HLen := Lib.hid hlen
  have HNA := Lib.hid hna
  clear h hs h1 hl hlen hna
  unfold maxLen at hc2
  have hne : ((n : Int) != (n : Int)) = false := by simp
  go_enter Tryz.func171, Tryz.ntmps171
  go_wp2
  go_loopw [6] (fun i wr => ∃ (k : Nat), k ≤ n + 12 ∧ i = .int .i64 k ∧ Hid (Below w.heap.size w wr)) (fun i _ => n + 12 - (intOf i).toNat)
  case atStart => exact ⟨0, by omega, rfl, Below.refl _ _⟩
  case round =>
    obtain ⟨k, hk, rfl, HB⟩ := hrel;by_cases hlt : k < n + 12
    · obtain ⟨r, b1, o1, hr, hokr, hab, y0, y1, y2, y3, y4, y5, y6, y7⟩ := (HA.out.ext HB.out).cells hlt;injection hab with hab;injection hab with hab1 hab2 _;subst hab1;subst hab2;have HOr := Lib.hid hokr;rw [Nat.zero_add] at y0 y1 y2 y3 y4 y5 y6 y7;have kx0 : ∀ n : ExtW wr, n.val.cell? ⟨g, k * 8, none⟩ = some (.int .i64 r.d.op) := fun n => cell_ext n.ext y0;have kx1 : ∀ n : ExtW wr, n.val.cell? ⟨g, k * 8 + 1, none⟩ = some (.int .i64 r.d.dst) := fun n => cell_ext n.ext y1;have kx2 : ∀ n : ExtW wr, n.val.cell? ⟨g, k * 8 + 2, none⟩ = some (.int .i64 r.d.a) := fun n => cell_ext n.ext y2;have kx3 : ∀ n : ExtW wr, n.val.cell? ⟨g, k * 8 + 3, none⟩ = some (.int .i64 r.d.b) := fun n => cell_ext n.ext y3;have kx4 : ∀ n : ExtW wr, n.val.cell? ⟨g, k * 8 + 4, none⟩ = some (.int .i64 r.d.imm) := fun n => cell_ext n.ext y4;have kx5 : ∀ n : ExtW wr, n.val.cell? ⟨g, k * 8 + 5, none⟩ = some (.int .i64 r.d.callee) := fun n => cell_ext n.ext y5;have kx6 : ∀ n : ExtW wr, n.val.cell? ⟨g, k * 8 + 6, none⟩ = some (.slice r.aa r.na r.ca) := fun n => cell_ext n.ext y6;have kx7 : ∀ n : ExtW wr, n.val.cell? ⟨g, k * 8 + 7, none⟩ = some (.int .i64 r.d.many) := fun n => cell_ext n.ext y7;have HNE : Nonempty (ExtW wr) := ⟨⟨wr, Below.refl _ _⟩⟩
      by_cases hkn : k < n
      · rw [List.getElem?_append_left (by rw [HLen.out]; exact hkn)] at hr;obtain ⟨s, b2, o2, hs, hoks, rfl, z0, z1, z2, z3, z4, z5, z6, z7⟩ := (HS.out.ext HB.out).cells hkn;have HLk := Lib.hid (LentR_law.ext (HL.out.2 k s r hs hr) HB.out);have HOs := Lib.hid hoks;have HNs := Lib.hid (HNA.out s (List.mem_of_getElem? hs));have ky0 : ∀ n : ExtW wr, n.val.cell? ⟨b2, o2 + k * 8, none⟩ = some (.int .i64 s.d.op) := fun n => cell_ext n.ext z0;have ky1 : ∀ n : ExtW wr, n.val.cell? ⟨b2, o2 + k * 8 + 1, none⟩ = some (.int .i64 s.d.dst) := fun n => cell_ext n.ext z1;have ky2 : ∀ n : ExtW wr, n.val.cell? ⟨b2, o2 + k * 8 + 2, none⟩ = some (.int .i64 s.d.a) := fun n => cell_ext n.ext z2;have ky3 : ∀ n : ExtW wr, n.val.cell? ⟨b2, o2 + k * 8 + 3, none⟩ = some (.int .i64 s.d.b) := fun n => cell_ext n.ext z3;have ky4 : ∀ n : ExtW wr, n.val.cell? ⟨b2, o2 + k * 8 + 4, none⟩ = some (.int .i64 s.d.imm) := fun n => cell_ext n.ext z4;have ky5 : ∀ n : ExtW wr, n.val.cell? ⟨b2, o2 + k * 8 + 5, none⟩ = some (.int .i64 s.d.callee) := fun n => cell_ext n.ext z5;have ky6 : ∀ n : ExtW wr, n.val.cell? ⟨b2, o2 + k * 8 + 6, none⟩ = some (.slice s.aa s.na s.ca) := fun n => cell_ext n.ext z6;have ky7 : ∀ n : ExtW wr, n.val.cell? ⟨b2, o2 + k * 8 + 7, none⟩ = some (.int .i64 s.d.many) := fun n => cell_ext n.ext z7;have hk0 : (0 : Int) ≤ (k : Int) := by omega
        have hk1 : (k : Int) < (n : Int) := by omega
        have hk2 : (k : Int) < (n : Int) + 12 := by omega
        have d1 : decide ((k : Int) < (n : Int)) = true := by simpa using hkn
        have d2 : decide ((n : Int) ≤ (k : Int)) = false := by simp; omega
        have d3 : decide (k < n) = true := by simpa using hkn
        have d4 : decide (n ≤ k) = false := by simp; omega
        clear hr hs hoks hokr y0 y1 y2 y3 y4 y5 y6 y7 z0 z1 z2 z3 z4 z5 z6 z7 hkn;go_wp2;refine region_ext (by kernel_rfl) (by kernel_rfl) ?_
        repeat (go_big_quiet_step (first
          | (go_at_call 210; exact quiet_ext (keptIns_any r s base _ (LentR_law.ext HLk.out (ExtW.ext _)) (InsOK.ext HOs.out (ExtW.ext _)) HNs.out))))
        refine wpQuiet_nil ?_;rintro _ ⟨mm, rfl⟩;have HM := Lib.hid (ext_trans HB.out mm.ext);generalize mm.val = W8 at *;clear kx0 kx1 kx2 kx3 kx4 kx5 kx6 kx7 ky0 ky1 ky2 ky3 ky4 ky5 ky6 ky7;go_wp2
        go_roundw
        case rel => exact ⟨k + 1, by omega, by go_num, HM⟩
        case measure => simp [intOf]; omega
      · obtain ⟨j, rfl⟩ : ∃ j, k = n + j := ⟨k - n, by omega⟩
        have hj : j < 12 := by omega
        have hrm : r = markR j := by
          rw [List.getElem?_append_right (by rw [HLen.out]; omega), HLen.out, Nat.add_sub_cancel_left, markL_at markR j hj] at hr;exact (Option.some.inj hr).symm
        have HRM := Lib.hid hrm;have d1 : decide (n + j < n) = false := by simp
        have d2 : decide (n ≤ n + j) = true := by simp
        have d3 : decide ((n : Int) + (j : Int) < (n : Int)) = false := by simp; omega
        have d4 : decide ((n : Int) ≤ (n : Int) + (j : Int)) = true := by simp; omega
        have d5 : IntKind.i64.wrap ((n : Int) + (j : Int) - (n : Int)) = (j : Int) := by rw [IntKind.wrap_i64]; omega
        have hk0 : (0 : Int) ≤ (n : Int) + (j : Int) := by omega
        have hk2 : (n : Int) + (j : Int) < (n : Int) + 12 := by omega
        clear hr hrm hokr y0 y1 y2 y3 y4 y5 y6 y7 hkn;go_wp2;refine region_ext (by kernel_rfl) (by kernel_rfl) ?_
        repeat (go_big_quiet_step (first
          | (go_at_call 182; exact quiet_ext (markIns_any j _ (by omega)))
          | (go_at_call 183; exact quiet_ext (sameIns_any r (markR j) _ (by rw [HRM.out]; exact SDIns_refl _) (InsOK.ext HOr.out (ExtW.ext _)) (markR_ok _ j hj) (markR_na j)))))
        refine wpQuiet_nil ?_;rintro _ ⟨mm, rfl⟩;have HM := Lib.hid (ext_trans HB.out mm.ext);generalize mm.val = W8 at *;clear kx0 kx1 kx2 kx3 kx4 kx5 kx6 kx7;go_wp2
        go_roundw
        case rel => exact ⟨n + j + 1, by omega, by go_num, HM⟩
        case measure => simp [intOf]; omega
    · go_wp2
      go_ret
      exact ⟨rfl, HB.out⟩
end

section
open Go.RowKit
theorem part_int (cs : Array Value) (o : Nat) (v : Value) (w : World) (h : cs[o]? = some v) : (part 3 cs o).run Tryz.prog w = .ok v w := by
  have hu : (underlying 3).run Tryz.prog w = .ok (.int .i64) w := run_underlying Tryz.underlying3 w
  simp [part, isAgg, hu, h]
theorem eqFields3 (w : World) (d : Nat) (xs ys : Array Value) (fs : List Field) (n0 n1 n2 : String) (t0 t1 t2 : TypeId) (o0 o1 o2 : Nat) (hf : fs.map (fun f => (f.name, f.type, f.offset)) = [(n0, t0, o0), (n1, t1, o1), (n2, t2, o2)]) (h0 : n0 ≠ "_") (h1 : n1 ≠ "_") (h2 : n2 ≠ "_")
    (x0 y0 x1 y1 x2 y2 : Value) (b0 b1 b2 : Bool) (px0 : (part t0 xs o0).run Tryz.prog w = .ok x0 w) (py0 : (part t0 ys o0).run Tryz.prog w = .ok y0 w) (px1 : (part t1 xs o1).run Tryz.prog w = .ok x1 w) (py1 : (part t1 ys o1).run Tryz.prog w = .ok y1 w) (px2 : (part t2 xs o2).run Tryz.prog w = .ok x2 w) (py2 : (part t2 ys o2).run Tryz.prog w = .ok y2 w)
    (e0 : (Op.equalIn d t0 x0 y0).run Tryz.prog w = .ok b0 w) (e1 : (Op.equalIn d t1 x1 y1).run Tryz.prog w = .ok b1 w) (e2 : (Op.equalIn d t2 x2 y2).run Tryz.prog w = .ok b2 w) : (Op.eqFields d xs ys fs).run Tryz.prog w = .ok (b0 && (b1 && b2)) w := by
  match fs, hf with
  | [f, g, h], hf =>
    simp only [List.map_cons, List.map_nil, List.cons.injEq, Prod.mk.injEq, and_true] at hf;obtain ⟨⟨rfl, rfl, rfl⟩, ⟨rfl, rfl, rfl⟩, ⟨rfl, rfl, rfl⟩⟩ := hf;simp only [Op.eqFields, Sem.run_bind, Sem.run_ite, h0, h1, h2, ne_eq, not_false_eq_true, if_true, px0, py0, e0, Result.andThen_ok];cases b0 with
    | false => simp
    | true =>
      simp only [Sem.run_bind, px1, py1, e1, Result.andThen_ok, Sem.run_ite];cases b1 with
      | false => simp [h1, h2, px1, py1, e1]
      | true => cases b2 <;> simp [h1, h2, px1, py1, e1, px2, py2, e2]
end

section
open Go.RowKit
theorem part_kind (cs : Array Value) (o : Nat) (v : Value) (w : World) (h : cs[o]? = some v) : (part 67 cs o).run Tryz.prog w = .ok v w := by
  have hu : (underlying 67).run Tryz.prog w = .ok (.int .i64) w := run_underlying Tryz.underlying67 w
  simp [part, isAgg, hu, h]
theorem info_to : (Tryz.prog.info? 68).map (fun i => (i.zero, i.size, i.bytes)) = some (some (.agg #[.int .i64 0, .int .i64 0]), 2, 16) := by kernel_rfl
theorem part_to (cs : Array Value) (o : Nat) (u v : Value) (w : World) (h : cs.extract o (o + 2) = #[u, v]) : (part 68 cs o).run Tryz.prog w = .ok (.agg #[u, v]) w := by
  have hu : (underlying 68).run Tryz.prog w = .ok _ w := run_underlying Tryz.underlying68 w
  obtain ⟨i, hi, -, hs, -⟩ := info_parts info_to
  have hz : (sizeOf 68).run Tryz.prog w = .ok 2 w := by simp [sizeOf, typeInfo, hi, hs]
  simp [part, isAgg, hu, hz, h]
theorem equal_toD (w : World) (d : Nat) (x0 x1 y0 y1 : Int) : (Op.equalIn (d + 2) 68 (.agg #[.int .i64 x0, .int .i64 x1]) (.agg #[.int .i64 y0, .int .i64 y1])).run Tryz.prog w = .ok (x0 == y0 && x1 == y1) w := by
  obtain ⟨i, hi, -, -, -⟩ := info_parts lentInfoI
  have h1 : Tryz.prog.cellsOf 3 = 1 := by kernel_rfl
  have e0 := run_equalIn_int w d 3 .i64 .i64 x0 y0 Tryz.underlying3
  have e1 := run_equalIn_int w d 3 .i64 .i64 x1 y1 Tryz.underlying3
  rw [run_equalIn_array w (d + 1) _ _ Tryz.underlying68 hi, h1]
  simp only [List.range, List.range.loop, Op.eqItems, Sem.run_bind, Nat.zero_mul, Nat.one_mul]
  rw [part_int _ 0 (.int .i64 x0) w rfl]
  simp only [Result.andThen_ok]
  rw [part_int _ 0 (.int .i64 y0) w rfl]
  simp only [Result.andThen_ok]
  rw [e0]
  simp only [Result.andThen_ok]
  cases hq : (x0 == y0) with
  | false => simp
  | true =>
    simp only [Bool.not_true, Bool.false_eq_true, if_false, Sem.run_bind];rw [part_int _ 1 (.int .i64 x1) w rfl];simp only [Result.andThen_ok];rw [part_int _ 1 (.int .i64 y1) w rfl];simp only [Result.andThen_ok];rw [e1];simp only [Result.andThen_ok];cases hq : (x1 == y1) <;> simp
theorem fields_term : (Tryz.prog.fieldsOf 70).toList.map (fun f => (f.name, f.type, f.offset)) = [("Kind", 67, 0), ("A", 3, 1), ("To", 68, 2)] := by kernel_rfl
theorem under_term : Tryz.prog.underlying 70 = some (.struct (Tryz.prog.fieldsOf 70)) := by kernel_rfl
theorem stood_term : Tryz.prog.stoodInHeld 70 = false := by kernel_rfl
theorem eql_term (w : World) (x0 x1 x2 x3 : Int) : (binOp .eql 70 (.agg #[.int .i64 x0, .int .i64 x1, .int .i64 x2, .int .i64 x3]) (.agg #[.int .i64 x0, .int .i64 x1, .int .i64 x2, .int .i64 x3])).run Tryz.prog w = .ok (.bool true) w := by
  rw [run_eql_struct, run_equalIn_struct w 9999 _ _ _ under_term stood_term]
  rw [eqFields3 w 9999 _ _ _ _ _ _ _ _ _ _ _ _ fields_term (by decide) (by decide) (by decide) (.int .i64 x0) (.int .i64 x0) (.int .i64 x1) (.int .i64 x1) (.agg #[.int .i64 x2, .int .i64 x3]) (.agg #[.int .i64 x2, .int .i64 x3]) _ _ _ (part_kind _ _ _ w rfl) (part_kind _ _ _ w rfl) (part_int _ _ _ w rfl) (part_int _ _ _ w rfl) (part_to _ _ _ _ w rfl) (part_to _ _ _ _ w rfl) (run_equalIn_int w 9998 _ .i64 .i64 _ _ Tryz.underlying67) (run_equalIn_int w 9998 _ .i64 .i64 _ _ Tryz.underlying3) (equal_toD w 9997 _ _ _ _)]
  simp
def BlkNA (b : BlkR) : Prop := b.h.n ≤ 1000000 ∧ ∀ r ∈ b.rs, InsNA r
def SDBlk (r s : BlkR) : Prop := r.h.t = s.h.t ∧ r.h.n = s.h.n ∧ SameEs SDIns r.rs s.rs
theorem SDBlk_refl (r : BlkR) : SDBlk r r := ⟨rfl, rfl, rfl, fun k x y h1 h2 => by rw [h1] at h2; cases h2; rfl⟩
abbrev blkVR (b : BlkR) : Value := blkV b.h
theorem info_Block : (Tryz.prog.info? 73).map (fun i => (i.zero, i.size, i.bytes)) = some (some (.agg #[.slice none 0 0, .int .i64 0, .int .i64 0, .int .i64 0, .int .i64 0]), 5, 56) := by kernel_rfl
theorem Block_one (r : BlkR) : ∀ u ∈ blkC' r, u.oneCell' = true := by
  intro u hu
  simp only [blkC', blkC, List.mem_cons, List.not_mem_nil, or_false] at hu
  rcases hu with rfl | rfl | rfl | rfl | rfl <;> rfl
def LentB (w : World) (base : Nat) (r r' : BlkR) : Prop := r'.h.t = r.h.t ∧ r'.h.n = r.h.n ∧ LentRow w base (.slice r'.h.ia r'.h.n r'.h.c) r.rs r'.rs
theorem LentB.sd {w : World} {base : Nat} {r r' : BlkR} (h : LentB w base r r') : SDBlk r' r := by
  obtain ⟨h1, h2, _, _, _, _, h3⟩ := h
  exact ⟨h1, h2, h3.same fun _ _ h => h.sd⟩
theorem LentB_law : LentLaw [216, 3] LentB where
  chg := fun h hc hn => ⟨h.1, h.2.1, h.2.2.chg LentR_law hc hn⟩
  mono := fun hb h => ⟨h.1, h.2.1, h.2.2.mono LentR_law hb⟩
  grown := fun he h ho hg => ⟨h.1, h.2.1, h.2.2.grown LentR_law he ho hg⟩
theorem LentB.ok {w : World} {base : Nat} {r r' : BlkR} (h : LentB w base r r') (hr : BlkROK w r) (hna : BlkNA r) : BlkROK w r' := by
  obtain ⟨⟨ia, n, c, t⟩, rs⟩ := r'
  obtain ⟨h1, h2, h3⟩ := h
  obtain ⟨g, cap, e⟩ := h3.form
  injection e with e1 e2 e3
  obtain rfl : ia = some ⟨g, 0, none⟩ := e1
  obtain rfl : n = r.h.n := h2
  obtain rfl : t = r.h.t := h1
  exact ⟨hr.1, (h3.okS hr.2 hna.1 hna.2).2.1⟩
def markB (i : Nat) : BlkR := ⟨⟨none, 0, 0, ⟨0, markV 1 (i : Int), 0, 0⟩⟩, []⟩
theorem markB_ok (w : World) (k : Nat) (hk : k < 12) : BlkROK w (markB k) := by
  have hm : I64 (markV 1 (k : Int)) := by unfold I64 markV; omega
  have z : I64 0 := by unfold I64; omega
  exact ⟨⟨z, hm, z, z⟩, ⟨rfl, Nat.zero_le _, fun j r h => by simp [markB] at h⟩, fun r hr => by simp [markB] at hr⟩
theorem markB_na (k : Nat) : BlkNA (markB k) := ⟨by simp [markB], fun r hr => by simp [markB] at hr⟩
theorem lentBlock_any (r : BlkR) (w : World) (h : BlkROK w r) (hn : BlkNA r) :
    Calls Tryz.prog 113 #[blkVR r] w fun e w' => ∃ r', e = .returned (blkVR r') ∧ LentB w' w.heap.size r r' ∧ Below w.heap.size w w' := by
  have H := Lib.hid h
  have HN := Lib.hid hn
  clear h hn
  go_enter Tryz.func113, Tryz.ntmps113
  go_wp2_with (first
    | (go_at_call 170
       refine (lentRow_any r.h.ia r.h.n r.h.c r.rs _ (H.out.2.ext (ext_trans (ext_alloc _ _) (ext_alloc _ _))) HN.out.1 HN.out.2).mono ?_;rintro e w1 ⟨v, rs0, rfl, hL, hb⟩;obtain ⟨g0, cap0, rfl⟩ := hL.form;obtain ⟨x1, x2, x3⟩ := box2 w (.cells #[.slice r.h.ia r.h.n r.h.c, .int .i64 r.h.t.kind, .int .i64 r.h.t.a, .int .i64 r.h.t.t0, .int .i64 r.h.t.t1] 73) (.cells #[.slice none 0 0, .int .i64 0, .int .i64 0, .int .i64 0, .int .i64 0] 73) w1 hb;have y6 : w1.cell? ⟨w.heap.size, 0, none⟩ = some (.slice r.h.ia r.h.n r.h.c) := by rw [cell_of_row _ _ _ _ _ _ x1]; rfl
       have z6 : w1.frozen? ⟨w.heap.size, 0, none⟩ = false := frozen_of_row _ _ _ _ _ x1;obtain ⟨W1, hW2⟩ : ∃ W, w1.setCell ⟨w.heap.size, 0, none⟩ (.slice (some ⟨g0, 0, none⟩) r.rs.length cap0) = W := ⟨_, rfl⟩
       have c2 : Chg (fun k => k = w.heap.size) w1 W1 := by rw [← hW2]; exact chg_setCell _ _ _ _
       have HL1_0 := Lib.hid (hL.chg LentR_law c2 (fun k hk => by simp; omega));have X1 : W1.heap[w.heap.size]? = some (.cells #[.slice (some ⟨g0, 0, none⟩) r.rs.length cap0, .int .i64 r.h.t.kind, .int .i64 r.h.t.a, .int .i64 r.h.t.t0, .int .i64 r.h.t.t1] 73 (0, 0)) := by rw [← hW2, heap_setCell_same _ _ 0 _ _ _ x1]; rfl
       have HK1 := Lib.hid X1;have HZ1 := Lib.hid (c2.row x2 (by omega));have HX1 := Lib.hid (x3.trans (c2.below (B := w.heap.size) x3.size (fun k hk => by omega)));have i1_0 : W1.cell? ⟨w.heap.size, 0, none⟩ = some (.slice (some ⟨g0, 0, none⟩) r.rs.length cap0) := by rw [cell_of_row _ _ _ _ _ _ X1]; rfl
       have i1_1 : W1.cell? ⟨w.heap.size, 1, none⟩ = some (.int .i64 r.h.t.kind) := by rw [cell_of_row _ _ _ _ _ _ X1]; rfl
       have i1_2 : W1.cell? ⟨w.heap.size, 2, none⟩ = some (.int .i64 r.h.t.a) := by rw [cell_of_row _ _ _ _ _ _ X1]; rfl
       have i1_3 : W1.cell? ⟨w.heap.size, 3, none⟩ = some (.int .i64 r.h.t.t0) := by rw [cell_of_row _ _ _ _ _ _ X1]; rfl
       have i1_4 : W1.cell? ⟨w.heap.size, 4, none⟩ = some (.int .i64 r.h.t.t1) := by rw [cell_of_row _ _ _ _ _ _ X1]; rfl
       clear hL x1 x2 x3 hb c2 X1)
    | (refine wpList_store_rowC rfl 73 _ _ rfl (w.heap.size + 1) #[.slice (some ⟨g0, 0, none⟩) r.rs.length cap0, .int .i64 r.h.t.kind, .int .i64 r.h.t.a, .int .i64 r.h.t.t0, .int .i64 r.h.t.t1] rfl rfl 73 _ HZ1.out (by kernel_rfl) rfl (by simp [Value.oneCell']) ?_
       intro W9 c3 X3;have HL9_0 := Lib.hid (HL1_0.out.chg LentR_law c3 (fun k hk => by simp; omega));have HX9 := Lib.hid (HX1.out.trans (c3.below (B := w.heap.size) HX1.out.size (fun k hk => by omega)));have j0 : W9.cell? ⟨w.heap.size + 1, 0, none⟩ = some (.slice (some ⟨g0, 0, none⟩) r.rs.length cap0) := by rw [cell_of_row _ _ _ _ _ _ X3]; rfl
       have j1 : W9.cell? ⟨w.heap.size + 1, 1, none⟩ = some (.int .i64 r.h.t.kind) := by rw [cell_of_row _ _ _ _ _ _ X3]; rfl
       have j2 : W9.cell? ⟨w.heap.size + 1, 2, none⟩ = some (.int .i64 r.h.t.a) := by rw [cell_of_row _ _ _ _ _ _ X3]; rfl
       have j3 : W9.cell? ⟨w.heap.size + 1, 3, none⟩ = some (.int .i64 r.h.t.t0) := by rw [cell_of_row _ _ _ _ _ _ X3]; rfl
       have j4 : W9.cell? ⟨w.heap.size + 1, 4, none⟩ = some (.int .i64 r.h.t.t1) := by rw [cell_of_row _ _ _ _ _ _ X3]; rfl
       clear c3 X3))
  refine bodyPost_ret (v := .agg #[.slice (some ⟨g0, 0, none⟩) r.rs.length cap0, .int .i64 r.h.t.kind, .int .i64 r.h.t.a, .int .i64 r.h.t.t0, .int .i64 r.h.t.t1]) (by simp [results, Tryz.results113, go_sem, j0, j1, j2, j3, j4]) rfl ⟨⟨⟨some ⟨g0, 0, none⟩, r.rs.length, cap0, r.h.t⟩, rs0⟩, rfl, ?_, HX9.out⟩
  exact ⟨rfl, H.out.2.1.1, HL9_0.out.mono LentR_law (by simp; omega)⟩
theorem sameBlock_any (r s : BlkR) (w : World) (hd : SDBlk r s) (hr : BlkROK w r) (hs : BlkROK w s) (hna : BlkNA s) :
    Calls Tryz.prog 120 #[blkVR r, blkVR s] w fun e w' => e = .returned (.bool true) ∧ Below w.heap.size w w' := by
  obtain ⟨⟨ria, rn, rc, rt⟩, rrs⟩ := r
  obtain ⟨h1, h2, h3⟩ := hd
  obtain rfl : rt = s.h.t := h1
  obtain rfl : rn = s.h.n := h2
  have HR := Lib.hid hr
  have HS := Lib.hid hs
  have HSD : Hid (SameEs SDIns rrs s.rs) := h3
  have HNA := Lib.hid hna.2
  clear hr hs hna h3
  obtain ⟨W0, HW0, hR, hS, hW0⟩ := boxes2 w (.cells #[.slice ria s.h.n rc, .int .i64 s.h.t.kind, .int .i64 s.h.t.a, .int .i64 s.h.t.t0, .int .i64 s.h.t.t1] 73) (.cells #[.slice s.h.ia s.h.n s.h.c, .int .i64 s.h.t.kind, .int .i64 s.h.t.a, .int .i64 s.h.t.t0, .int .i64 s.h.t.t1] 73)
  have x0 : ∀ w', Below W0.heap.size W0 w' → w'.cell? ⟨w.heap.size, 0, none⟩ = some (.slice ria s.h.n rc) := fun w' hb => by rw [cell_of_row _ _ _ _ _ _ (block_ext hb hR)]; rfl
  have x1 : ∀ w', Below W0.heap.size W0 w' → w'.cell? ⟨w.heap.size, 1, none⟩ = some (.int .i64 s.h.t.kind) := fun w' hb => by rw [cell_of_row _ _ _ _ _ _ (block_ext hb hR)]; rfl
  have x2 : ∀ w', Below W0.heap.size W0 w' → w'.cell? ⟨w.heap.size, 2, none⟩ = some (.int .i64 s.h.t.a) := fun w' hb => by rw [cell_of_row _ _ _ _ _ _ (block_ext hb hR)]; rfl
  have x3 : ∀ w', Below W0.heap.size W0 w' → w'.cell? ⟨w.heap.size, 3, none⟩ = some (.int .i64 s.h.t.t0) := fun w' hb => by rw [cell_of_row _ _ _ _ _ _ (block_ext hb hR)]; rfl
  have x4 : ∀ w', Below W0.heap.size W0 w' → w'.cell? ⟨w.heap.size, 4, none⟩ = some (.int .i64 s.h.t.t1) := fun w' hb => by rw [cell_of_row _ _ _ _ _ _ (block_ext hb hR)]; rfl
  have y0 : ∀ w', Below W0.heap.size W0 w' → w'.cell? ⟨w.heap.size + 1, 0, none⟩ = some (.slice s.h.ia s.h.n s.h.c) := fun w' hb => by rw [cell_of_row _ _ _ _ _ _ (block_ext hb hS)]; rfl
  have y1 : ∀ w', Below W0.heap.size W0 w' → w'.cell? ⟨w.heap.size + 1, 1, none⟩ = some (.int .i64 s.h.t.kind) := fun w' hb => by rw [cell_of_row _ _ _ _ _ _ (block_ext hb hS)]; rfl
  have y2 : ∀ w', Below W0.heap.size W0 w' → w'.cell? ⟨w.heap.size + 1, 2, none⟩ = some (.int .i64 s.h.t.a) := fun w' hb => by rw [cell_of_row _ _ _ _ _ _ (block_ext hb hS)]; rfl
  have y3 : ∀ w', Below W0.heap.size W0 w' → w'.cell? ⟨w.heap.size + 1, 3, none⟩ = some (.int .i64 s.h.t.t0) := fun w' hb => by rw [cell_of_row _ _ _ _ _ _ (block_ext hb hS)]; rfl
  have y4 : ∀ w', Below W0.heap.size W0 w' → w'.cell? ⟨w.heap.size + 1, 4, none⟩ = some (.int .i64 s.h.t.t1) := fun w' hb => by rw [cell_of_row _ _ _ _ _ _ (block_ext hb hS)]; rfl
  have E0 : Below W0.heap.size W0 W0 := Below.refl _ _
  have hq := eql_term
  clear hR hS
  go_enter Tryz.func120, Tryz.ntmps120
  go_wp2_with (first
    | (go_at_call 172
       refine (sameRow_any ria s.h.ia s.h.n rc s.h.c rrs s.rs W0 ((HR.out.2.ext HW0.out).ext E0) ((HS.out.2.ext HW0.out).ext E0) HSD.out HNA.out).mono ?_;rintro e w1 ⟨rfl, hb1⟩
       have E1 : Below W0.heap.size W0 w1 := ext_trans E0 hb1))
  go_ret
  exact ⟨rfl, ext_trans HW0.out E1⟩
theorem keptBlock_any (r s : BlkR) (base : Nat) (w : World) (h : LentB w base s r) (hs : BlkROK w s) (hn : BlkNA s) :
    Calls Tryz.prog 119 #[blkVR r, blkVR s] w fun e w' => e = .returned (.bool true) ∧ Below w.heap.size w w' := by
  obtain ⟨⟨ria, rn, rc, rt⟩, rrs⟩ := r
  obtain ⟨g, cap, e⟩ := h.2.2.form
  injection e with e1 e2 e3
  obtain rfl : ria = some ⟨g, 0, none⟩ := e1
  obtain rfl : rc = cap := e3
  obtain rfl : rn = s.h.n := h.2.1
  clear e2
  have HR := Lib.hid (h.ok hs hn)
  have HS := Lib.hid hs
  have HH := Lib.hid h
  have HN := Lib.hid hn
  have HD := Lib.hid h.sd
  clear hs h hn
  obtain ⟨W0, HW0, hR, hS, hW0⟩ := boxes2 w (.cells #[.slice (some ⟨g, 0, none⟩) s.h.n rc, .int .i64 rt.kind, .int .i64 rt.a, .int .i64 rt.t0, .int .i64 rt.t1] 73) (.cells #[.slice s.h.ia s.h.n s.h.c, .int .i64 s.h.t.kind, .int .i64 s.h.t.a, .int .i64 s.h.t.t0, .int .i64 s.h.t.t1] 73)
  have x0 : ∀ w', Below W0.heap.size W0 w' → w'.cell? ⟨w.heap.size, 0, none⟩ = some (.slice (some ⟨g, 0, none⟩) s.h.n rc) := fun w' hb => by rw [cell_of_row _ _ _ _ _ _ (block_ext hb hR)]; rfl
  have x1 : ∀ w', Below W0.heap.size W0 w' → w'.cell? ⟨w.heap.size, 1, none⟩ = some (.int .i64 rt.kind) := fun w' hb => by rw [cell_of_row _ _ _ _ _ _ (block_ext hb hR)]; rfl
  have x2 : ∀ w', Below W0.heap.size W0 w' → w'.cell? ⟨w.heap.size, 2, none⟩ = some (.int .i64 rt.a) := fun w' hb => by rw [cell_of_row _ _ _ _ _ _ (block_ext hb hR)]; rfl
  have x3 : ∀ w', Below W0.heap.size W0 w' → w'.cell? ⟨w.heap.size, 3, none⟩ = some (.int .i64 rt.t0) := fun w' hb => by rw [cell_of_row _ _ _ _ _ _ (block_ext hb hR)]; rfl
  have x4 : ∀ w', Below W0.heap.size W0 w' → w'.cell? ⟨w.heap.size, 4, none⟩ = some (.int .i64 rt.t1) := fun w' hb => by rw [cell_of_row _ _ _ _ _ _ (block_ext hb hR)]; rfl
  have y0 : ∀ w', Below W0.heap.size W0 w' → w'.cell? ⟨w.heap.size + 1, 0, none⟩ = some (.slice s.h.ia s.h.n s.h.c) := fun w' hb => by rw [cell_of_row _ _ _ _ _ _ (block_ext hb hS)]; rfl
  have y1 : ∀ w', Below W0.heap.size W0 w' → w'.cell? ⟨w.heap.size + 1, 1, none⟩ = some (.int .i64 s.h.t.kind) := fun w' hb => by rw [cell_of_row _ _ _ _ _ _ (block_ext hb hS)]; rfl
  have y2 : ∀ w', Below W0.heap.size W0 w' → w'.cell? ⟨w.heap.size + 1, 2, none⟩ = some (.int .i64 s.h.t.a) := fun w' hb => by rw [cell_of_row _ _ _ _ _ _ (block_ext hb hS)]; rfl
  have y3 : ∀ w', Below W0.heap.size W0 w' → w'.cell? ⟨w.heap.size + 1, 3, none⟩ = some (.int .i64 s.h.t.t0) := fun w' hb => by rw [cell_of_row _ _ _ _ _ _ (block_ext hb hS)]; rfl
  have y4 : ∀ w', Below W0.heap.size W0 w' → w'.cell? ⟨w.heap.size + 1, 4, none⟩ = some (.int .i64 s.h.t.t1) := fun w' hb => by rw [cell_of_row _ _ _ _ _ _ (block_ext hb hS)]; rfl
  have E0 : Below W0.heap.size W0 W0 := Below.refl _ _
  clear hR hS
  go_enter Tryz.func119, Tryz.ntmps119
  go_wp2_with (first
    | (go_at_call 171
       refine (keptRow_any base _ _ s.h.ia s.h.n s.h.c s.rs rrs w1 (LentB_law.ext (LentB_law.ext HH.out HW0.out) E1).2.2 ((HS.out.ext HW0.out).ext E1).2 HN.out.1 HN.out.2).mono ?_;rintro e w2 ⟨rfl, hb2⟩
       have E2 : Below W0.heap.size W0 w2 := ext_trans E1 hb2)
    | (go_at_call 120
       refine (sameBlock_any ⟨⟨some ⟨g, 0, none⟩, s.h.n, rc, rt⟩, rrs⟩ s W0 HD.out (HR.out.ext HW0.out) (HS.out.ext HW0.out) HN.out).mono ?_
       rintro e w1 ⟨rfl, E1⟩))
  go_ret
  exact ⟨rfl, ext_trans HW0.out E2⟩
theorem markBlock_any (i : Nat) (w : World) (hi : i ≤ 100000) :
    Calls Tryz.prog 114 #[.int .i64 1, .int .i64 (i : Int)] w fun e w' => e = .returned (blkVR (markB i)) ∧ Below w.heap.size w w' := by
  go_enter Tryz.func114, Tryz.ntmps114
  go_wp2_with (first
    | (go_at_call 112; refine (mark_any _ _ _ (by omega) (by omega)).mono ?_; rintro e w' ⟨rfl, rfl⟩)
    | (refine wpList_store_rowB rfl 73 _ _ rfl w.heap.size #[.slice none 0 0, .int .i64 0, .int .i64 (markV 1 (i : Int)), .int .i64 0, .int .i64 0] rfl rfl 73 _ (heap_alloc_new w _) (by kernel_rfl) rfl (by simp [Value.oneCell']) w.heap.size w (ext_alloc w _) (Nat.le_refl _) ?_
       intro W3 hb3 X3;have HX := Lib.hid hb3;have j0 : W3.cell? ⟨w.heap.size, 0, none⟩ = some (.slice none 0 0) := by rw [cell_of_row _ _ _ _ _ _ X3]; rfl
       have j1 : W3.cell? ⟨w.heap.size, 1, none⟩ = some (.int .i64 0) := by rw [cell_of_row _ _ _ _ _ _ X3]; rfl
       have j2 : W3.cell? ⟨w.heap.size, 2, none⟩ = some (.int .i64 (markV 1 (i : Int))) := by rw [cell_of_row _ _ _ _ _ _ X3]; rfl
       have j3 : W3.cell? ⟨w.heap.size, 3, none⟩ = some (.int .i64 0) := by rw [cell_of_row _ _ _ _ _ _ X3]; rfl
       have j4 : W3.cell? ⟨w.heap.size, 4, none⟩ = some (.int .i64 0) := by rw [cell_of_row _ _ _ _ _ _ X3]; rfl
       clear hb3 X3))
  refine bodyPost_ret (v := blkVR (markB i)) (by simp [results, Tryz.results114, go_sem, j0, j1, j2, j3, j4, markB]) rfl ⟨rfl, HX.out⟩
theorem BlksR.cells {w : World} {a : Option Addr} {n : Nat} {rs : List BlkR} (h : BlksR w a n rs) {k : Nat} (hk : k < n) : ∃ r b o, rs[k]? = some r ∧ BlkROK w r ∧ a = some ⟨b, o, none⟩ ∧ w.cell? ⟨b, o + k * 5, none⟩ = some (.slice r.h.ia r.h.n r.h.c) ∧ w.cell? ⟨b, o + k * 5 + 1, none⟩ = some (.int .i64 r.h.t.kind) ∧ w.cell? ⟨b, o + k * 5 + 2, none⟩ = some (.int .i64 r.h.t.a) ∧ w.cell? ⟨b, o + k * 5 + 3, none⟩ = some (.int .i64 r.h.t.t0) ∧ w.cell? ⟨b, o + k * 5 + 4, none⟩ = some (.int .i64 r.h.t.t1) := by
  have hk' : k < rs.length := by rw [h.1.1]; exact hk
  obtain ⟨b, o, e, hc⟩ := h.1.2.2 k rs[k] (List.getElem?_eq_getElem hk')
  exact ⟨rs[k], b, o, List.getElem?_eq_getElem hk', h.2 _ (List.getElem_mem hk'), e, hc 0 (by omega), hc 1 (by omega), hc 2 (by omega), hc 3 (by omega), hc 4 (by omega)⟩
abbrev LentBlocks (w : World) (base : Nat) (v : Value) (rs rs' : List BlkR) : Prop := LentL blkC' 5 73 LentB markB w base v rs rs'
def LentBlocksPost (w : World) (rs : List BlkR) (e : Ending) (w' : World) : Prop := ∃ v rs', e = .returned v ∧ LentBlocks w' w.heap.size v rs rs' ∧ Below w.heap.size w w'
theorem LentBlocks.okS {w : World} {base : Nat} {g n cap : Nat} {rs rs' : List BlkR} {a : Option Addr} (h : LentBlocks w base (.slice (some ⟨g, 0, none⟩) n cap) rs rs') (hs : BlksR w a n rs) (hn : n ≤ 1000000) (hna : ∀ r ∈ rs, BlkNA r) :
    BlksR w (some ⟨g, 0, none⟩) (n + 12) (rs' ++ markL markB) ∧ BlksR w (some ⟨g, 0, none⟩) n rs' ∧ rs'.length = n ∧ n + 12 ≤ cap ∧ cap ≤ maxLen ∧ LentEs LentB w base rs rs' := by
  obtain ⟨h1, h2, h3, h4, h5, h6⟩ := h.recs blkC'_len (by omega) hn
  have ho : ∀ r ∈ rs', BlkROK w r := fun r hm => by
    obtain ⟨k, hk, e⟩ := List.mem_iff_getElem.1 hm;have hk2 : k < rs.length := by rw [← h6.1]; exact hk
    exact (h6.2 k rs[k] r (List.getElem?_eq_getElem hk2) (by rw [List.getElem?_eq_getElem hk, e])).ok (hs.2 _ (List.getElem_mem hk2)) (hna _ (List.getElem_mem hk2))
  refine ⟨⟨h1, fun r hm => ?_⟩, ⟨h.recsN blkC'_len (by omega) hn, ho⟩, h3, h4, h5, h6⟩
  rcases List.mem_append.1 hm with hm | hm
  · exact ho r hm
  · exact markL_all (OK := fun r => BlkROK w r) (fun j hj => markB_ok w j hj) r hm
theorem lentBlocks_any (a : Option Addr) (n c : Nat) (rs : List BlkR) (w : World) (h : BlksR w a n rs) (hn : n ≤ 1000000) (hna : ∀ r ∈ rs, BlkNA r) :
    Calls Tryz.prog 53 #[.slice a n c] w (LentBlocksPost w rs) := by
  obtain ⟨i0, hi, hz0, hz1, hz2⟩ := info_parts (P := Tryz.prog) info_Block
  have HL := Lib.hid h.1.1
  have H := Lib.hid h
  have HNA := Lib.hid hna
  clear h hna
  go_enter Tryz.func53, Tryz.ntmps53
  go_wp2_with (first
    | (at_make
       refine wpList_make_own _ rfl _ _ 23 rfl w.heap.size 73 i0 _ 5 Tryz.underlying23 hi hz0 hz1 .i64 .i64 _ (n + 12) rfl rfl (by omega) (by rw [hz2]; omega) (by simp only [maxLen]; omega) (Nat.le_refl _) ?_;intro w1 hown1 hg1;have HO1 := Lib.hid hown1;have HB1 : Hid (Below w.heap.size w w1) := (Below.refl _ _).grown hg1 (Nat.le_refl _) (by simp)
       clear hown1 hg1))
  go_loopw [3, 4, 5] (fun v i _ wr => ∃ (k : Nat) (rs' : List BlkR), k ≤ n ∧ i = .int .i64 k ∧ Hid (wr.ownsRow w.heap.size 73 5 v k (rs'.flatMap blkC')) ∧ Hid (LentEs LentB wr w.heap.size (rs.take k) rs') ∧ Hid (Below w.heap.size w wr)) (fun _ i _ _ => n - (intOf i).toNat)
  case atStart => exact ⟨0, [], by omega, rfl, HO1, LentEs.nil _ _, HB1⟩
  case round =>
    obtain ⟨k, rs', hk, rfl, HO, HLR, HB⟩ := hrel;by_cases hlt : k < n
    · obtain ⟨r, b, o, hr, hok, rfl, y0, y1, y2, y3, y4⟩ := (H.out.ext HB.out).cells hlt;have HG := Lib.hid hr;have HOK := Lib.hid hok;have HTK : Hid (rs.take (k + 1) = rs.take k ++ [r]) := by rw [Hid, List.take_add_one, hr]; rfl
      have HNr := Lib.hid (HNA.out r (List.mem_of_getElem? hr));clear hr hok
      go_wp2_with (first
        | (go_at_call 113
           refine (lentBlock_any r wr HOK.out HNr.out).mono ?_;rintro e w1 ⟨r', rfl, hL, hb⟩;have HLr := Lib.hid hL;have HB1 := Lib.hid hb
           clear hL hb y0 y1 y2 y3 y4)
        | (refine wpList_store_rowB rfl 73 _ _ rfl w1.heap.size #[.slice r'.h.ia r'.h.n r'.h.c, .int .i64 r'.h.t.kind, .int .i64 r'.h.t.a, .int .i64 r'.h.t.t0, .int .i64 r'.h.t.t1] rfl rfl 73 _ (heap_alloc_new w1 _) (by kernel_rfl) rfl (by simp [Value.oneCell']) w1.heap.size w1 (ext_alloc w1 _) (Nat.le_refl _) ?_
           intro W3 hb3 X3;have HB3 := Lib.hid (ext_trans HB1.out hb3);have HLr3 := Lib.hid (LentB_law.ext (LentB_law.mono HB.out.size HLr.out) hb3);have i0 : W3.cell? ⟨w1.heap.size, 0, none⟩ = some (.slice r'.h.ia r'.h.n r'.h.c) := by rw [cell_of_row _ _ _ _ _ _ X3]; rfl
           have i1 : W3.cell? ⟨w1.heap.size, 1, none⟩ = some (.int .i64 r'.h.t.kind) := by rw [cell_of_row _ _ _ _ _ _ X3]; rfl
           have i2 : W3.cell? ⟨w1.heap.size, 2, none⟩ = some (.int .i64 r'.h.t.a) := by rw [cell_of_row _ _ _ _ _ _ X3]; rfl
           have i3 : W3.cell? ⟨w1.heap.size, 3, none⟩ = some (.int .i64 r'.h.t.t0) := by rw [cell_of_row _ _ _ _ _ _ X3]; rfl
           have i4 : W3.cell? ⟨w1.heap.size, 4, none⟩ = some (.int .i64 r'.h.t.t1) := by rw [cell_of_row _ _ _ _ _ _ X3]; rfl
           clear hb3 X3)
        | (at_builtin
           go_loud (
             have HO1 := Lib.hid ((Steady.ownsRow wr.heap.size _ _ _ _ _ _).ext HO.out HB3.out);refine wpList_append1 rfl W3 (.tmp 22) (.tmp 24) 23 73 rfl w.heap.size _ 5 56 Tryz.underlying23 info_Block rfl (by omega) u3 k _ (blkC' r') rfl HO1.out W3.heap.size rfl rfl rfl (Block_one r') (by simp only [maxLen]; omega) (by omega) (ext_trans HB.out HB3.out).size ?_;intro g cap w4 hown4 hg4 hat4;have HO4 : Hid (w4.ownsRow w.heap.size 73 5 (.slice (some ⟨g, 0, none⟩) (k + 1) cap) (k + 1) ((rs' ++ [r']).flatMap blkC')) := by rw [Hid, List.flatMap_append]; simpa using hown4
             have HB4 : Hid (Below w.heap.size w w4) := (ext_trans HB.out HB3.out).grown hg4 (ext_trans HB.out HB3.out).size (fun j e => (HO1.out.lt j e).1);have HL4 : Hid (LentEs LentB w4 w.heap.size (rs.take (k + 1)) (rs' ++ [r'])) := by
               rw [Hid, HTK.out];exact ((HLR.out.ext LentB_law HB3.out).snoc HLr3.out).grown LentB_law (by decide) HO1.out hg4
             clear hown4 hg4 hat4 i0 i1 i2 i3 i4)))
      go_roundw
      case rel => exact ⟨k + 1, rs' ++ [r'], by omega, by go_num, HO4, HL4, HB4⟩
      case measure => simp [intOf]; omega
    · obtain rfl : k = n := by omega
      have HLR1 : Hid (LentEs LentB wr w.heap.size rs rs') := by
        have := HLR.out;rw [List.take_of_length_le (by rw [HL.out]; omega)] at this;exact this
      have HO1 : Hid (wr.ownsRow w.heap.size 73 5 u3 (k + 0) ((rs' ++ (markL markB).take 0).flatMap blkC')) := by rw [Hid]; simpa using HO.out
      clear HLR HO;go_wp2
      go_loopw [3, 6] (fun v i wr => ∃ (j : Nat), j ≤ 12 ∧ i = .int .i64 j ∧ Hid (wr.ownsRow w.heap.size 73 5 v (k + j) ((rs' ++ (markL markB).take j).flatMap blkC')) ∧ Hid (LentEs LentB wr w.heap.size rs rs') ∧ Hid (Below w.heap.size w wr)) (fun _ i _ => 12 - (intOf i).toNat)
      case atStart => exact ⟨0, by omega, rfl, HO1, HLR1, HB⟩
      case round =>
        clear HO1 HLR1 HB;obtain ⟨j, hj, rfl, HO, HLR, HB⟩ := hrel;by_cases hlt : j < 12
        · go_wp2_with (first
            | (go_at_call 114; refine (markBlock_any j _ (by omega)).mono ?_; rintro e w1 ⟨rfl, hb1⟩; have HB1 := Lib.hid hb1; clear hb1)
            | (at_builtin
               go_loud (
                 have HO1 := Lib.hid ((Steady.ownsRow wr.heap.size _ _ _ _ _ _).ext HO.out HB1.out);refine wpList_append1 rfl w1 (.tmp 30) (.tmp 33) 23 73 rfl w.heap.size _ 5 56 Tryz.underlying23 info_Block rfl (by omega) u3 (k + j) _ (blkC' (markB j)) rfl HO1.out w1.heap.size rfl rfl rfl (Block_one _) (by simp only [maxLen]; omega) (by omega) (ext_trans HB.out HB1.out).size ?_;intro g cap w4 hown4 hg4 hat4;have HO4 : Hid (w4.ownsRow w.heap.size 73 5 (.slice (some ⟨g, 0, none⟩) (k + j + 1) cap) (k + j + 1) ((rs' ++ (markL markB).take (j + 1)).flatMap blkC')) := by rw [Hid, markL_take markB j hlt, ← List.append_assoc, List.flatMap_append]; simpa using hown4
                 have HB4 : Hid (Below w.heap.size w w4) := (ext_trans HB.out HB1.out).grown hg4 (ext_trans HB.out HB1.out).size (fun j e => (HO1.out.lt j e).1);have HL4 : Hid (LentEs LentB w4 w.heap.size rs rs') := (HLR.out.ext LentB_law HB1.out).grown LentB_law (by decide) HO1.out hg4
                 clear hown4 hg4 hat4)))
          go_roundw
          case rel => exact ⟨j + 1, by omega, by go_num, HO4, HL4, HB4⟩
          case measure => simp [intOf]; omega
        · obtain rfl : j = 12 := by omega
          have hown := HO.out;have hform : ∃ g cap, u3 = .slice (some ⟨g, 0, none⟩) (k + 12) cap ∧ k + 12 ≤ cap ∧ cap ≤ maxLen := by
            rcases hown.2 with ⟨_, h0⟩ | ⟨g', cap', cur, hv, _, _, h1, h2, _⟩
            · omega
            · exact ⟨_, _, hv, h1, h2⟩
          obtain ⟨g, cap, rfl, hc1, hc2⟩ := hform;clear hown;unfold maxLen at hc2;go_wp2
          go_ret
          refine ⟨_, rs', rfl, ⟨g, cap, by rw [HL.out]; rfl, ?_, HLR.out⟩, HB.out⟩;have := HO.out;rw [HL.out];rw [List.take_of_length_le (by rw [markL_len]; omega)] at this;exact this
theorem sameBlocks_any (a b : Option Addr) (n c d : Nat) (rs ss : List BlkR) (w : World) (hr : BlksR w a n rs) (hs : BlksR w b n ss) (h : SameEs SDBlk rs ss) (hna : ∀ r ∈ ss, BlkNA r) :
    Calls Tryz.prog 118 #[.slice a n c, .slice b n d] w fun e w' => e = .returned (.bool true) ∧ Below w.heap.size w w' := by
  have HR := Lib.hid hr
  have HS := Lib.hid hs
  have HH := Lib.hid h
  have HNA := Lib.hid hna
  have hn := hr.1.2.1
  clear hr hs h hna
  have hne : ((n : Int) != (n : Int)) = false := by simp
  go_enter Tryz.func118, Tryz.ntmps118
  go_wp2
  go_loopw [5] (fun i wr => ∃ (k : Nat), k ≤ n ∧ i = .int .i64 k ∧ Hid (Below w.heap.size w wr)) (fun i _ => n - (intOf i).toNat)
  case atStart => exact ⟨0, by omega, rfl, Below.refl _ _⟩
  case round =>
    obtain ⟨k, hk, rfl, HB⟩ := hrel;by_cases hlt : k < n
    · obtain ⟨r, b1, o1, hr, hokr, rfl, y0, y1, y2, y3, y4⟩ := (HR.out.ext HB.out).cells hlt;obtain ⟨s, b2, o2, hs, hoks, rfl, z0, z1, z2, z3, z4⟩ := (HS.out.ext HB.out).cells hlt;have HD := Lib.hid (HH.out.2 k r s hr hs);have HNs := Lib.hid (HNA.out s (List.mem_of_getElem? hs));have HOr := Lib.hid hokr;have HOs := Lib.hid hoks;have hk0 : (0 : Int) ≤ (k : Int) := by omega
      have hk1 : (k : Int) < (n : Int) := by omega
      have kx0 : ∀ n : ExtW wr, n.val.cell? ⟨b1, o1 + k * 5, none⟩ = some (.slice r.h.ia r.h.n r.h.c) := fun n => cell_ext n.ext y0;have kx1 : ∀ n : ExtW wr, n.val.cell? ⟨b1, o1 + k * 5 + 1, none⟩ = some (.int .i64 r.h.t.kind) := fun n => cell_ext n.ext y1;have kx2 : ∀ n : ExtW wr, n.val.cell? ⟨b1, o1 + k * 5 + 2, none⟩ = some (.int .i64 r.h.t.a) := fun n => cell_ext n.ext y2;have kx3 : ∀ n : ExtW wr, n.val.cell? ⟨b1, o1 + k * 5 + 3, none⟩ = some (.int .i64 r.h.t.t0) := fun n => cell_ext n.ext y3;have kx4 : ∀ n : ExtW wr, n.val.cell? ⟨b1, o1 + k * 5 + 4, none⟩ = some (.int .i64 r.h.t.t1) := fun n => cell_ext n.ext y4;have ky0 : ∀ n : ExtW wr, n.val.cell? ⟨b2, o2 + k * 5, none⟩ = some (.slice s.h.ia s.h.n s.h.c) := fun n => cell_ext n.ext z0;have ky1 : ∀ n : ExtW wr, n.val.cell? ⟨b2, o2 + k * 5 + 1, none⟩ = some (.int .i64 s.h.t.kind) := fun n => cell_ext n.ext z1;have ky2 : ∀ n : ExtW wr, n.val.cell? ⟨b2, o2 + k * 5 + 2, none⟩ = some (.int .i64 s.h.t.a) := fun n => cell_ext n.ext z2;have ky3 : ∀ n : ExtW wr, n.val.cell? ⟨b2, o2 + k * 5 + 3, none⟩ = some (.int .i64 s.h.t.t0) := fun n => cell_ext n.ext z3;have ky4 : ∀ n : ExtW wr, n.val.cell? ⟨b2, o2 + k * 5 + 4, none⟩ = some (.int .i64 s.h.t.t1) := fun n => cell_ext n.ext z4;have HNE : Nonempty (ExtW wr) := ⟨⟨wr, Below.refl _ _⟩⟩
      clear hr hs hokr hoks y0 y1 y2 y3 y4 z0 z1 z2 z3 z4;go_wp2;refine region_ext (by kernel_rfl) (by kernel_rfl) ?_
      repeat (first
        | go_big_quiet_skip
        | go_big_quiet_step (first
          | (go_at_call 120; exact quiet_ext (sameBlock_any r s _ HD.out (BlkROK.ext HOr.out (ExtW.ext _)) (BlkROK.ext HOs.out (ExtW.ext _)) HNs.out))))
      refine wpQuiet_nil ?_;rintro _ ⟨mm, rfl⟩;have HM := Lib.hid (ext_trans HB.out mm.ext);generalize mm.val = W8 at *;clear kx0 kx1 kx2 kx3 kx4 ky0 ky1 ky2 ky3 ky4;go_wp2
      go_roundw
      case rel => exact ⟨k + 1, by omega, by go_num, HM⟩
      case measure => simp [intOf]; omega
    · go_wp2
      go_ret
      exact ⟨rfl, HB.out⟩
theorem keptBlocks_any (base g cap : Nat) (a : Option Addr) (n c : Nat) (rs rs' : List BlkR) (w : World) (h : LentBlocks w base (.slice (some ⟨g, 0, none⟩) n cap) rs rs') (hs : BlksR w a n rs) (hn : n ≤ 1000000) (hna : ∀ r ∈ rs, BlkNA r) :
    Calls Tryz.prog 64 #[.slice (some ⟨g, 0, none⟩) n cap, .slice a n c] w fun e w' => e = .returned (.bool true) ∧ Below w.heap.size w w' := by
  obtain ⟨h1, _, hlen, hc1, hc2, hl⟩ := h.okS hs hn hna
  have HA := Lib.hid h1
  have HS := Lib.hid hs
  have HL := Lib.hid hl
  have HLen := Lib.hid hlen
  have HNA := Lib.hid hna
  clear h hs h1 hl hlen hna
  unfold maxLen at hc2
  have hne : ((n : Int) != (n : Int)) = false := by simp
  go_enter Tryz.func64, Tryz.ntmps64
  go_wp2
  go_loopw [6] (fun i wr => ∃ (k : Nat), k ≤ n + 12 ∧ i = .int .i64 k ∧ Hid (Below w.heap.size w wr)) (fun i _ => n + 12 - (intOf i).toNat)
  case atStart => exact ⟨0, by omega, rfl, Below.refl _ _⟩
  case round =>
    obtain ⟨k, hk, rfl, HB⟩ := hrel;by_cases hlt : k < n + 12
    · obtain ⟨r, b1, o1, hr, hokr, hab, y0, y1, y2, y3, y4⟩ := (HA.out.ext HB.out).cells hlt;injection hab with hab;injection hab with hab1 hab2 _;subst hab1;subst hab2;have HOr := Lib.hid hokr;rw [Nat.zero_add] at y0 y1 y2 y3 y4;have kx0 : ∀ n : ExtW wr, n.val.cell? ⟨g, k * 5, none⟩ = some (.slice r.h.ia r.h.n r.h.c) := fun n => cell_ext n.ext y0;have kx1 : ∀ n : ExtW wr, n.val.cell? ⟨g, k * 5 + 1, none⟩ = some (.int .i64 r.h.t.kind) := fun n => cell_ext n.ext y1;have kx2 : ∀ n : ExtW wr, n.val.cell? ⟨g, k * 5 + 2, none⟩ = some (.int .i64 r.h.t.a) := fun n => cell_ext n.ext y2;have kx3 : ∀ n : ExtW wr, n.val.cell? ⟨g, k * 5 + 3, none⟩ = some (.int .i64 r.h.t.t0) := fun n => cell_ext n.ext y3;have kx4 : ∀ n : ExtW wr, n.val.cell? ⟨g, k * 5 + 4, none⟩ = some (.int .i64 r.h.t.t1) := fun n => cell_ext n.ext y4;have HNE : Nonempty (ExtW wr) := ⟨⟨wr, Below.refl _ _⟩⟩
      by_cases hkn : k < n
      · rw [List.getElem?_append_left (by rw [HLen.out]; exact hkn)] at hr;obtain ⟨s, b2, o2, hs, hoks, rfl, z0, z1, z2, z3, z4⟩ := (HS.out.ext HB.out).cells hkn;have HLk := Lib.hid (LentB_law.ext (HL.out.2 k s r hs hr) HB.out);have HOs := Lib.hid hoks;have HNs := Lib.hid (HNA.out s (List.mem_of_getElem? hs));have ky0 : ∀ n : ExtW wr, n.val.cell? ⟨b2, o2 + k * 5, none⟩ = some (.slice s.h.ia s.h.n s.h.c) := fun n => cell_ext n.ext z0;have ky1 : ∀ n : ExtW wr, n.val.cell? ⟨b2, o2 + k * 5 + 1, none⟩ = some (.int .i64 s.h.t.kind) := fun n => cell_ext n.ext z1;have ky2 : ∀ n : ExtW wr, n.val.cell? ⟨b2, o2 + k * 5 + 2, none⟩ = some (.int .i64 s.h.t.a) := fun n => cell_ext n.ext z2;have ky3 : ∀ n : ExtW wr, n.val.cell? ⟨b2, o2 + k * 5 + 3, none⟩ = some (.int .i64 s.h.t.t0) := fun n => cell_ext n.ext z3;have ky4 : ∀ n : ExtW wr, n.val.cell? ⟨b2, o2 + k * 5 + 4, none⟩ = some (.int .i64 s.h.t.t1) := fun n => cell_ext n.ext z4;have hk0 : (0 : Int) ≤ (k : Int) := by omega
        have hk1 : (k : Int) < (n : Int) := by omega
        have hk2 : (k : Int) < (n : Int) + 12 := by omega
        have d1 : decide ((k : Int) < (n : Int)) = true := by simpa using hkn
        have d2 : decide ((n : Int) ≤ (k : Int)) = false := by simp; omega
        have d3 : decide (k < n) = true := by simpa using hkn
        have d4 : decide (n ≤ k) = false := by simp; omega
        clear hr hs hoks hokr y0 y1 y2 y3 y4 z0 z1 z2 z3 z4 hkn;go_wp2;refine region_ext (by kernel_rfl) (by kernel_rfl) ?_
        repeat (go_big_quiet_step (first
          | (go_at_call 119; exact quiet_ext (keptBlock_any r s base _ (LentB_law.ext HLk.out (ExtW.ext _)) (BlkROK.ext HOs.out (ExtW.ext _)) HNs.out))))
        refine wpQuiet_nil ?_;rintro _ ⟨mm, rfl⟩;have HM := Lib.hid (ext_trans HB.out mm.ext);generalize mm.val = W8 at *;clear kx0 kx1 kx2 kx3 kx4 ky0 ky1 ky2 ky3 ky4;go_wp2
        go_roundw
        case rel => exact ⟨k + 1, by omega, by go_num, HM⟩
        case measure => simp [intOf]; omega
      · obtain ⟨j, rfl⟩ : ∃ j, k = n + j := ⟨k - n, by omega⟩
        have hj : j < 12 := by omega
        have hrm : r = markB j := by
          rw [List.getElem?_append_right (by rw [HLen.out]; omega), HLen.out, Nat.add_sub_cancel_left, markL_at markB j hj] at hr;exact (Option.some.inj hr).symm
        have HRM := Lib.hid hrm;have d1 : decide (n + j < n) = false := by simp
        have d2 : decide (n ≤ n + j) = true := by simp
        have d3 : decide ((n : Int) + (j : Int) < (n : Int)) = false := by simp; omega
        have d4 : decide ((n : Int) ≤ (n : Int) + (j : Int)) = true := by simp; omega
        have d5 : IntKind.i64.wrap ((n : Int) + (j : Int) - (n : Int)) = (j : Int) := by rw [IntKind.wrap_i64]; omega
        have hk0 : (0 : Int) ≤ (n : Int) + (j : Int) := by omega
        have hk2 : (n : Int) + (j : Int) < (n : Int) + 12 := by omega
        clear hr hrm hokr y0 y1 y2 y3 y4 hkn;go_wp2;refine region_ext (by kernel_rfl) (by kernel_rfl) ?_
        repeat (go_big_quiet_step (first
          | (go_at_call 114; exact quiet_ext (markBlock_any j _ (by omega)))
          | (go_at_call 120; exact quiet_ext (sameBlock_any r (markB j) _ (by rw [HRM.out]; exact SDBlk_refl _) (BlkROK.ext HOr.out (ExtW.ext _)) (markB_ok _ j hj) (markB_na j)))))
        refine wpQuiet_nil ?_;rintro _ ⟨mm, rfl⟩;have HM := Lib.hid (ext_trans HB.out mm.ext);generalize mm.val = W8 at *;clear kx0 kx1 kx2 kx3 kx4;go_wp2
        go_roundw
        case rel => exact ⟨n + j + 1, by omega, by go_num, HM⟩
        case measure => simp [intOf]; omega
    · go_wp2
      go_ret
      exact ⟨rfl, HB.out⟩
end

section
open Go.RowKit
theorem var03_any (n : Int) (w : World) : Calls Tryz.prog 162 #[.int .i64 n] w fun e w' => e = .returned (.bool (varB n)) ∧ w = w' := by
  by_cases h1 : 1 ≤ n
  · have d1 : decide (1 ≤ n) = true := by simpa using h1
    have HE : Hid (varB n = decide (n ≤ 200)) := by rw [Hid, varB, decide_eq_decide]; omega
    go_enter Tryz.func162, Tryz.ntmps162
    go_wp2
    go_ret
    exact ⟨by rw [HE.out]; rfl, rfl⟩
  · have d1 : decide (1 ≤ n) = false := by simpa using h1
    have HE : Hid (varB n = false) := by rw [Hid, varB, decide_eq_false_iff_not]; omega
    go_enter Tryz.func162, Tryz.ntmps162
    go_wp2
    go_ret
    exact ⟨by rw [HE.out]; rfl, rfl⟩
theorem eql_to (w : World) (x0 x1 y0 y1 : Int) : (binOp .eql 68 (.agg #[.int .i64 x0, .int .i64 x1]) (.agg #[.int .i64 y0, .int .i64 y1])).run Tryz.prog w = .ok (.bool (x0 == y0 && x1 == y1)) w := by
  rw [run_eql_struct, equal_toD w 9998]
  rfl
theorem eql_to0 (x0 x1 : Int) (b : Bool) (hb : (x0 == 0 && x1 == 0) = b) (w : World) : (binOp .eql 68 (.agg #[.int .i64 x0, .int .i64 x1]) (.agg #[.int .i64 0, .int .i64 0])).run Tryz.prog w = .ok (.bool b) w := by
  rw [eql_to, hb]
theorem isTerm03_any (t : TermD) (w : World) : Calls Tryz.prog 97 #[termV t] w (TermPost t w) := by
  obtain ⟨k, a, x, y⟩ := t
  obtain ⟨b, hb⟩ : ∃ b, (x == 0 && y == 0) = b := ⟨_, rfl⟩
  have hq := eql_to0 x y b hb
  have HBB := Lib.hid hb
  clear hb
  by_cases k1 : k = 1
  · subst k1;by_cases a0 : a = 0
    · subst a0;have HE : Hid (termB ⟨1, 0, x, y⟩ = (y == 0)) := by rw [Hid, Bool.eq_iff_iff]; simp [termB]
      go_enter Tryz.func97, Tryz.ntmps97
      go_wp2
      go_ret
      exact ⟨by rw [HE.out]; rfl, ext_alloc _ _⟩
    · have b0 : (a == 0) = false := by simpa using a0
      have HE : Hid (termB ⟨1, a, x, y⟩ = false) := by simp [Hid, termB, a0]
      clear a0
      go_enter Tryz.func97, Tryz.ntmps97
      go_wp2
      go_ret
      exact ⟨by rw [HE.out]; rfl, ext_alloc _ _⟩
  · have b1 : (k == 1) = false := by simpa using k1
    by_cases k2 : k = 2
    · subst k2;have HE : Hid (termB ⟨2, a, x, y⟩ = varB a) := by simp [Hid, termB]
      clear k1 b1
      go_enter Tryz.func97, Tryz.ntmps97
      go_wp2_with (go_at_call 162; refine (var03_any _ _).mono ?_; rintro e w' ⟨rfl, rfl⟩)
      go_ret
      exact ⟨by rw [HE.out]; rfl, ext_alloc _ _⟩
    · have b2 : (k == 2) = false := by simpa using k2
      by_cases k3 : k = 3
      · subst k3;clear k1 b1 k2 b2;by_cases a0 : a = 0
        · subst a0;have HE : Hid (termB ⟨3, 0, x, y⟩ = b) := by rw [Hid, ← HBB.out, Bool.eq_iff_iff]; simp [termB]
          go_enter Tryz.func97, Tryz.ntmps97
          go_wp2
          go_ret
          exact ⟨by rw [HE.out]; rfl, ext_alloc _ _⟩
        · have b0 : (a == 0) = false := by simpa using a0
          cases hv : varB a with
          | true =>
            have HV := Lib.hid hv;have HE : Hid (termB ⟨3, a, x, y⟩ = b) := by rw [Hid, ← HBB.out, Bool.eq_iff_iff]; simp [termB, hv]
            clear a0 hv
            go_enter Tryz.func97, Tryz.ntmps97
            go_wp2_with (go_at_call 162; refine (var03_any _ _).mono ?_; rintro e w' ⟨rfl, rfl⟩; rw [HV.out])
            go_ret
            exact ⟨by rw [HE.out]; rfl, ext_alloc _ _⟩
          | false =>
            have HV := Lib.hid hv;have HE : Hid (termB ⟨3, a, x, y⟩ = false) := by simp [Hid, termB, hv, a0]
            clear a0 hv
            go_enter Tryz.func97, Tryz.ntmps97
            go_wp2_with (go_at_call 162; refine (var03_any _ _).mono ?_; rintro e w' ⟨rfl, rfl⟩; rw [HV.out])
            go_ret
            exact ⟨by rw [HE.out]; rfl, ext_alloc _ _⟩
      · have b3 : (k == 3) = false := by simpa using k3
        by_cases k4 : k = 4
        · subst k4;clear k1 b1 k2 b2 k3 b3;by_cases a0 : a = 0
          · subst a0;have HE : Hid (termB ⟨4, 0, x, y⟩ = b) := by rw [Hid, ← HBB.out, Bool.eq_iff_iff]; simp [termB]
            go_enter Tryz.func97, Tryz.ntmps97
            go_wp2
            go_ret
            exact ⟨by rw [HE.out]; rfl, ext_alloc _ _⟩
          · have b0 : (a == 0) = false := by simpa using a0
            have HE : Hid (termB ⟨4, a, x, y⟩ = false) := by simp [Hid, termB, a0]
            clear a0
            go_enter Tryz.func97, Tryz.ntmps97
            go_wp2
            go_ret
            exact ⟨by rw [HE.out]; rfl, ext_alloc _ _⟩
        · have b4 : (k == 4) = false := by simpa using k4
          have HE : Hid (termB ⟨k, a, x, y⟩ = false) := by simp [Hid, termB, k1, k2, k3, k4]
          clear k1 k2 k3 k4
          go_enter Tryz.func97, Tryz.ntmps97
          go_wp2
          go_ret
          exact ⟨by rw [HE.out]; rfl, ext_alloc _ _⟩
theorem to03_any (t : TermD) (w : World) (h : TermOK t) : Calls Tryz.prog 71 #[termV t] w (IntsPost w (toD t)) := by
  have HO := Lib.hid (toD_ok t h)
  clear h
  obtain ⟨k, a, x, y⟩ := t
  by_cases ht : termB ⟨k, a, x, y⟩ = true
  · have HB := Lib.hid ht;by_cases k1 : k = 1
    · subst k1;have HE : Hid (toD ⟨1, a, x, y⟩ = [x]) := by rw [Hid, toD, if_pos ht, if_pos rfl]
      clear ht
      go_enter Tryz.func71, Tryz.ntmps71
      go_wp2_with (go_at_call 97; refine (isTerm03_any ⟨1, a, x, y⟩ _).mono ?_; rintro e w' ⟨rfl, hb'⟩; rw [HB.out]; obtain ⟨g1, g2⟩ := bcell hb'; have HB' := Lib.hid hb'; clear hb')
      go_ret
      rw [HE.out];exact ⟨_, rfl, (ownI_lit (xs := [x]) rfl _ (below_size' HB'.out) (by have := HO.out; rwa [HE.out] at this) (by simp)), (ext_trans (ext_alloc _ _) HB'.out).alloc (below_size' HB'.out) _⟩
    · have b1 : (k == 1) = false := by simpa using k1
      by_cases k2 : k = 2
      · subst k2;have HE : Hid (toD ⟨2, a, x, y⟩ = [x, y]) := by rw [Hid, toD, if_pos ht, if_neg (by simp), if_pos rfl]
        clear ht k1
        go_enter Tryz.func71, Tryz.ntmps71
        go_wp2_with (go_at_call 97; refine (isTerm03_any ⟨2, a, x, y⟩ _).mono ?_; rintro e w' ⟨rfl, hb'⟩; rw [HB.out]; obtain ⟨g1, g2⟩ := bcell hb'; have HB' := Lib.hid hb'; clear hb')
        go_ret
        rw [HE.out];exact ⟨_, rfl, (ownI_lit (xs := [x, y]) rfl _ (below_size' HB'.out) (by have := HO.out; rwa [HE.out] at this) (by simp)), (ext_trans (ext_alloc _ _) HB'.out).alloc (below_size' HB'.out) _⟩
      · have b2 : (k == 2) = false := by simpa using k2
        have HE : Hid (toD ⟨k, a, x, y⟩ = []) := by rw [Hid, toD, if_pos ht, if_neg k1, if_neg k2]
        clear ht k1 k2
        go_enter Tryz.func71, Tryz.ntmps71
        go_wp2_with (go_at_call 97; refine (isTerm03_any ⟨k, a, x, y⟩ _).mono ?_; rintro e w' ⟨rfl, hb'⟩; rw [HB.out]; obtain ⟨g1, g2⟩ := bcell hb'; have HB' := Lib.hid hb'; clear hb')
        go_ret
        rw [HE.out];exact ⟨_, rfl, OwnI.nil _ _, ext_trans (ext_alloc _ _) HB'.out⟩
  · have HE : Hid (toD ⟨k, a, x, y⟩ = []) := by rw [Hid, toD, if_neg ht]
    have ht' : termB ⟨k, a, x, y⟩ = false := by simpa using ht
    have HB := Lib.hid ht';clear ht ht'
    go_enter Tryz.func71, Tryz.ntmps71
    go_wp2_with (go_at_call 97; refine (isTerm03_any ⟨k, a, x, y⟩ _).mono ?_; rintro e w' ⟨rfl, hb'⟩; rw [HB.out]; obtain ⟨g1, g2⟩ := bcell hb'; have HB' := Lib.hid hb'; clear hb')
    go_ret
    rw [HE.out];exact ⟨_, rfl, OwnI.nil _ _, ext_trans (ext_alloc _ _) HB'.out⟩
end

section
open Go.RowKit
def QueI (w : World) (base : Nat) (v : Value) (xs : List Int) : Prop :=
  ∃ g o cap cur, v = .slice (some ⟨g, o, none⟩) xs.length cap ∧ base ≤ g ∧ xs.length ≤ cap ∧ cap ≤ maxLen ∧ w.heap[g]? = some (.cells cur 3 (0, 0)) ∧ o + cap ≤ cur.size ∧
    (∀ k, k < xs.length → cur[o + k]? = some (.int .i64 (xs.getD k 0))) ∧ (∀ x ∈ xs, I64 x) ∧ xs.length ≤ 17592186044416
section
variable {w w' : World} {base : Nat} {v : Value} {xs : List Int}
theorem QueI.form (h : QueI w base v xs) : ∃ g o cap, v = .slice (some ⟨g, o, none⟩) xs.length cap ∧ xs.length ≤ cap ∧ cap ≤ maxLen ∧ Ints w (some ⟨g, o, none⟩) xs.length xs := by
  obtain ⟨g, o, cap, cur, rfl, h1, h2, h3, h4, h5, h6, h7, h8⟩ := h
  refine ⟨g, o, cap, rfl, h2, h3, rfl, h8, fun k hk => ⟨g, o, rfl, ?_, h7 _ ?_⟩⟩
  · rw [cell_of_row _ _ _ _ _ _ h4]; exact h6 k hk
  · rw [List.getD_eq_getElem?_getD, List.getElem?_eq_getElem hk]; exact List.getElem_mem _
theorem QueI.low {k : Nat} (h : QueI w base v xs) (hk : v.ownBlock = some k) : base ≤ k ∧ k < w.heap.size := by
  obtain ⟨g, o, cap, cur, rfl, h1, h2, h3, h4, _⟩ := h
  simp only [Value.ownBlock, Option.some.injEq] at hk
  subst hk
  exact ⟨h1, (Array.getElem?_eq_some_iff.1 h4).1⟩
theorem QueI.chg {S : Nat → Prop} (h : QueI w base v xs) (hc : Chg S w w') (hn : ∀ k, v.ownBlock = some k → ¬ S k) : QueI w' base v xs := by
  obtain ⟨g, o, cap, cur, rfl, h1, h2, h3, h4, h5⟩ := h
  exact ⟨g, o, cap, cur, rfl, h1, h2, h3, (hc.block g (Array.getElem?_eq_some_iff.1 h4).1 (hn g rfl)).trans h4, h5⟩
theorem QueI.ext (h : QueI w base v xs) (hb : Below w.heap.size w w') : QueI w' base v xs := h.chg (S := fun _ => False) ⟨hb.os, hb.tape, hb.output, hb.size, fun k hk _ => hb.block k hk⟩ fun _ _ e => e
theorem QueI.of_own {g n c : Nat} (h : OwnI w base (.slice (some ⟨g, 0, none⟩) n c) xs) : QueI w base (.slice (some ⟨g, 0, none⟩) n c) xs := by
  rcases h.1.2 with ⟨hv, _⟩ | ⟨g', cap, cur, hv, hb, hh, h1, h2, h3, h4⟩
  · cases hv
  · injection hv with e1 e2 e3;injection e1 with e1;injection e1 with e1 _ _;subst e1 e2 e3;refine ⟨g, 0, c, cur, rfl, hb, h1, h2, hh, by omega, fun k hk => ?_, h.2.1, h.2.2⟩;have h5 : (cur.toList.take (xs.length * 1))[k]? = (intVals xs)[k]? := by rw [h4]
    rw [List.getElem?_take, if_pos (by omega)] at h5;rw [Nat.zero_add];rw [Array.getElem?_toList] at h5;rw [h5];simp [intVals, List.getD_eq_getElem?_getD, hk]
theorem QueI.tail {g o n c : Nat} {x : Int} (h : QueI w base (.slice (some ⟨g, o, none⟩) n c) (x :: xs)) : QueI w base (.slice (some ⟨g, o + 1, none⟩) xs.length (c - 1)) xs := by
  obtain ⟨g', o', cap, cur, e, h1, h2, h3, h4, h5, h6, h7, h8⟩ := h
  injection e with e1 e2 e3
  injection e1 with e1
  injection e1 with e1 e4 _
  subst e1 e3 e4
  simp only [List.length_cons] at h2 h8
  refine ⟨g, o + 1, c - 1, cur, rfl, h1, by omega, by omega, h4, by omega, fun k hk => ?_, fun z hz => h7 z (by simp [hz]), by omega⟩
  have := h6 (k + 1) (by simp; omega)
  rw [show o + 1 + k = o + (k + 1) by omega, this]
  simp
end
section
variable {P : Program} {Q : Exit → Act → World → Prop}
theorem run_append_que (w0 : World) (base : Nat) (t ty : TypeId) (z : Value) (bytes : Nat) (ht : P.underlying t = some (.slice 3)) (hinfo : (P.info? 3).map (fun i => (i.zero, i.size, i.bytes)) = some (some z, 1, bytes)) (hzs : z.cells.size = 1)
    (v : Value) (xs : List Int) (h : QueI w0 base v xs) (x : Int) (hx : I64 x) (hlen : xs.length ≤ 1000000) (hb8 : bytes ≤ 16) (hbase : base ≤ w0.heap.size) :
    ∃ v' w', (Builtin.append_ #[t, t] ty #[v, .slice (some ⟨w0.heap.size, 0, none⟩) 1 1]).run P (w0.alloc (.cells #[.int .i64 x] 3)) = .ok v' w' ∧ QueI w' base v' (xs ++ [x]) ∧ w0.grownBy w' v.ownBlock ∧ (v'.ownBlock = v.ownBlock ∨ ∃ k, v'.ownBlock = some k ∧ w0.heap.size ≤ k) := by
  obtain ⟨i, hi, hz, hsize, hby⟩ := info_parts hinfo
  obtain ⟨g, o, cap, cur, rfl, h1, h2, h3, h4, h5, h6, h7, h8⟩ := h
  have hgl := (Array.getElem?_eq_some_iff.1 h4).1
  have hadd : ∀ j, (⟨w0.heap.size, 0, none⟩ : Addr).add j = ⟨w0.heap.size, j, none⟩ := fun j => by unfold Addr.add; split <;> simp_all
  have hadd2 : ∀ j, (⟨g, o, none⟩ : Addr).add j = ⟨g, o + j, none⟩ := fun j => by unfold Addr.add; split <;> simp_all
  have hg' : (w0.alloc (.cells #[.int .i64 x] 3)).heap[g]? = some (.cells cur 3 (0, 0)) := (Below.heap_alloc _ _ _ hgl).trans h4
  have hnews : ∀ j u, [Value.int .i64 x][j]? = some u → (w0.alloc (.cells #[.int .i64 x] 3)).cell? ((⟨w0.heap.size, 0, none⟩ : Addr).add j) = some u := by
    intro j u hu;rw [hadd, cell_of_row _ _ _ _ _ _ (World.alloc_heap_new w0 _)];simpa using hu
  by_cases hr : xs.length + 1 ≤ cap
  · refine ⟨_, _, run_append_room_cells (P := P) (w0.alloc (.cells #[.int .i64 x] 3)) t ty 3 i ht hi g o xs.length cap ⟨w0.heap.size, 0, none⟩ 1 1 [.int .i64 x] (by rw [hsize]; rfl) hnews (by simp [Value.oneCell']) hr (fun j hj => ?_) (fun j hj => frozen_of_row _ _ _ _ _ hg'), ?_, ?_, .inl rfl⟩
    · simp only [List.length_singleton] at hj;obtain rfl : j = 0 := by omega
      rw [cell_of_row _ _ _ _ _ _ hg', hsize, Array.getElem?_eq_getElem (by omega)];rfl
    · have hst := heap_setCell_same (w0.alloc (.cells #[.int .i64 x] 3)) g (o + xs.length) _ _ (.int .i64 x) hg';rw [hsize, Nat.mul_one];refine ⟨g, o, cap, _, by simp, h1, by simp; omega, h3, hst, by simp; omega, fun k hk => ?_, fun z hz => ?_, by simp; omega⟩
      · simp only [List.length_append, List.length_singleton] at hk;rw [Array.getElem?_setIfInBounds];by_cases e : k = xs.length
        · subst e;rw [if_pos rfl, if_pos (by omega)];simp [List.getD_eq_getElem?_getD]
        · rw [if_neg (by omega), h6 k (by omega)];simp [List.getD_eq_getElem?_getD, List.getElem?_append_left (show k < xs.length by omega)]
      · rcases List.mem_append.1 hz with hz | hz
        · exact h7 z hz
        · simp at hz; subst hz; exact hx
    · refine ⟨rfl, rfl, rfl, by simp [World.setCells], fun k hk hne => ?_⟩;have hkg : k ≠ g := fun e => hne (by simp [Value.ownBlock, e]);simp only [World.setCells];rw [Below.heap_setCell _ _ _ _ (fun e => hkg e), Below.heap_alloc _ _ _ hk]
  · have holds : ∀ j u, (intVals xs)[j]? = some u → (w0.alloc (.cells #[.int .i64 x] 3)).cell? ((⟨g, o, none⟩ : Addr).add j) = some u := fun j u hu => by
      have hj : j < xs.length := by have := (List.getElem?_eq_some_iff.1 hu).1; simpa [intVals] using this
      rw [hadd2, cell_of_row _ _ _ _ _ _ hg', h6 j hj, ← hu];simp [intVals, List.getD_eq_getElem?_getD, hj]
    obtain ⟨v', w', hrun, hown, hgr⟩ := run_append_arg_grows (P := P) (w0.alloc (.cells #[.int .i64 x] 3)) t ty 3 i z 1 bytes ht hi hz hsize hby hzs (by omega) ⟨g, o, none⟩ xs.length cap (intVals xs) (by simp [intVals]) holds ⟨w0.heap.size, 0, none⟩ 1 1 [.int .i64 x] rfl hnews (by omega) (by simp only [maxLen]; omega) (by
      have : (xs.length + 1) * bytes ≤ (xs.length + 1) * 16 := Nat.mul_le_mul_left _ hb8
      omega)
    obtain ⟨g2, c2, rfl⟩ : ∃ g2 c2, v' = .slice (some ⟨g2, 0, none⟩) (xs.length + 1) c2 := by
      rcases hown.2 with ⟨_, h0⟩ | ⟨g2, c2, cur, hv, _⟩
      · omega
      · exact ⟨g2, c2, hv⟩
    refine ⟨_, w', hrun, ?_, ⟨hgr.os, hgr.tape, hgr.output, Nat.le_trans (by simp) hgr.size, fun k hk _ => ?_⟩, .inr ⟨g2, rfl, by have := (hown.lt g2 rfl).1; simp at this; omega⟩⟩
    · have : OwnI w' base (.slice (some ⟨g2, 0, none⟩) (xs ++ [x]).length c2) (xs ++ [x]) := by
        refine ⟨?_, fun z hz => ?_, by simp; omega⟩
        · have e : intVals (xs ++ [x]) = intVals xs ++ [.int .i64 x] := by simp [intVals]
          rw [e, List.length_append];exact hown.mono (by simp; omega)
        · rcases List.mem_append.1 hz with hz | hz
          · exact h7 z hz
          · simp at hz; subst hz; exact hx
      have h9 := QueI.of_own this
      rwa [List.length_append, List.length_singleton] at h9
    · rw [hgr.block k (by simp; omega) (fun e => by cases e), Below.heap_alloc _ _ _ hk]
theorem wpList_append_que {ops : Array Oper} {rest : List Oper} {o : Oper} {a : Act} (hgd : o.guard = none) (w0 : World) (s x : Operand) (t : TypeId) (ho : o.op = .call { callee := .builtin .append, args := #[s, x], argTypes := #[t, t] })
    (base : Nat) (z : Value) (bytes : Nat) (ht : P.underlying t = some (.slice 3)) (hinfo : (P.info? 3).map (fun i => (i.zero, i.size, i.bytes)) = some (some z, 1, bytes)) (hzs : z.cells.size = 1)
    (v : Value) (xs : List Int) (hs : a.eval s = v) (hq : QueI w0 base v xs) (y : Int) (hy : I64 y) (H : Nat) (hH : w0.heap.size = H) (hx : a.eval x = .slice (some ⟨H, 0, none⟩) 1 1) (hlen : xs.length ≤ 1000000) (hb8 : bytes ≤ 16) (hbase : base ≤ w0.heap.size)
    (h : ∀ v' w', QueI w' base v' (xs ++ [y]) → w0.grownBy w' v.ownBlock → (v'.ownBlock = v.ownBlock ∨ ∃ k, v'.ownBlock = some k ∧ w0.heap.size ≤ k) → wpList P ops Q rest (a.put o.dst v') w') :
    wpList P ops Q (o :: rest) a (w0.alloc (.cells #[.int .i64 y] 3)) := by
  refine wpList_plain hgd fun K hK => ?_
  subst hH
  obtain ⟨v', w', hrun, h2, h3, h4⟩ := run_append_que (P := P) w0 base t o.type z bytes ht hinfo hzs v xs hq y hy hlen hb8 hbase
  unfold Oper.wp execOp
  simp only [ho, resolve, invoke, builtin, Sem.run_bind, Sem.run_pure, Result.andThen_ok, List.map_toArray, List.map_cons, List.map_nil, hs, hx, hrun]
  exact hK _ _ (h v' w' h2 h3 h4)
end
end
end Go.Proofs.YtblhmdhfhaencaaGreat
