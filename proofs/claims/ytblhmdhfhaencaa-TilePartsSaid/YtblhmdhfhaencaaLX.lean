/-
 Blocks with their instructions; BlocksOf, FuncOf, the laws' own great, with all bounds that they give.
-/
import Derived.Test.YtblhmdhfhaencaaEL
namespace Go.Proofs.Ytblhmdhfhaencaa
set_option linter.unusedSimpArgs false
set_option linter.unusedVariables false
set_option linter.unusedSectionVars false
set_option maxRecDepth 100000
set_option maxHeartbeats 40000000
section
open Go.RowKit
attribute [local go_sem] Oper.semAt_some wide_fn wide_depth wide_fnR wide_depthR

/-- a block with its instructions -/
structure BlkR where
 h : BlkH
 rs : List InsR
abbrev blkC' (b : BlkR) : List Value := blkC b.h
theorem blkC'_len (b : BlkR) : (blkC' b).length = 5 := rfl
def BlkROK (w : World) (b : BlkR) : Prop := TermOK b.h.t ∧ InsS w b.h.ia b.h.n b.rs
theorem BlkROK.ext {w w' : World} {b : BlkR} (h : BlkROK w b) (hb : Below w.heap.size w w') : BlkROK w' b := ⟨h.1, h.2.ext hb⟩
def BlksR (w : World) (a : Option Addr) (n : Nat) (bs : List BlkR) : Prop := Recs 5 blkC' w a n bs ∧ ∀ b ∈ bs, BlkROK w b
theorem BlksR.ext {w w' : World} {a : Option Addr} {n : Nat} {bs : List BlkR} (h : BlksR w a n bs) (hb : Below w.heap.size w w') : BlksR w' a n bs := ⟨h.1.ext blkC'_len hb, fun b hx => (h.2 b hx).ext hb⟩
def hOf (bs : List BlkR) : List BlkH := bs.map (·.h)
theorem BlksR.x {w : World} {a : Option Addr} {n : Nat} {bs : List BlkR} (h : BlksR w a n bs) : BlksX w a n (hOf bs) := by
 refine ⟨⟨⟨by simp [hOf, h.1.1], h.1.2.1, fun k r hr => ?_⟩, fun b hb => ?_⟩, fun b hb => ?_⟩
 · simp only [hOf, List.getElem?_map, Option.map_eq_some_iff] at hr
   obtain ⟨x, hx, rfl⟩ := hr
   exact h.1.2.2 k x hx
 · simp only [hOf, List.mem_map] at hb
   obtain ⟨x, hx, rfl⟩ := hb
   exact (h.2 x hx).1
 · simp only [hOf, List.mem_map] at hb
   obtain ⟨x, hx, rfl⟩ := hb
   exact ⟨x.rs, (h.2 x hx).2⟩
theorem BlksX.r {w : World} {a : Option Addr} {n : Nat} {bs : List BlkH} (h : BlksX w a n bs) : ∃ xs, hOf xs = bs ∧ BlksR w a n xs := by
 have key : ∀ bs : List BlkH, (∀ b ∈ bs, ∃ rs, InsS w b.ia b.n rs) → ∃ xs : List BlkR, hOf xs = bs ∧ ∀ x ∈ xs, InsS w x.h.ia x.h.n x.rs := by
  intro bs
  induction bs with
  | nil => exact fun _ => ⟨[], rfl, fun x hx => by cases hx⟩
  | cons b bs ih =>
    intro hb
    obtain ⟨xs, h1, h2⟩ := ih fun c hc => hb c (by simp [hc])
    obtain ⟨rs, hr⟩ := hb b (by simp)
    refine ⟨⟨b, rs⟩ :: xs, by simp [hOf] at h1 ⊢; exact h1, fun x hx => ?_⟩
    rcases List.mem_cons.1 hx with rfl | hx
    · exact hr
    · exact h2 x hx
 obtain ⟨xs, h1, h2⟩ := key bs h.2
 subst h1
 refine ⟨xs, rfl, ⟨by have := h.1.1.1; simpa [hOf] using this, h.1.1.2.1, fun k r hr => h.1.1.2.2 k r.h (by simp [hOf, hr])⟩, fun x hx => ⟨h.1.2 x.h (by simp only [hOf, List.mem_map]; exact ⟨x, hx, rfl⟩), h2 x hx⟩⟩
def BigOK (most : Int) (b : BlkR) : Prop := (b.h.n : Int) ≤ most ∧ ∀ r ∈ b.rs, (r.na : Int) ≤ most
def BlocksPost2 (bs : List BlkR) (most : Int) (w : World) (e : Ending) (w' : World) : Prop := ∃ v : Int, e = .returned (.int .i64 v) ∧ 0 ≤ v ∧ v ≤ 35184372088841 ∧ (v ≤ most → (bs.length : Int) ≤ most ∧ ∀ b ∈ bs, BigOK most b) ∧ w = w'
theorem blocksOf_any2 (a : Option Addr) (n c : Nat) (bs : List BlkR) (most : Int) (h0 : 0 ≤ most) (h1 : most ≤ 10000) (w : World) (h : BlksR w a n bs) :
  Calls Try.prog 62 #[.slice a n c, .int .i64 most] w (BlocksPost2 bs most w) := by
 have H := Lib.hid h
 have HL := Lib.hid h.1.1
 have hn := h.1.2.1
 clear h
 go_enter Try.func62, Try.ntmps62
 go_wp2
 go_loopg [5, 6, 7] n (fun gg s5 s6 _ wr => ∃ (i : Nat) (acc : Int), s6 = .int .i64 i ∧ s5 = .int .i64 acc ∧ i ≤ n ∧ n - i ≤ gg ∧ (i : Int) ≤ acc ∧ acc ≤ 35184372088841 ∧ Hid (acc ≤ most → ∀ b ∈ bs.take i, BigOK most b) ∧ wr = w)
 case atStart => exact ⟨0, 0, rfl, rfl, by omega, by omega, by omega, by omega, fun _ b hb => by simp at hb, rfl⟩
 case round =>
  obtain ⟨i, acc, rfl, rfl, hi, hgg, ha0, ha1, HR, rfl⟩ := hrel
  by_cases hlt : i < n
  · by_cases hm : acc ≤ most
    · have hir : i < bs.length := by rw [HL.out]; exact hlt
      obtain ⟨b, hb⟩ : ∃ b, bs[i]? = some b := ⟨bs[i], List.getElem?_eq_getElem hir⟩
      obtain ⟨B, o, rfl, hc⟩ := H.out.1.2.2 i b hb
      have g0 := hc 0 (by omega)
      rw [Nat.add_zero] at g0
      have hI := (H.out.2 b (List.mem_of_getElem? hb)).2
      have HI := Lib.hid hI
      have hbn := hI.1.2.1
      have HB := Lib.hid hb
      have g0' : wr.cell? ⟨B, o + i * 5, none⟩ = some (.slice b.h.ia b.h.n b.h.c) := g0
      have hmr := HR.out hm
      have HMR := Lib.hid hmr
      clear hb hc hI g0 hmr
      have hlt' : (i : Int) < (n : Int) := by omega
      go_wp2
      obtain ⟨wo, rfl⟩ : ∃ wo : World, wo = wr := ⟨_, rfl⟩
      have HT : Hid (∀ acc2 : Int, acc + 1 + b.h.n ≤ acc2 → acc2 ≤ most → (∀ r ∈ b.rs, (r.na : Int) ≤ most) → ∀ x ∈ bs.take (i + 1), BigOK most x) := fun acc2 h1 h2 h3 x hx => by
       rw [List.take_add_one, HB.out, List.mem_append] at hx
       rcases hx with hx | hx
       · exact HMR.out x hx
       · simp at hx; subst hx; exact ⟨by omega, h3⟩
      go_loopg [5, 7] b.h.n (fun gg2 s5 s7 wi => ∃ (k : Nat) (acc2 : Int), s7 = .int .i64 k ∧ s5 = .int .i64 acc2 ∧ k ≤ b.h.n ∧ b.h.n - k ≤ gg2 ∧ acc + 1 + b.h.n ≤ acc2 ∧ acc2 ≤ 35184372088841 ∧ Hid (acc2 ≤ most → ∀ r ∈ b.rs.take k, (r.na : Int) ≤ most) ∧ wi = wo)
      case atStart => exact ⟨0, acc + 1 + b.h.n, rfl, rfl, by omega, by omega, by omega, by omega, fun _ r hr => by simp at hr, rfl⟩
      case round =>
       obtain ⟨k, acc2, rfl, rfl, hk, hgg2, hb1, hb2, HRk, rfl⟩ := hrel
       by_cases hk2 : k < b.h.n
       · by_cases hm2 : acc2 ≤ most
         · obtain ⟨r, bb, oo, hr, hok, hia, c0, c1, c2, c3, c4, c5, c6, c7⟩ := HI.out.cells hk2
           have hna := hok.1.2.1
           rw [hia] at g0'
           have hkz : (k : Int) < (b.h.n : Int) := by omega
           have HRk2 : Hid (acc2 + r.na ≤ most → ∀ q ∈ b.rs.take (k + 1), (q.na : Int) ≤ most) := fun h q hq => by
            rw [List.take_add_one, hr, List.mem_append] at hq
            rcases hq with hq | hq
            · exact HRk.out (by omega) q hq
            · simp at hq; subst hq; omega
           clear hr hok c0 c1 c2 c3 c4 c5 c7 hia
           go_wp2
           go_roundg (b.h.n - (k + 1))
           case measure => omega
           case rel => exact ⟨k + 1, acc2 + r.na, by go_num, rfl, by omega, Nat.le_refl _, by omega, by omega, HRk2, rfl⟩
         · have hkz : (k : Int) < (b.h.n : Int) := by omega
           have hm3 : most < acc2 := by omega
           go_wp2
           go_roundg (n - (i + 1))
           case measure => omega
           case rel => exact ⟨i + 1, acc2, by go_num, rfl, by omega, Nat.le_refl _, by omega, by omega, fun h => absurd h (by omega), rfl⟩
       · have hkz : ¬ (k : Int) < (b.h.n : Int) := by omega
         have HRk3 : Hid (acc2 ≤ most → ∀ r ∈ b.rs, (r.na : Int) ≤ most) := fun h => by
          have := HRk.out h
          rwa [List.take_of_length_le (by rw [HI.out.1.1]; omega)] at this
         go_wp2
         go_roundg (n - (i + 1))
         case measure => omega
         case rel => exact ⟨i + 1, acc2, by go_num, rfl, by omega, Nat.le_refl _, by omega, by omega, fun h => HT.out acc2 hb1 h (HRk3.out h), rfl⟩
    · have hm3 : most < acc := by omega
      have hlt' : (i : Int) < (n : Int) := by omega
      go_wp2
      go_ret
      exact ⟨acc, rfl, by omega, ha1, fun h => absurd h (by omega), rfl⟩
  · obtain rfl : i = n := by omega
    have HT : Hid (bs.take i = bs) := List.take_of_length_le (by rw [HL.out]; omega)
    go_wp2
    go_ret
    exact ⟨acc, rfl, by omega, ha1, fun h => ⟨by rw [HL.out]; omega, by have := HR.out h; rw [HT.out] at this; exact this⟩, rfl⟩
def FuncOfPost2 (pn : Nat) (bs : List BlkR) (most : Int) (w : World) (e : Ending) (w' : World) : Prop := ∃ z : Int, e = .returned (.int .i64 z) ∧ 0 ≤ z ∧ z ≤ 70368744177664 ∧ (z ≤ most → (pn : Int) ≤ most ∧ (bs.length : Int) ≤ most ∧ ∀ b ∈ bs, BigOK most b) ∧ Below w.heap.size w w'
theorem funcOf_any2 (pa : Option Addr) (pn pc : Nat) (hpn : pn ≤ 17592186044416) (ba : Option Addr) (bn bc : Nat) (bs : List BlkR) (most : Int) (h0 : 0 ≤ most) (h1 : most ≤ 10000) (w : World) (h : BlksR w ba bn bs) :
  Calls Try.prog 30 #[funcV pa pn pc ba bn bc, .int .i64 most] w (FuncOfPost2 pn bs most w) := by
 have HX := Lib.hid h
 clear h
 go_enter Try.func30, Try.ntmps30
 go_upto_region 1 with (fail)
 obtain ⟨W, hW⟩ : ∃ W, W = w.alloc (funcO pa pn pc ba bn bc) := ⟨_, rfl⟩
 rw [← hW]
 have hk0 : W.heap[w.heap.size]? = some (funcO pa pn pc ba bn bc) := by rw [hW]; exact heap_alloc_new _ _
 have hB : Below w.heap.size w W := by rw [hW]; exact ext_alloc _ _
 have HK := Lib.hid hk0
 have HB := Lib.hid hB
 clear hW hk0 hB
 refine region_free 8 [some 5, some 6, some 7, some 8, some 9, some 10, some 11, some 12] (by kernel_rfl) (by kernel_rfl) (specB [.val (.pointer (some ⟨w.heap.size, 0, none⟩)), .val (.slice pa pn pc), .val (.int .i64 (pn : Int)), .val (.pointer (some ⟨w.heap.size, 1, none⟩)), .val (.slice ba bn bc), .val (.int .i64 most), (.any fun v lo hi W => ∃ z : Int, v = .int .i64 z ∧ 0 ≤ z ∧ z ≤ 35184372088841 ∧ (z ≤ most → (bs.length : Int) ≤ most ∧ ∀ b ∈ bs, BigOK most b)), (.any fun v lo hi W => ∃ z : Int, v = .int .i64 z ∧ 0 ≤ z ∧ z ≤ 70368744177664 ∧ (z ≤ most → (pn : Int) ≤ most ∧ (bs.length : Int) ≤ most ∧ ∀ b ∈ bs, BigOK most b))]) (specB_mono ?_) ?_ ?_
 · intro k hk
   simp only [List.mem_cons, List.not_mem_nil, or_false] at hk
   rcases hk with rfl | rfl | rfl | rfl | rfl | rfl | rfl | rfl
   · exact trivial
   · exact trivial
   · exact trivial
   · exact trivial
   · exact trivial
   · exact trivial
   · intro v lo hi w w' _ h; exact h
   · intro v lo hi w w' _ h; exact h
 · intro i hi ν lo hi' w1 K hB hD hK
   have hcase : i = 0 ∨ i = 1 ∨ i = 2 ∨ i = 3 ∨ i = 4 ∨ i = 5 ∨ i = 6 ∨ i = 7 := by omega
   clear hi
   rcases hcase with rfl | rfl | rfl | rfl | rfl | rfl | rfl | rfl
   · clear hD
     refine wpOp_atK rfl rfl ?_
     simp only [frameOf, frameGo, List.getD_cons_zero, List.getD_cons_succ, put_some, put_none, List.setIfInBounds_toArray, List.set_cons_succ, List.set_cons_zero] at hK ⊢
     go_simp
     exact hK _ _ (Below.refl _ _) rfl
   · have e0 := hD 0 (by kernel_rfl)
     replace e0 : ν 0 = (.pointer (some ⟨w.heap.size, 0, none⟩)) := e0
     clear hD
     refine wpOp_atK rfl rfl ?_
     simp only [frameOf, frameGo, List.getD_cons_zero, List.getD_cons_succ, put_some, put_none, List.setIfInBounds_toArray, List.set_cons_succ, List.set_cons_zero, e0] at hK ⊢
     have hcl : w1.cell? ⟨w.heap.size, 0, none⟩ = some (.slice pa pn pc) := (by rw [cell_of_row _ _ _ _ _ _ (block_ext hB HK.out)]; rfl)
     go_simp
     exact hK _ _ (Below.refl _ _) rfl
   · have e1 := hD 1 (by kernel_rfl)
     replace e1 : ν 1 = (.slice pa pn pc) := e1
     clear hD
     refine wpOp_atK rfl rfl ?_
     simp only [frameOf, frameGo, List.getD_cons_zero, List.getD_cons_succ, put_some, put_none, List.setIfInBounds_toArray, List.set_cons_succ, List.set_cons_zero, e1] at hK ⊢
     go_simp
     exact hK _ _ (Below.refl _ _) rfl
   · clear hD
     refine wpOp_atK rfl rfl ?_
     simp only [frameOf, frameGo, List.getD_cons_zero, List.getD_cons_succ, put_some, put_none, List.setIfInBounds_toArray, List.set_cons_succ, List.set_cons_zero] at hK ⊢
     go_simp
     exact hK _ _ (Below.refl _ _) rfl
   · have e3 := hD 3 (by kernel_rfl)
     replace e3 : ν 3 = (.pointer (some ⟨w.heap.size, 1, none⟩)) := e3
     clear hD
     refine wpOp_atK rfl rfl ?_
     simp only [frameOf, frameGo, List.getD_cons_zero, List.getD_cons_succ, put_some, put_none, List.setIfInBounds_toArray, List.set_cons_succ, List.set_cons_zero, e3] at hK ⊢
     have hcl : w1.cell? ⟨w.heap.size, 1, none⟩ = some (.slice ba bn bc) := (by rw [cell_of_row _ _ _ _ _ _ (block_ext hB HK.out)]; rfl)
     go_simp
     exact hK _ _ (Below.refl _ _) rfl
   · clear hD
     refine wpOp_atK rfl rfl ?_
     simp only [frameOf, frameGo, List.getD_cons_zero, List.getD_cons_succ, put_some, put_none, List.setIfInBounds_toArray, List.set_cons_succ, List.set_cons_zero] at hK ⊢
     go_simp
     exact hK _ _ (Below.refl _ _) rfl
   · have e4 := hD 4 (by kernel_rfl)
     replace e4 : ν 4 = (.slice ba bn bc) := e4
     have e5 := hD 5 (by kernel_rfl)
     replace e5 : ν 5 = (.int .i64 most) := e5
     clear hD
     refine wpOp_atK rfl rfl ?_
     simp only [frameOf, frameGo, List.getD_cons_zero, List.getD_cons_succ, put_some, put_none, List.setIfInBounds_toArray, List.set_cons_succ, List.set_cons_zero, e4, e5] at hK ⊢
     go_simp
     refine (blocksOf_any2 ba bn bc bs most h0 h1 w1 (HX.out.ext (ext_trans HB.out hB))).mono ?_
     rintro e w3 ⟨z, rfl, hz0, hz1, hz2, rfl⟩
     exact hK _ _ (Below.refl _ _) ⟨z, rfl, hz0, hz1, hz2⟩
   · have e2 := hD 2 (by kernel_rfl)
     replace e2 : ν 2 = (.int .i64 (pn : Int)) := e2
     have e6 := hD 6 (by kernel_rfl)
     unfold specB at e6
     simp only [List.getD_cons_zero, List.getD_cons_succ, specK] at e6
     clear hD
     refine wpOp_atK rfl rfl ?_
     simp only [frameOf, frameGo, List.getD_cons_zero, List.getD_cons_succ, put_some, put_none, List.setIfInBounds_toArray, List.set_cons_succ, List.set_cons_zero, e2] at hK ⊢
     obtain ⟨z, hz, hz0, hz1, hz2⟩ := e6
     simp only [hz] at hK ⊢
     go_simp
     exact hK _ _ (Below.refl _ _) ⟨(pn : Int) + z, by rw [IntKind.wrap_i64]; congr 1; omega, by omega, by omega, fun h => ⟨by omega, hz2 (by omega)⟩⟩
 · intro ν lo hi w1 hB hS hI hD
   have e0 : ν 0 = (.pointer (some ⟨w.heap.size, 0, none⟩)) := hS 0 (by omega)
   have e1 : ν 1 = (.slice pa pn pc) := hS 1 (by omega)
   have e2 : ν 2 = (.int .i64 (pn : Int)) := hS 2 (by omega)
   have e3 : ν 3 = (.pointer (some ⟨w.heap.size, 1, none⟩)) := hS 3 (by omega)
   have e4 : ν 4 = (.slice ba bn bc) := hS 4 (by omega)
   have e5 : ν 5 = (.int .i64 most) := hS 5 (by omega)
   have e6 := hS 6 (by omega)
   unfold specB at e6
   simp only [List.getD_cons_zero, List.getD_cons_succ, specK] at e6
   have e7 := hS 7 (by omega)
   unfold specB at e7
   simp only [List.getD_cons_zero, List.getD_cons_succ, specK] at e7
   clear hS
   simp only [List.drop_succ_cons, List.drop_zero, frameOf, frameGo, List.getD_cons_zero, List.getD_cons_succ, put_some, put_none, List.setIfInBounds_toArray, List.set_cons_succ, List.set_cons_zero, e0, e1, e2, e3, e4, e5]
   clear e0 e1 e2 e3 e4 e5 e6
   obtain ⟨z, hz, hz0, hz1, hz2⟩ := e7
   rw [hz]
   have HZ2 := Lib.hid hz2
   have HB9 := Lib.hid (ext_trans HB.out hB)
   clear hI hD hB hz2
   go_wp2
   go_ret
   exact ⟨z, rfl, hz0, hz1, HZ2.out, HB9.out⟩
/-- what is told where nothing is too great -/
def GreatPost2 (bn : Nat) (pn : Nat) (bs : List BlkR) (n : Nat) (ls : List TileR) (most : Nat) (w : World) (e : Ending) (w' : World) : Prop :=
 ∃ b, e = .returned (.bool b) ∧ Below w.heap.size w w' ∧ (b = false → (bn ≤ most ∨ 200 < bn) ∧ n + totL (tdOf ls) ≤ 3 * most ∧ (pn : Int) ≤ 2000 ∧ (bs.length : Int) ≤ 2000 ∧ ∀ b ∈ bs, BigOK 2000 b)
theorem great18_any2 (pa : Option Addr) (pn pc : Nat) (hpn : pn ≤ 17592186044416) (ba : Option Addr) (bn bc : Nat) (bs : List BlkR) (a : Option Addr) (n c : Nat) (ls : List TileR) (w : World) (h : BlksR w ba bn bs) (ht : TilesOK w a n ls) :
  Calls Try.prog 8 #[funcV pa pn pc ba bn bc, .slice a n c] w (GreatPost2 bn pn bs n ls 30 w) := by
 have HX := Lib.hid h
 have HT := Lib.hid ht
 have hn := ht.1.2.1
 have HLN := Lib.hid ht.1.1
 have hbn := h.1.2.1
 clear h ht
 go_enter Try.func8, Try.ntmps8
 go_wp2
 go_loopw [5, 6] (fun s5 s6 wr => ∃ (i : Nat) (acc : Nat), s6 = .int .i64 i ∧ s5 = .int .i64 acc ∧ i ≤ n ∧ acc = n + totN ls i ∧ acc ≤ 35184372088832 ∧ Hid (wr = w.alloc (funcO pa pn pc ba bn bc))) (fun _ s6 _ => n - (intOf s6).toNat)
 case atStart => exact ⟨0, n, rfl, rfl, by omega, by simp [totN], by omega, rfl⟩
 case round =>
  obtain ⟨i, acc, rfl, rfl, hi, hacc, hab, HW⟩ := hrel
  have HBw : Hid (Below w.heap.size w wr) := by rw [Hid, HW.out]; exact ext_alloc _ _
  have hk0 : wr.heap[w.heap.size]? = some (funcO pa pn pc ba bn bc) := by rw [HW.out]; exact heap_alloc_new _ _
  have HK := Lib.hid hk0
  have k0 : wr.cell? ⟨w.heap.size, 0, none⟩ = some (.slice pa pn pc) := by rw [cell_of_row _ _ _ _ _ _ hk0]; rfl
  have k1 : wr.cell? ⟨w.heap.size, 1, none⟩ = some (.slice ba bn bc) := by rw [cell_of_row _ _ _ _ _ _ hk0]; rfl
  clear hk0
  by_cases hlt : i < n
  · have hlt' : (i : Int) < (n : Int) := by omega
    have hd1 : decide ((i : Int) < (n : Int)) = true := by simpa using hlt
    by_cases hle : acc ≤ 90
    · have hd2 : decide ((acc : Int) ≤ 90) = true := by simp; omega
      obtain ⟨t, b, o, hlk, ⟨hI, _⟩, rfl, c0, c1, c2⟩ := (HT.out.ext HBw.out).cells hlt
      have hst := totN_step ls i t hlk
      have hb := hI.2.1
      clear c0 c1 hlk hI
      go_wp2
      go_roundw
      case rel => exact ⟨i + 1, n + totN ls i + t.bn, by go_num, by go_num, by omega, by omega, by omega, HW⟩
      case measure => simp [intOf]; omega
    · have hd2 : decide ((acc : Int) ≤ 90) = false := by simp; omega
      have hgt : (90 : Int) < (acc : Int) := by omega
      clear hacc
      by_cases q1 : bn ≤ 30
      · have e1 : (bn : Int) ≤ 30 := by omega
        go_wp2_with (
         (go_at_call 30
          refine (funcOf_any2 pa pn pc hpn ba bn bc bs 2000 (by omega) (by omega) wr (HX.out.ext HBw.out)).mono ?_
          rintro e w2 ⟨z, rfl, hz0, hz1, hz2, hb2⟩
          have HB2 := Lib.hid (ext_trans HBw.out hb2)
          have HZ := Lib.hid hz2
          clear hb2 hz2))
        all_goals
         go_ret
         first
          | exact ⟨_, rfl, HBw.out, fun h => by first | cases h | (simp at h; done) | (simp at h; omega)⟩
          | exact ⟨_, rfl, HB2.out, fun h => by first | cases h | (simp at h; done) | (simp at h; omega)⟩
      · by_cases q2 : bn ≤ 200
        · have e1 : (30 : Int) < (bn : Int) := by omega
          have e2 : (bn : Int) ≤ 200 := by omega
          go_wp2_with (
           (go_at_call 30
            refine (funcOf_any2 pa pn pc hpn ba bn bc bs 2000 (by omega) (by omega) wr (HX.out.ext HBw.out)).mono ?_
            rintro e w2 ⟨z, rfl, hz0, hz1, hz2, hb2⟩
            have HB2 := Lib.hid (ext_trans HBw.out hb2)
            have HZ := Lib.hid hz2
            clear hb2 hz2))
          all_goals
           go_ret
           first
            | exact ⟨_, rfl, HBw.out, fun h => by first | cases h | (simp at h; done) | (simp at h; omega)⟩
            | exact ⟨_, rfl, HB2.out, fun h => by first | cases h | (simp at h; done) | (simp at h; omega)⟩
        · have e1 : (30 : Int) < (bn : Int) := by omega
          have e2 : (200 : Int) < (bn : Int) := by omega
          go_wp2_with (
           (go_at_call 30
            refine (funcOf_any2 pa pn pc hpn ba bn bc bs 2000 (by omega) (by omega) wr (HX.out.ext HBw.out)).mono ?_
            rintro e w2 ⟨z, rfl, hz0, hz1, hz2, hb2⟩
            have HB2 := Lib.hid (ext_trans HBw.out hb2)
            have HZ := Lib.hid hz2
            clear hb2 hz2))
          all_goals
           go_ret
           first
            | exact ⟨_, rfl, HBw.out, fun h => by first | cases h | (simp at h; done) | (simp at h; omega)⟩
            | exact ⟨_, rfl, HB2.out, fun h => by first | cases h | (simp at h; done) | (simp at h; omega)⟩
  · obtain rfl : i = n := by omega
    have HTOT : Hid (totN ls i = totL (tdOf ls)) := totN_all HT.out
    by_cases hle : acc ≤ 90
    · have hd2 : (acc : Int) ≤ 90 := by omega
      by_cases q1 : bn ≤ 30
      · have e1 : (bn : Int) ≤ 30 := by omega
        go_wp2_with (
         (go_at_call 30
          refine (funcOf_any2 pa pn pc hpn ba bn bc bs 2000 (by omega) (by omega) wr (HX.out.ext HBw.out)).mono ?_
          rintro e w2 ⟨z, rfl, hz0, hz1, hz2, hb2⟩
          have HB2 := Lib.hid (ext_trans HBw.out hb2)
          have HZ := Lib.hid hz2
          clear hb2 hz2))
        all_goals
         go_ret
         first
          | exact ⟨_, rfl, HBw.out, fun h => by first | cases h | (simp at h; done) | (simp at h; omega)⟩
          | exact ⟨_, rfl, HB2.out, fun h => ⟨by omega, by have := HTOT.out; omega, HZ.out (by first | (simp at h; done) | (simp at h; omega))⟩⟩
      · by_cases q2 : bn ≤ 200
        · have e1 : (30 : Int) < (bn : Int) := by omega
          have e2 : (bn : Int) ≤ 200 := by omega
          go_wp2_with (
           (go_at_call 30
            refine (funcOf_any2 pa pn pc hpn ba bn bc bs 2000 (by omega) (by omega) wr (HX.out.ext HBw.out)).mono ?_
            rintro e w2 ⟨z, rfl, hz0, hz1, hz2, hb2⟩
            have HB2 := Lib.hid (ext_trans HBw.out hb2)
            have HZ := Lib.hid hz2
            clear hb2 hz2))
          all_goals
           go_ret
           first
            | exact ⟨_, rfl, HBw.out, fun h => by first | cases h | (simp at h; done) | (simp at h; omega)⟩
            | exact ⟨_, rfl, HB2.out, fun h => ⟨by omega, by have := HTOT.out; omega, HZ.out (by first | (simp at h; done) | (simp at h; omega))⟩⟩
        · have e1 : (30 : Int) < (bn : Int) := by omega
          have e2 : (200 : Int) < (bn : Int) := by omega
          go_wp2_with (
           (go_at_call 30
            refine (funcOf_any2 pa pn pc hpn ba bn bc bs 2000 (by omega) (by omega) wr (HX.out.ext HBw.out)).mono ?_
            rintro e w2 ⟨z, rfl, hz0, hz1, hz2, hb2⟩
            have HB2 := Lib.hid (ext_trans HBw.out hb2)
            have HZ := Lib.hid hz2
            clear hb2 hz2))
          all_goals
           go_ret
           first
            | exact ⟨_, rfl, HBw.out, fun h => by first | cases h | (simp at h; done) | (simp at h; omega)⟩
            | exact ⟨_, rfl, HB2.out, fun h => ⟨by omega, by have := HTOT.out; omega, HZ.out (by first | (simp at h; done) | (simp at h; omega))⟩⟩
    · have hd2 : (90 : Int) < (acc : Int) := by omega
      clear hacc
      by_cases q1 : bn ≤ 30
      · have e1 : (bn : Int) ≤ 30 := by omega
        go_wp2_with (
         (go_at_call 30
          refine (funcOf_any2 pa pn pc hpn ba bn bc bs 2000 (by omega) (by omega) wr (HX.out.ext HBw.out)).mono ?_
          rintro e w2 ⟨z, rfl, hz0, hz1, hz2, hb2⟩
          have HB2 := Lib.hid (ext_trans HBw.out hb2)
          have HZ := Lib.hid hz2
          clear hb2 hz2))
        all_goals
         go_ret
         first
          | exact ⟨_, rfl, HBw.out, fun h => by first | cases h | (simp at h; done) | (simp at h; omega)⟩
          | exact ⟨_, rfl, HB2.out, fun h => by first | cases h | (simp at h; done) | (simp at h; omega)⟩
      · by_cases q2 : bn ≤ 200
        · have e1 : (30 : Int) < (bn : Int) := by omega
          have e2 : (bn : Int) ≤ 200 := by omega
          go_wp2_with (
           (go_at_call 30
            refine (funcOf_any2 pa pn pc hpn ba bn bc bs 2000 (by omega) (by omega) wr (HX.out.ext HBw.out)).mono ?_
            rintro e w2 ⟨z, rfl, hz0, hz1, hz2, hb2⟩
            have HB2 := Lib.hid (ext_trans HBw.out hb2)
            have HZ := Lib.hid hz2
            clear hb2 hz2))
          all_goals
           go_ret
           first
            | exact ⟨_, rfl, HBw.out, fun h => by first | cases h | (simp at h; done) | (simp at h; omega)⟩
            | exact ⟨_, rfl, HB2.out, fun h => by first | cases h | (simp at h; done) | (simp at h; omega)⟩
        · have e1 : (30 : Int) < (bn : Int) := by omega
          have e2 : (200 : Int) < (bn : Int) := by omega
          go_wp2_with (
           (go_at_call 30
            refine (funcOf_any2 pa pn pc hpn ba bn bc bs 2000 (by omega) (by omega) wr (HX.out.ext HBw.out)).mono ?_
            rintro e w2 ⟨z, rfl, hz0, hz1, hz2, hb2⟩
            have HB2 := Lib.hid (ext_trans HBw.out hb2)
            have HZ := Lib.hid hz2
            clear hb2 hz2))
          all_goals
           go_ret
           first
            | exact ⟨_, rfl, HBw.out, fun h => by first | cases h | (simp at h; done) | (simp at h; omega)⟩
            | exact ⟨_, rfl, HB2.out, fun h => by first | cases h | (simp at h; done) | (simp at h; omega)⟩
end
end Go.Proofs.Ytblhmdhfhaencaa
