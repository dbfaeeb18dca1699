/-
  EdgeRows: the law's walk. (Printed by gen_rowsw.py.)
-/
import Derived.Test.YtblhmdhfhaencaaGreatDF
import Derived.Test.YtblhmdhfhaencaaGreatTV
import Derived.Test.YtblhmdhfhaencaaGreatFI2
import Derived.Test.YtblhmdhfhaencaaGreatTT
import Derived.Test.YtblhmdhfhaencaaGreatEL
import Derived.Test.YtblhmdhfhaencaaGreatEH
import Derived.Test.YtblhmdhfhaencaaGreatLentG
import Derived.Test.YtblhmdhfhaencaaGreatRD
import Derived.Test.YtblhmdhfhaencaaGreatQueue
import Derived.Deep.CutBlock
import Derived.Test.YtblhmdhfhaencaaGreatSortI
import Derived.Test.YtblhmdhfhaencaaGreatBR
import Derived.Test.YtblhmdhfhaencaaGreatRF
import Derived.Test.YtblhmdhfhaencaaGreatTR
import Derived.Test.YtblhmdhfhaencaaGreatAT
import Derived.Test.YtblhmdhfhaencaaGreatWK
import Derived.Test.YtblhmdhfhaencaaGreatLF
import Derived.Test.YtblhmdhfhaencaaGreatRows
import Derived.WalkKit
import Derived.ProofKit
import Derived.OpenShut
import Derived.ShutString
import Derived.ChangeOld
import Derived.Below
import Derived.SizedLaws
import Derived.Lib.SmallJoins
import Derived.Deep.Slices
namespace Go.Proofs.YtblhmdhfhaencaaGreat
set_option linter.unusedSimpArgs false
set_option linter.unusedVariables false
set_option linter.unusedSectionVars false
set_option maxRecDepth 100000
set_option maxHeartbeats 40000000
section
open Go.RowKit Go.Shelf
theorem bn_le_tot (ls : List TileR) : ∀ r ∈ ls, r.d.blocks.length ≤ totL (tdOf ls) := by
  induction ls with
  | nil => intro r hr; cases hr
  | cons x l ih =>
    intro r hr;simp only [tdOf, List.map_cons, totL, List.sum_cons];rcases List.mem_cons.1 hr with rfl | hr
    · omega
    · have := ih r hr;simp only [tdOf, totL] at this;omega
end

section
open Go.RowKit Go.Shelf
attribute [local go_sem] Oper.semAt_some wide_fn wide_depth wide_fnR wide_depthR
def enB (ts : List TermD) : Int := if fitsB ts then 0 else 2
def tlB (ts : List TermD) : List TileD := if fitsB ts then tilesP ts.length (ordP ts.length (partsP ts)) else []
def UniPost (ts : List TermD) (w : World) (e : Ending) (w' : World) : Prop := ∃ v ls, e = .returned (.tuple #[v, .int .i64 (enB ts)]) ∧ TilesIn w' w.heap.size v ls ∧ tdOf ls = tlB ts ∧ Below w.heap.size w w'
theorem TilesIn.nil (w : World) (base : Nat) : TilesIn w base nilV [] := ⟨OwnR.nil _ _ _ _ _, (fun t ht => by cases ht), (fun t ht => by cases ht), List.Pairwise.nil⟩
theorem ord_build {ts : List TermD} {qs : List PartD} (hf : fitsB ts = true) (h : BuildOK ts qs) : ordP ts.length (partsP ts) = qs :=
  ord_eq (fits_facts hf).2.1.2 (parts_ok hf) h.1 (fun i j hij hj => h.2 i j hij hj)
theorem tlB_small {ts : List TermD} (h : fitsB ts = true → ∃ qs, BuildOK ts qs) : (tlB ts).length ≤ 200 ∧ totL (tlB ts) ≤ 40000 := by
  unfold tlB
  cases hf : fitsB ts with
  | false => simp [totL]
  | true =>
    obtain ⟨qs, hq⟩ := h hf;have h1 := tilesP_tot hf hq;rw [if_pos rfl, ord_build hf hq];have := (fits_facts hf).2.1.2;omega
theorem build_uni (pa : Option Addr) (pn pc : Nat) (ba : Option Addr) (bn bc : Nat) (bs : List BlkH) (w : World) (h : BlksOK w ba bn bs) (hbn40 : bn ≤ 40 ∨ 200 < bn) :
    Calls Tryz.prog 34 #[funcV pa pn pc ba bn bc] w fun e w' => UniPost (tsOf bs) w e w' ∧ (tlB (tsOf bs)).length ≤ 200 ∧ totL (tlB (tsOf bs)) ≤ 40000 :=
  (build_any pa pn pc ba bn bc bs w h hbn40).mono fun e w' ⟨h0, h1, hb⟩ => by
    cases hf : fitsB (tsOf bs) with
    | false => exact ⟨⟨nilV, [], by rw [h0 hf, enB, hf]; rfl, TilesIn.nil _ _, by rw [tlB, hf]; rfl, hb⟩, tlB_small (fun h => by rw [hf] at h; cases h)⟩
    | true =>
      obtain ⟨v, ls, qs, he, hok, ht, hd⟩ := h1 hf;exact ⟨⟨v, ls, by rw [he, enB, hf]; rfl, ht, by rw [hd, tlB, hf, if_pos rfl, ord_build hf hok], hb⟩, tlB_small (fun _ => ⟨qs, hok⟩)⟩
theorem build17_uni (pa : Option Addr) (pn pc : Nat) (ba : Option Addr) (bn bc : Nat) (bs : List BlkH) (w : World) (h : BlksOK w ba bn bs) :
    Calls Tryz.prog 31 #[funcV pa pn pc ba bn bc] w (UniPost (tsOf bs) w) :=
  (build17_any pa pn pc ba bn bc bs w h).mono fun e w' ⟨h0, h1, hb⟩ => by
    unfold UniPost enB tlB;cases hf : fitsB (tsOf bs) with
    | false => exact ⟨nilV, [], by rw [h0 hf]; rfl, TilesIn.nil _ _, rfl, hb⟩
    | true =>
      obtain ⟨v, ls, he, ht, hd⟩ := h1 hf;exact ⟨v, ls, by rw [he]; rfl, ht, by rw [hd, if_pos rfl], hb⟩
def two {α : Type} (x y : α) : Nat → α := fun j => if j = 0 then x else y
theorem tileBuilds_walk (f : FuncR) (hpn : f.pn ≤ 17592186044416) (w : World) (h : FuncOK w f) :
    Calls Tryz.prog 6 #[funcVR f] w fun e w' => e = .returned (.bool true) ∧ Below w.heap.size w w' := by
  have H := Lib.hid h
  have HLB : Hid (f.bs.length = f.bn) := h.2.1.1
  clear h
  go_enter Tryz.func6, Tryz.ntmps6
  go_upto_region 1 with (fail)
  obtain ⟨W, hW⟩ : ∃ W, W = w.alloc (funcO f.pa f.pn f.pc f.ba f.bn f.bc) := ⟨_, rfl⟩
  rw [← hW]
  have hk0 : W.heap[w.heap.size]? = some (funcO f.pa f.pn f.pc f.ba f.bn f.bc) := by rw [hW]; exact heap_alloc_new _ _
  have hB : Below w.heap.size w W := by rw [hW]; exact ext_alloc _ _
  have HK := Lib.hid hk0
  have HB := Lib.hid hB
  clear hW hk0 hB
  go_upto_region 3 with (first
    | ((with_reducible show wpList _ _ _ (⟨some 10, _, _, _, _, _⟩ :: _) _ _); refine wpList_load_row (o := ⟨some 10, .load 25 _, _, _, _, _⟩) rfl 25 _ rfl w.heap.size rfl 25 _ (0, 0) _ HK.out Tryz.underlying25 rfl size_func ?_)
    | (go_at_call 32
       refine (great17_any2 f.pa f.pn f.pc hpn f.ba f.bn f.bc f.bs none 0 0 [] W (H.out.2.ext HB.out) ⟨Recs.nil 3 tileC W, by simp⟩).mono ?_;rintro e w1 ⟨gb, rfl, hb, hgr⟩;have HK1 := Lib.hid (block_ext hb HK.out);have HB1 := Lib.hid (ext_trans HB.out hb);have HGR := Lib.hid hgr;clear hb hgr
       cases gb)
    | (go_at_call 33
       refine (awake17_any w1).mono ?_;rintro e w2 ⟨rfl, hb⟩;have HB2 := Lib.hid (ext_trans HB1.out hb)
       clear hb))
  all_goals first | (go_ret; exact ⟨rfl, HB2.out⟩) | skip
  clear HK HB
  obtain ⟨hbn40, g0, g1, g2, g3⟩ := HGR.out (by trivial)
  have HNA : Hid (FuncNA f) := great_na (bn := f.bn) rfl rfl HLB.out g1 g2 g3
  have HBN := Lib.hid hbn40
  clear HGR g0 g1 g2 g3 hbn40
  obtain ⟨w0, rfl⟩ : ∃ w0 : World, w0 = w1 := ⟨_, rfl⟩
  go_upto_region 4 with (first
    | ((with_reducible show wpList _ _ _ (⟨some 13, _, _, _, _, _⟩ :: _) _ _); refine wpList_load_row (o := ⟨some 13, .load 25 _, _, _, _, _⟩) rfl 25 _ rfl w.heap.size rfl 25 _ (0, 0) _ HK1.out Tryz.underlying25 rfl size_func ?_)
    | (go_at_call 11
       refine (lentFunc_any f w0 (H.out.ext HB1.out) HNA.out).mono ?_;rintro e w2 ⟨r, rfl, hl, hb⟩;have HLF0 := Lib.hid hl;have HRO0 := Lib.hid (hl.ok (H.out.ext (ext_trans HB1.out hb)) HNA.out);have HK2 := Lib.hid (block_ext hb HK1.out);have HB2 := Lib.hid (ext_trans HB1.out hb)
       clear hl hb)
    | (refine wpList_store_rowB rfl 25 _ _ rfl w2.heap.size #[.slice r.pa r.pn r.pc, .slice r.ba r.bn r.bc] rfl rfl 25 _ (heap_alloc_new w2 _) size_func rfl (by simp [Value.oneCell']) w2.heap.size w2 (ext_alloc w2 _) (Nat.le_refl _) ?_
       intro w3 hb3 hx3;have HKI3 := Lib.hid hx3;have HB23 := Lib.hid hb3;have HB3 := Lib.hid (ext_trans HB2.out hb3);have HKF3 := Lib.hid (block_ext hb3 HK2.out)
       clear hb3 hx3))
  have HTS : Hid (tsOf (hOf r.bs) = tsOf (hOf f.bs)) := lent_ts HLF0.out.sd.2.2
  have HRN : Hid (r.bn = f.bn) := HLF0.out.sd.2.1
  have HF3 : Hid (BlksOK w3 r.ba r.bn (hOf r.bs)) := (HRO0.out.ext HB23.out).2.x.1
  have HFF3 := Lib.hid (H.out.ext HB3.out)
  have HFB3 : Hid (BlksOK w3 f.ba f.bn (hOf f.bs)) := HFF3.out.2.x.1
  have HLF3 := Lib.hid (LentFn_law.ext HLF0.out HB23.out)
  have HRB : Hid (r.bn ≤ 40 ∨ 200 < r.bn) := by rw [Hid, HRN.out]; exact HBN.out
  clear HK1 HB1 HB2 HLF0 HRO0 HB23 HK2
  obtain ⟨TS, hTS⟩ : ∃ t, t = tsOf (hOf f.bs) := ⟨_, rfl⟩
  rw [← hTS] at HTS
  have HTSE := Lib.hid hTS
  obtain ⟨en, hen⟩ : ∃ x, x = enB TS := ⟨_, rfl⟩
  have HEN := Lib.hid hen
  clear hTS hen
  go_upto_region 5 with (first
    | ((with_reducible show wpList _ _ _ (⟨some 16, _, _, _, _, _⟩ :: _) _ _); refine wpList_load_row (o := ⟨some 16, .load 25 _, _, _, _, _⟩) rfl 25 _ rfl w2.heap.size rfl 25 _ (0, 0) _ HKI3.out Tryz.underlying25 rfl size_func ?_)
    | (go_at_call 34
       refine (build_uni r.pa r.pn r.pc r.ba r.bn r.bc (hOf r.bs) w3 HF3.out HRB.out).mono ?_;rintro e w4 ⟨⟨v1, l1, rfl, ht1, hd1, hb4⟩, hs1, hs2⟩;rw [HTS.out] at hd1 hs1 hs2 ⊢;rw [← HEN.out];have HT1 := Lib.hid ht1;have HSM := Lib.hid (And.intro hs1 hs2);have HD1 := Lib.hid hd1;have HB4 := Lib.hid hb4;have HKI4 := Lib.hid (block_ext hb4 HKI3.out);have HKF4 := Lib.hid (block_ext hb4 HKF3.out)
       clear ht1 hd1 hb4 hs1 hs2))
  go_upto_region 6 with (first
    | ((with_reducible show wpList _ _ _ (⟨some 21, _, _, _, _, _⟩ :: _) _ _); refine wpList_load_row (o := ⟨some 21, .load 25 _, _, _, _, _⟩) rfl 25 _ rfl w.heap.size rfl 25 _ (0, 0) _ HKF4.out Tryz.underlying25 rfl size_func ?_)
    | (go_at_call 31
       refine (build17_uni f.pa f.pn f.pc f.ba f.bn f.bc (hOf f.bs) w4 (HFB3.out.ext HB4.out)).mono ?_;rintro e w5 ⟨v2, l2, rfl, ht2, hd2, hb5⟩;rw [← HTSE.out] at hd2 ⊢;rw [← HEN.out];have HT2 := Lib.hid ht2;have HD2 := Lib.hid hd2;have HB45 := Lib.hid hb5;have HB5 := Lib.hid (ext_trans HB4.out hb5);have HKI5 := Lib.hid (block_ext hb5 HKI4.out);have HKF5 := Lib.hid (block_ext hb5 HKF4.out)
       clear ht2 hd2 hb5))
  go_upto_region 7 with (first
    | ((with_reducible show wpList _ _ _ (⟨some 26, _, _, _, _, _⟩ :: _) _ _); refine wpList_load_row (o := ⟨some 26, .load 25 _, _, _, _, _⟩) rfl 25 _ rfl w2.heap.size rfl 25 _ (0, 0) _ HKI5.out Tryz.underlying25 rfl size_func ?_)
    | (go_at_call 34
       refine (build_uni r.pa r.pn r.pc r.ba r.bn r.bc (hOf r.bs) w5 (HF3.out.ext HB5.out) HRB.out).mono ?_;rintro e w6 ⟨⟨v3, l3, rfl, ht3, hd3, hb6⟩, -, -⟩;rw [HTS.out] at hd3 ⊢;rw [← HEN.out];have HT3 := Lib.hid ht3;have HD3 := Lib.hid hd3;have HB56 := Lib.hid hb6;have HB6 := Lib.hid (ext_trans HB5.out hb6);have HKI6 := Lib.hid (block_ext hb6 HKI5.out);have HKF6 := Lib.hid (block_ext hb6 HKF5.out)
       clear ht3 hd3 hb6))
  have hlen : ∀ {l : List TileR}, tdOf l = tlB TS → l.length = (tlB TS).length := fun h => by rw [← h, tdOf_len]
  obtain ⟨n, hn⟩ : ∃ n, n = (tlB TS).length := ⟨_, rfl⟩
  have hn200 : n ≤ 200 := by rw [hn]; exact HSM.out.1
  obtain ⟨a1, c1, e1⟩ := HT1.out.own.form
  obtain ⟨a2, c2, e2⟩ := HT2.out.own.form
  obtain ⟨a3, c3, e3⟩ := HT3.out.own.form
  have hl1 : l1.length = n := by rw [hn]; exact hlen HD1.out
  have hl2 : l2.length = n := by rw [hn]; exact hlen HD2.out
  have hl3 : l3.length = n := by rw [hn]; exact hlen HD3.out
  rw [hl1] at e1
  rw [hl2] at e2
  rw [hl3] at e3
  subst e1 e2 e3
  have HNA2 : Hid (∀ r ∈ l2, TileNA r) := fun r hr => by
    have h1 := bn_le_tot l2 r hr;rw [HD2.out] at h1;have h2 := HSM.out.2;have h3 := (HT2.out.ok.2 r hr).1.1;unfold TileNA;omega
  have HBLK : Hid (∀ t ∈ catT (two l1 l3) 2, t.d.blocks.length ≤ 1000000) := fun t ht => by
    have e : catT (two l1 l3) 2 = l1 ++ l3 := by simp [catT, two, List.range_succ]
    rw [e] at ht;have h2 := HSM.out.2;rcases List.mem_append.1 ht with h | h
    · have h1 := bn_le_tot l1 t h; rw [HD1.out] at h1; omega
    · have h1 := bn_le_tot l3 t h; rw [HD3.out] at h1; omega
  have z34 := HB4.out.size
  have z45 := HB45.out.size
  have z56 := HB56.out.size
  have ht1 : TilesIn w6 w3.heap.size (.slice a1 n c1) l1 := (HT1.out.ext HB45.out).ext HB56.out
  have ht2 : TilesIn w6 w4.heap.size (.slice a2 n c2) l2 := HT2.out.ext HB56.out
  have HTA := Lib.hid ht1
  have HTB := Lib.hid ht2
  have k1 : ∀ q, (Value.slice a1 n c1).ownBlock = some q → w3.heap.size ≤ q ∧ q < w4.heap.size := fun q hq => HT1.out.own.low hq
  have k3 : ∀ q, (Value.slice a3 n c3).ownBlock = some q → w5.heap.size ≤ q := fun q hq => (HT3.out.own.low hq).1
  have b1 : ∀ t ∈ l1, ∀ q, (bsV t).ownBlock = some q → w3.heap.size ≤ q ∧ q < w4.heap.size := fun t ht q hq => (HT1.out.each t ht).1.low hq
  have b3 : ∀ t ∈ l3, ∀ q, (bsV t).ownBlock = some q → w5.heap.size ≤ q := fun t ht q hq => ((HT3.out.each t ht).1.low hq).1
  have HAP : Hid (∀ w7, Below w6.heap.size w6 w7 → Calls Tryz.prog 36 #[.slice (some ⟨w7.heap.size, 0, none⟩) 2 2] (w7.alloc (.cells #[.slice a1 n c1, .slice a3 n c3] 26)) fun e w' => e = .returned (.bool true) ∧ Below w3.heap.size w7 w') := fun w7 hb7 => by
    have e : catT (two l1 l3) 2 = l1 ++ l3 := by simp [catT, two, List.range_succ]
    have hr8 := heap_alloc_new w7 (.cells #[.slice a1 n c1, .slice a3 n c3] 26);have hb8 := ext_alloc w7 (.cells #[.slice a1 n c1, .slice a3 n c3] 26);have h1 := (ht1.ext hb7).ext hb8;have h3 := ((HT3.out.ext hb7).ext hb8).mono (show w3.heap.size ≤ w5.heap.size by omega);have hsz := hb7.size;have hsz8 := hb8.size;refine (apartTiles_any _ (some ⟨w7.heap.size, 0, none⟩) 2 2 w3.heap.size (two (.slice a1 n c1) (.slice a3 n c3)) (two l1 l3) ?_ ?_ ?_ ?_ ?_ (by omega) ?_ HBLK.out (by omega)).mono fun e' w' ⟨he, hc⟩ => ⟨he, ?_⟩
    · intro j hj;refine ⟨w7.heap.size, 0, rfl, ?_⟩;rw [cell_of_row _ _ _ _ _ _ hr8, Nat.zero_add]
      match j, hj with
      | 0, _ => rfl
      | 1, _ => rfl
    · intro j hj
      match j, hj with
      | 0, _ => exact h1.own
      | 1, _ => exact h3.own
    · intro i j hi hj hij g g1 g2
      match i, j, hi, hj with
      | 0, 0, _, _ => exact hij rfl
      | 1, 1, _, _ => exact hij rfl
      | 0, 1, _, _ => have := k1 g g1; have := k3 g g2; omega
      | 1, 0, _, _ => have := k3 g g1; have := k1 g g2; omega
    · intro t ht;rw [e] at ht;rcases List.mem_append.1 ht with h | h
      · exact (h1.each t h).1
      · exact (h3.each t h).1
    · rw [e, List.pairwise_append];refine ⟨h1.pw, h3.pw, fun s hs t ht g g1 g2 => ?_⟩;have := b1 s hs g g1;have := b3 t ht g g2;omega
    · intro j hj
      match j, hj with
      | 0, _ => show l1.length ≤ 1000; omega
      | 1, _ => show l3.length ≤ 1000; omega
    · refine (hb8.mono (show w3.heap.size ≤ w7.heap.size by omega)).trans (hc.below (B := w3.heap.size) (by omega) fun g hg => ?_);rcases hg with ⟨t, ht, hg⟩ | ⟨j, hj, hg⟩
      · rw [e] at ht;rcases List.mem_append.1 ht with h | h
        · exact (b1 t h g hg).1
        · have := b3 t h g hg; omega
      · match j, hj with
        | 0, _ => exact (k1 g hg).1
        | 1, _ => have := k3 g hg; omega
  have d0 : (en == en) = true := by simp
  have HN := Lib.hid hn
  have HLL1 := Lib.hid hl1
  have HLL2 := Lib.hid hl2
  clear ht1 ht2 k1 k3 b1 b3 hlen hn hl1 hl2 hl3
  go_wp2_with (first
    | (go_at_call 35
       refine (sameTiles_any a1 a2 n c1 c2 l1 l2 w6 HTA.out.ok HTB.out.ok (same_td (by rw [HD1.out, HD2.out])) HNA2.out).mono ?_;rintro e w7 ⟨rfl, hb⟩;have HB7 := Lib.hid hb;have HE7 := Lib.hid (ext_trans HB6.out hb)
       clear hb)
    | (go_at_call 36
       refine (HAP.out w7 HB7.out).mono ?_;rintro e w9 ⟨rfl, hch⟩;have HE9 : Hid (Below w3.heap.size w3 w9) := HE7.out.trans hch;have HKI9 := Lib.hid (block_ext HE9.out HKI3.out);have HKF9 := Lib.hid (block_ext HE9.out HKF3.out)
       clear hch)
    | ((with_reducible show wpList _ _ _ (⟨some 45, _, _, _, _, _⟩ :: _) _ _); refine wpList_load_rowW (o := ⟨some 45, .load 25 _, _, _, _, _⟩) (by kernel_rfl) 25 _ rfl w2.heap.size rfl 25 _ (0, 0) _ HKI9.out Tryz.underlying25 rfl size_func ?_)
    | ((with_reducible show wpList _ _ _ (⟨some 46, _, _, _, _, _⟩ :: _) _ _); refine wpList_load_rowW (o := ⟨some 46, .load 25 _, _, _, _, _⟩) (by kernel_rfl) 25 _ rfl w.heap.size rfl 25 _ (0, 0) _ HKF9.out Tryz.underlying25 rfl size_func ?_)
    | (go_at_call 21
       refine (keptFunc_any r f w0.heap.size w9 (LentFn_law.ext HLF3.out HE9.out) (HFF3.out.ext HE9.out) HNA.out).mono ?_;rintro e w10 ⟨rfl, hb⟩;have HE10 : Hid (Below w3.heap.size w3 w10) := ext_trans HE9.out hb
       clear hb)
    | (go_at_call 33
       refine (awake17_any w10).mono ?_;rintro e w12 ⟨rfl, hb⟩;have HE12 : Hid (Below w3.heap.size w3 w12) := ext_trans HE10.out hb
       clear hb))
  go_ret
  exact ⟨rfl, ext_trans HB3.out HE12.out⟩
end

section
open Go.ChangeShapes Go.WideShapes Go.ChangeAt Go.RowKit
theorem ownG : ownKnob Tryz.prog.godebug = none := by kernel_rfl
theorem laidOutG : laidOutB Tryz.prog = true := by kernel_rfl
theorem bytesInt : Tryz.prog.bytesOf 3 = 8 := by kernel_rfl
theorem cellsInt : Tryz.prog.cellsOf 3 = 1 := by kernel_rfl
theorem ints_in {H : Type} {enc : TypeId × Value → H} {W : World} {fuel : Nat} {v : Value} {y : DataW H × List MemPlace}
    (hf : DataW.trod enc Tryz.prog W 0 (fun _ => true) true fuel 22 [v] = some y) (hb : ∀ n ∈ y.1.weights Tryz.prog 22, n ≤ reachBytes) :
    ∃ a len cap zs, v = .slice a len cap ∧ Ints W a len zs := by
  rcases open_ints Tryz.underlying22 Tryz.underlying3 cellsInt hf with ⟨hcs, _⟩ | ⟨x, l, c, zs, hcs, _, hl, hm, hz, hx, hcell, hwz⟩
  · simp at hcs;exact ⟨none, 0, 0, [], hcs, rfl, by omega, fun k hk => absurd hk (by omega)⟩
  · simp at hcs;have hz' : zs.length = c := by simpa using hz
    have hlen : (zs.take l).length = l := by simp; omega
    have hbd := hb ((((zs.take l).length) + ((zs.drop l).length)) * 8) (by rw [hx]; simp [DataW.weights, Tryz.underlying22, bytesInt, lits]);refine ⟨some x, l, c, zs.take l, hcs, hlen, ?_, fun k hk => ?_⟩
    · simp only [List.length_take, List.length_drop, reachBytes] at hbd;omega
    · have hk' : k < zs.length := by omega
      have hc := hcell k hk';obtain ⟨b, o, sp⟩ := x;have hsp : sp = none := by simpa [Addr.add] using World.cell?_spot (hcell 0 (by omega))
      subst hsp;have e : (zs.take l).getD k 0 = zs.getD k 0 := by simp [List.getD_eq_getElem?_getD, List.getElem?_take, hk]
      refine ⟨b, o, rfl, ?_, ?_⟩
      · rw [e];have ha : (⟨b, o, none⟩ : Addr).add k = ⟨b, o + k, none⟩ := by
          by_cases h0 : k = 0
          · simp [Addr.add, h0]
          · simp [Addr.add, h0]
        rw [ha] at hc;exact hc
      · rw [e];have hm' : zs.getD k 0 ∈ zs := by
          rw [List.getD_eq_getElem?_getD, List.getElem?_eq_getElem hk'];simp
        have := Go.Joins.in64_of_wf (hwz _ hm');simp only [I64];simp only [Go.Joins.In64] at this;omega
end

section
open Go.ChangeShapes Go.WideShapes Go.ChangeAt Go.RowKit
theorem cellsIns : Tryz.prog.cellsOf 216 = 8 := by kernel_rfl
theorem bytesIns : Tryz.prog.bytesOf 216 = 80 := by kernel_rfl
theorem cellsOp : Tryz.prog.cellsOf 214 = 1 := by kernel_rfl
theorem cellsInts : Tryz.prog.cellsOf 22 = 1 := by kernel_rfl
theorem cellsInsS : Tryz.prog.cellsOf 71 = 1 := by kernel_rfl
theorem cellsTerm : Tryz.prog.cellsOf 70 = 4 := by kernel_rfl
theorem cellsKind : Tryz.prog.cellsOf 67 = 1 := by kernel_rfl
theorem cellsTo : Tryz.prog.cellsOf 68 = 2 := by kernel_rfl
theorem cellsBlock : Tryz.prog.cellsOf 73 = 5 := by kernel_rfl
theorem list_of {α : Type} (n : Nat) (R : Nat → α → Prop) (h : ∀ i, i < n → ∃ x, R i x) : ∃ l : List α, l.length = n ∧ ∀ i x, l[i]? = some x → R i x := by
  induction n with
  | zero => exact ⟨[], rfl, fun i x hx => by simp at hx⟩
  | succ n ih =>
    obtain ⟨l, hl, hr⟩ := ih (fun i hi => h i (by omega));obtain ⟨x, hx⟩ := h n (by omega);refine ⟨l ++ [x], by simp [hl], fun i y hy => ?_⟩;by_cases hi : i < n
    · rw [List.getElem?_append_left (by omega)] at hy;exact hr i y hy
    · have hlt := (List.getElem?_eq_some_iff.1 hy).1;simp [hl] at hlt;obtain rfl : i = n := by omega
      rw [List.getElem?_append_right (by omega), hl, Nat.sub_self] at hy;simp at hy;subst hy;exact hx
theorem len8 {α : Type} : ∀ {l : List α}, l.length = 8 → ∃ v0 v1 v2 v3 v4 v5 v6 v7, l = [v0, v1, v2, v3, v4, v5, v6, v7]
  | [v0, v1, v2, v3, v4, v5, v6, v7], _ => ⟨v0, v1, v2, v3, v4, v5, v6, v7, rfl⟩
theorem len5 {α : Type} : ∀ {l : List α}, l.length = 5 → ∃ v0 v1 v2 v3 v4, l = [v0, v1, v2, v3, v4]
  | [v0, v1, v2, v3, v4], _ => ⟨v0, v1, v2, v3, v4, rfl⟩
theorem len3 {α : Type} : ∀ {l : List α}, l.length = 3 → ∃ v0 v1 v2, l = [v0, v1, v2]
  | [v0, v1, v2], _ => ⟨v0, v1, v2, rfl⟩
theorem len2 {α : Type} : ∀ {l : List α}, l.length = 2 → ∃ v0 v1, l = [v0, v1]
  | [v0, v1], _ => ⟨v0, v1, rfl⟩
section
variable {H : Type} {enc : TypeId × Value → H} {W : World}
theorem int_in {fuel : Nat} {v : Value} {t : TypeId} {o : Option (DataW H × List MemPlace)} {y : DataW H × List MemPlace} (ht : Tryz.prog.underlying t = some (.int .i64)) (h : DataW.trod enc Tryz.prog W 0 (fun _ => true) true fuel t [v] = o) (ho : o = some y) : ∃ n, v = .int .i64 n ∧ I64 n := by
  obtain ⟨n, e, _, hw⟩ := DataW.trod_int ht (h.trans ho)
  simp only [List.cons.injEq, and_true] at e
  have := Go.Joins.in64_of_wf hw
  exact ⟨n, e, this.1, this.2⟩
theorem intsC_in {fuel : Nat} {v : Value} {y : DataW H × List MemPlace}
    (hf : DataW.trod enc Tryz.prog W 0 (fun _ => true) true fuel 22 [v] = some y) (hb : ∀ n ∈ y.1.weights Tryz.prog 22, n ≤ reachBytes) :
    ∃ a len cap zs, v = .slice a len cap ∧ Ints W a len zs ∧ len ≤ cap := by
  obtain ⟨a, len, cap, zs, e, h⟩ := ints_in hf hb
  refine ⟨a, len, cap, zs, e, h, ?_⟩
  rcases open_ints Tryz.underlying22 Tryz.underlying3 cellsInt hf with ⟨hcs, _⟩ | ⟨x, l, c, zs', hcs, _, hl, _⟩
  · simp at hcs; rw [e] at hcs; simp at hcs; omega
  · simp at hcs; rw [e] at hcs; simp at hcs; omega
theorem ins_in {fuel : Nat} {cs : List Value} {y : DataW H × List MemPlace} (hf : DataW.trod enc Tryz.prog W 0 (fun _ => true) true fuel 216 cs = some y) (hb : ∀ n ∈ y.1.weights Tryz.prog 216, n ≤ reachBytes) :
    ∃ r : InsR, cs = insC r ∧ InsOK W r := by
  obtain ⟨ys, n, -, hy, hlen, hyl, hfs⟩ := DataW.trod_struct Tryz.underlying216 hf
  rw [cellsIns] at hlen
  obtain ⟨v0, v1, v2, v3, v4, v5, v6, v7, rfl⟩ := len8 hlen
  obtain ⟨y0, y1, y2, y3, y4, y5, y6, y7, rfl⟩ := len8 (show ys.length = 8 from hyl)
  have g0 : DataW.trod enc Tryz.prog W 0 (fun _ => true) true n 214 (([v0, v1, v2, v3, v4, v5, v6, v7].drop 0).take (Tryz.prog.cellsOf 214)) = some y0 := hfs 0 _ rfl
  have g1 : DataW.trod enc Tryz.prog W 0 (fun _ => true) true n 3 (([v0, v1, v2, v3, v4, v5, v6, v7].drop 1).take (Tryz.prog.cellsOf 3)) = some y1 := hfs 1 _ rfl
  have g2 : DataW.trod enc Tryz.prog W 0 (fun _ => true) true n 3 (([v0, v1, v2, v3, v4, v5, v6, v7].drop 2).take (Tryz.prog.cellsOf 3)) = some y2 := hfs 2 _ rfl
  have g3 : DataW.trod enc Tryz.prog W 0 (fun _ => true) true n 3 (([v0, v1, v2, v3, v4, v5, v6, v7].drop 3).take (Tryz.prog.cellsOf 3)) = some y3 := hfs 3 _ rfl
  have g4 : DataW.trod enc Tryz.prog W 0 (fun _ => true) true n 3 (([v0, v1, v2, v3, v4, v5, v6, v7].drop 4).take (Tryz.prog.cellsOf 3)) = some y4 := hfs 4 _ rfl
  have g5 : DataW.trod enc Tryz.prog W 0 (fun _ => true) true n 3 (([v0, v1, v2, v3, v4, v5, v6, v7].drop 5).take (Tryz.prog.cellsOf 3)) = some y5 := hfs 5 _ rfl
  have g6 : DataW.trod enc Tryz.prog W 0 (fun _ => true) true n 22 (([v0, v1, v2, v3, v4, v5, v6, v7].drop 6).take (Tryz.prog.cellsOf 22)) = some y6 := hfs 6 _ rfl
  have g7 : DataW.trod enc Tryz.prog W 0 (fun _ => true) true n 3 (([v0, v1, v2, v3, v4, v5, v6, v7].drop 7).take (Tryz.prog.cellsOf 3)) = some y7 := hfs 7 _ rfl
  rw [cellsOp] at g0
  rw [cellsInt] at g1
  rw [cellsInt] at g2
  rw [cellsInt] at g3
  rw [cellsInt] at g4
  rw [cellsInt] at g5
  rw [cellsInts] at g6
  rw [cellsInt] at g7
  simp only [List.drop_succ_cons, List.drop_zero, List.take_succ_cons, List.take_zero] at g0 g1 g2 g3 g4 g5 g6 g7
  obtain ⟨n0, rfl, i0⟩ := int_in Tryz.underlying214 g0 rfl
  obtain ⟨n1, rfl, i1⟩ := int_in Tryz.underlying3 g1 rfl
  obtain ⟨n2, rfl, i2⟩ := int_in Tryz.underlying3 g2 rfl
  obtain ⟨n3, rfl, i3⟩ := int_in Tryz.underlying3 g3 rfl
  obtain ⟨n4, rfl, i4⟩ := int_in Tryz.underlying3 g4 rfl
  obtain ⟨n5, rfl, i5⟩ := int_in Tryz.underlying3 g5 rfl
  obtain ⟨n7, rfl, i7⟩ := int_in Tryz.underlying3 g7 rfl
  obtain ⟨a, len, cap, zs, rfl, hI, hc⟩ := intsC_in (y := y6) g6 (fun q hq => hb q (by rw [hy]; simp [DataW.weights, DataW.weightsEach, Tryz.underlying216, hq]))
  exact ⟨⟨⟨n0, n1, n2, n3, n4, n5, zs, n7⟩, a, len, cap⟩, rfl, hI, hc, i0, i1, i2, i3, i4, i5, i7⟩
theorem weights_all {e : TypeId} : ∀ {l : List (DataW H)} {d : DataW H}, d ∈ l → ∀ q ∈ d.weights Tryz.prog e, q ∈ DataW.weightsAll Tryz.prog e l
  | x :: l, d, hd, q, hq => by
    rw [DataW.weightsAll, List.mem_append];rcases List.mem_cons.1 hd with rfl | hd
    · exact Or.inl hq
    · exact Or.inr (weights_all hd q hq)
theorem insS_in {fuel : Nat} {v : Value} {y : DataW H × List MemPlace} (hf : DataW.trod enc Tryz.prog W 0 (fun _ => true) true fuel 71 [v] = some y) (hb : ∀ n ∈ y.1.weights Tryz.prog 71, n ≤ reachBytes) :
    ∃ a len cap rs, v = .slice a len cap ∧ InsS W a len rs ∧ len ≤ cap := by
  rcases Go.Deep.open_slice Tryz.underlying71 hf with ⟨hcs, _⟩ | ⟨x, l, c, m, n, D, Pl, hcs, _, hl, hm, hmm, hx, hall⟩
  · simp at hcs;exact ⟨none, 0, 0, [], hcs, ⟨Recs.nil _ _ _, fun r hr => by cases hr⟩, by omega⟩
  · simp at hcs;have hmm' : m = c := by simpa using hmm
    subst hmm';rw [cellsIns] at hall;have hbd := hb ((l + (m - l)) * 80) (by rw [hx]; simp [DataW.weights, Tryz.underlying71, bytesIns]);have hel : ∀ i, i < l → ∃ r : InsR, InsOK W r ∧ ∀ j, j < 8 → W.cell? ((x.add (i * 8)).add j) = (insC r)[j]? := fun i hi => by
      obtain ⟨cs', hc', ht'⟩ := hall i (by omega);obtain ⟨_, _, hat⟩ := World.cells?_some hc'
      obtain ⟨r, rfl, hok⟩ := ins_in ht' (fun q hq => hb q (by
        rw [hx];simp only [DataW.weights, Tryz.underlying71, List.mem_cons, List.mem_append]
        exact Or.inr (Or.inl (weights_all (List.mem_map.2 ⟨i, List.mem_range.2 hi, rfl⟩) q hq))))
      exact ⟨r, hok, hat⟩
    obtain ⟨rs, hrl, hrs⟩ := list_of l _ hel;have hsp : 0 < l → x.spot = none := fun h0 => by
      obtain ⟨r, _, hat⟩ := hel 0 h0;have h1 := hat 0 (by omega);have h2 : (insC r)[0]? = some (.int .i64 r.d.op) := rfl;rw [h2] at h1;have := World.cell?_spot h1;simpa [Addr.add] using this
    refine ⟨some x, l, m, rs, hcs, ⟨⟨hrl, ?_, fun k r hr => ?_⟩, fun r hr => ?_⟩, hl⟩
    · simp only [reachBytes] at hbd;omega
    · have hk : k < l := by rw [← hrl]; exact (List.getElem?_eq_some_iff.1 hr).1
      have hs := hsp (by omega);obtain ⟨b, o, sp⟩ := x;simp only at hs;subst hs;refine ⟨b, o, rfl, fun j hj => ?_⟩;have := (hrs k r hr).2 j hj
      rwa [addr_add, addr_add] at this
    · obtain ⟨k, hk, e⟩ := List.mem_iff_getElem.1 hr;exact (hrs k r (by rw [List.getElem?_eq_getElem hk, e])).1
theorem cellsFunc : Tryz.prog.cellsOf 25 = 2 := by kernel_rfl
theorem cellsBlocks : Tryz.prog.cellsOf 23 = 1 := by kernel_rfl
theorem bytesBlock : Tryz.prog.bytesOf 73 = 56 := by kernel_rfl
theorem blkE_in {fuel : Nat} {l : List Value} {y : DataW H × List MemPlace} (hf' : DataW.trod enc Tryz.prog W 0 (fun _ => true) true fuel 73 l = some y) (hb : ∀ n ∈ y.1.weights Tryz.prog 73, n ≤ reachBytes) :
    ∃ b : BlkH, l = blkC b ∧ TermOK b.t ∧ ∃ rs, InsS W b.ia b.n rs := by
  obtain ⟨ys, n, -, hy, hlen, hyl, hfs⟩ := DataW.trod_struct Tryz.underlying73 hf'
  rw [cellsBlock] at hlen
  obtain ⟨v0, v1, v2, v3, v4, rfl⟩ := len5 hlen
  obtain ⟨y0, y1, rfl⟩ := len2 (show ys.length = 2 from hyl)
  have g0 : DataW.trod enc Tryz.prog W 0 (fun _ => true) true n 71 (([v0, v1, v2, v3, v4].drop 0).take (Tryz.prog.cellsOf 71)) = some y0 := hfs 0 _ rfl
  have g1 : DataW.trod enc Tryz.prog W 0 (fun _ => true) true n 70 (([v0, v1, v2, v3, v4].drop 1).take (Tryz.prog.cellsOf 70)) = some y1 := hfs 1 _ rfl
  rw [cellsInsS] at g0
  rw [cellsTerm] at g1
  simp only [List.drop_succ_cons, List.drop_zero, List.take_succ_cons, List.take_zero] at g0 g1
  obtain ⟨sa, ns, cs, rs, rfl, hI, hc⟩ := insS_in g0 (fun q hq => hb q (by rw [hy]; simp [DataW.weights, DataW.weightsEach, Tryz.underlying73, hq]))
  obtain ⟨zs, n', -, hz, -, hzl, hgs⟩ := DataW.trod_struct Tryz.underlying70 g1
  obtain ⟨z0, z1, z2, rfl⟩ := len3 (show zs.length = 3 from hzl)
  have k0 : DataW.trod enc Tryz.prog W 0 (fun _ => true) true n' 67 (([v1, v2, v3, v4].drop 0).take (Tryz.prog.cellsOf 67)) = some z0 := hgs 0 _ rfl
  have k1 : DataW.trod enc Tryz.prog W 0 (fun _ => true) true n' 3 (([v1, v2, v3, v4].drop 1).take (Tryz.prog.cellsOf 3)) = some z1 := hgs 1 _ rfl
  have k2 : DataW.trod enc Tryz.prog W 0 (fun _ => true) true n' 68 (([v1, v2, v3, v4].drop 2).take (Tryz.prog.cellsOf 68)) = some z2 := hgs 2 _ rfl
  rw [cellsKind] at k0
  rw [cellsInt] at k1
  rw [cellsTo] at k2
  simp only [List.drop_succ_cons, List.drop_zero, List.take_succ_cons, List.take_zero] at k0 k1 k2
  obtain ⟨us, n'', -, hu, -, hul, hus⟩ := DataW.trod_array Tryz.underlying68 k2
  obtain ⟨u0, u1, rfl⟩ := len2 hul
  have t0 : DataW.trod enc Tryz.prog W 0 (fun _ => true) true n'' 3 (([v3, v4].drop (0 * Tryz.prog.cellsOf 3)).take (Tryz.prog.cellsOf 3)) = some u0 := hus 0 (by omega)
  have t1 : DataW.trod enc Tryz.prog W 0 (fun _ => true) true n'' 3 (([v3, v4].drop (1 * Tryz.prog.cellsOf 3)).take (Tryz.prog.cellsOf 3)) = some u1 := hus 1 (by omega)
  rw [cellsInt] at t0 t1
  simp only [Nat.zero_mul, Nat.one_mul, List.drop_succ_cons, List.drop_zero, List.take_succ_cons, List.take_zero] at t0 t1
  obtain ⟨m1, rfl, i1⟩ := int_in Tryz.underlying67 k0 rfl
  obtain ⟨m2, rfl, i2⟩ := int_in Tryz.underlying3 k1 rfl
  obtain ⟨m3, rfl, i3⟩ := int_in Tryz.underlying3 t0 rfl
  obtain ⟨m4, rfl, i4⟩ := int_in Tryz.underlying3 t1 rfl
  exact ⟨⟨sa, ns, cs, ⟨m1, m2, m3, m4⟩⟩, rfl, ⟨i1, i2, i3, i4⟩, rs, hI⟩
theorem blks_in {fuel : Nat} {v : Value} {y : DataW H × List MemPlace} (hf : DataW.trod enc Tryz.prog W 0 (fun _ => true) true fuel 23 [v] = some y) (hb : ∀ n ∈ y.1.weights Tryz.prog 23, n ≤ reachBytes) :
    ∃ a len cap bs, v = .slice a len cap ∧ BlksX W a len bs ∧ len ≤ cap := by
  rcases Go.Deep.open_slice Tryz.underlying23 hf with ⟨hcs, _⟩ | ⟨x, l, c, m, n, D, Pl, hcs, _, hl, hm, hmm, hx, hall⟩
  · simp at hcs;exact ⟨none, 0, 0, [], hcs, ⟨⟨Recs.nil _ _ _, fun r hr => by cases hr⟩, fun r hr => by cases hr⟩, by omega⟩
  · simp at hcs;have hmm' : m = c := by simpa using hmm
    subst hmm';rw [cellsBlock] at hall;have hbd := hb ((l + (m - l)) * 56) (by rw [hx]; simp [DataW.weights, Tryz.underlying23, bytesBlock]);have hel : ∀ i, i < l → ∃ b : BlkH, (TermOK b.t ∧ ∃ rs, InsS W b.ia b.n rs) ∧ ∀ j, j < 5 → W.cell? ((x.add (i * 5)).add j) = (blkC b)[j]? := fun i hi => by
      obtain ⟨cs', hc', ht'⟩ := hall i (by omega);obtain ⟨_, _, hat⟩ := World.cells?_some hc'
      obtain ⟨b, rfl, hok⟩ := blkE_in ht' (fun q hq => hb q (by
        rw [hx];simp only [DataW.weights, Tryz.underlying23, List.mem_cons, List.mem_append]
        exact Or.inr (Or.inl (weights_all (List.mem_map.2 ⟨i, List.mem_range.2 hi, rfl⟩) q hq))))
      exact ⟨b, hok, hat⟩
    obtain ⟨bs, hrl, hrs⟩ := list_of l _ hel;have hsp : 0 < l → x.spot = none := fun h0 => by
      obtain ⟨r, _, hat⟩ := hel 0 h0;have h1 := hat 0 (by omega);have h2 : (blkC r)[0]? = some (.slice r.ia r.n r.c) := rfl;rw [h2] at h1;have := World.cell?_spot h1;simpa [Addr.add] using this
    have hmem : ∀ r ∈ bs, TermOK r.t ∧ ∃ rs, InsS W r.ia r.n rs := fun r hr => by
      obtain ⟨k, hk, e⟩ := List.mem_iff_getElem.1 hr;exact (hrs k r (by rw [List.getElem?_eq_getElem hk, e])).1
    refine ⟨some x, l, m, bs, hcs, ⟨⟨⟨hrl, ?_, fun k r hr => ?_⟩, fun r hr => (hmem r hr).1⟩, fun r hr => (hmem r hr).2⟩, hl⟩
    · simp only [reachBytes] at hbd;omega
    · have hk : k < l := by rw [← hrl]; exact (List.getElem?_eq_some_iff.1 hr).1
      have hs := hsp (by omega);obtain ⟨b, o, sp⟩ := x;simp only at hs;subst hs;refine ⟨b, o, rfl, fun j hj => ?_⟩;have := (hrs k r hr).2 j hj
      rwa [addr_add, addr_add] at this
theorem func_in {r : Go.Reach} {b0 : Nat} {v : Value} {d : DataW H} {p : List MemPlace} (hv : Value.okWide Tryz.prog W r b0 25 v) (h : DataW.Trod enc Tryz.prog W 0 (fun _ => true) true 25 v d p) (hb : ∀ n ∈ d.weights Tryz.prog 25, n ≤ reachBytes) :
    ∃ pa pn pc ba bn bc bs, v = funcV pa pn pc ba bn bc ∧ (∃ ps, Ints W pa pn ps) ∧ BlksX W ba bn bs := by
  obtain ⟨arr, rfl, hsz⟩ := okWide_struct Tryz.underlying25 hv
  rw [cellsFunc] at hsz
  obtain ⟨fuel, hf⟩ := h
  obtain ⟨l⟩ := arr
  have hf' : DataW.trod enc Tryz.prog W 0 (fun _ => true) true fuel 25 l = some (d, p) := hf
  obtain ⟨v0, v1, rfl⟩ := len2 (show l.length = 2 from hsz)
  obtain ⟨ys, n, -, hy, -, hyl, hfs⟩ := DataW.trod_struct Tryz.underlying25 hf'
  obtain ⟨y0, y1, rfl⟩ := len2 (show ys.length = 2 from hyl)
  have g0 : DataW.trod enc Tryz.prog W 0 (fun _ => true) true n 22 (([v0, v1].drop 0).take (Tryz.prog.cellsOf 22)) = some y0 := hfs 0 _ rfl
  have g1 : DataW.trod enc Tryz.prog W 0 (fun _ => true) true n 23 (([v0, v1].drop 1).take (Tryz.prog.cellsOf 23)) = some y1 := hfs 1 _ rfl
  rw [cellsInts] at g0
  rw [cellsBlocks] at g1
  simp only [List.drop_succ_cons, List.drop_zero, List.take_succ_cons, List.take_zero] at g0 g1
  simp only [Prod.mk.injEq] at hy
  obtain ⟨pa, pn, pc, zs, rfl, hI, _⟩ := intsC_in g0 (fun q hq => hb q (by rw [hy.1]; simp [DataW.weights, DataW.weightsEach, Tryz.underlying25, hq]))
  obtain ⟨ba, bn, bc, bs, rfl, hB, _⟩ := blks_in g1 (fun q hq => hb q (by rw [hy.1]; simp [DataW.weights, DataW.weightsEach, Tryz.underlying25, hq]))
  exact ⟨pa, pn, pc, ba, bn, bc, bs, rfl, ⟨zs, hI⟩, hB⟩
end
end
end Go.Proofs.YtblhmdhfhaencaaGreat
