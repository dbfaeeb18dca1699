/-
 The document's answer to layer 18: the edges between tiles. (Printed by gen_bet18.py.)
-/
import Derived.Test.YtblhmdhfhaencaaGreatRE
import Derived.Deep.CutBlock
import Derived.Test.YtblhmdhfhaencaaGreatEL
import Derived.Test.YtblhmdhfhaencaaGreatBP
import Derived.Test.YtblhmdhfhaencaaGreatTR
namespace Go.Proofs.YtblhmdhfhaencaaGreat
set_option linter.unusedSimpArgs false
set_option linter.unusedVariables false
set_option linter.unusedSectionVars false
set_option maxRecDepth 100000
set_option maxHeartbeats 40000000
section
open Go.RowKit Go.Shelf
theorem infoRow18 : (Tryz.prog.info? 89).map (fun i => (i.zero, i.size, i.bytes)) = some (some (.agg #[.int .i64 0, .int .i64 0, .int .i64 0, .slice none 0 0, .slice none 0 0]), 5, 72) := by kernel_rfl
theorem size_row18 : (Tryz.prog.info? 89).map (·.size) = some 5 := by kernel_rfl
theorem has18_any (a : Option Addr) (n c : Nat) (xs : List Int) (x : Int) (w : World) (h : Ints w a n xs) :
  Calls Tryz.prog 58 #[.slice a n c, .int .i64 x] w fun e w' => e = .returned (.bool (xs.contains x)) ∧ w = w' := by
 obtain ⟨hl, hn, hc⟩ := h
 have HL := Lib.hid hl
 have HC := Lib.hid hc
 clear hl hc
 go_enter Tryz.func58, Tryz.ntmps58
 go_wp2
 go_loopw [5] (fun i wr => ∃ (k : Nat), k ≤ n ∧ i = .int .i64 k ∧ wr = w ∧ Hid (∀ j, j < k → xs.getD j 0 ≠ x)) (fun i _ => n - (intOf i).toNat)
 case atStart => exact ⟨0, by omega, rfl, rfl, fun j hj => absurd hj (by omega)⟩
 case round =>
  obtain ⟨k, hk, rfl, rfl, HR⟩ := hrel;by_cases hlt : k < n
  · obtain ⟨b, o, rfl, hcell, _⟩ := HC.out k hlt;by_cases he : xs.getD k 0 = x
    · have HE : Hid (xs.contains x = true) := has_yes xs x k (by rw [HL.out]; exact hlt) he;rw [he] at hcell;clear he;go_wp2
      go_ret
      exact ⟨by rw [HE.out]; rfl, rfl⟩
    · have HE : Hid (∀ j, j < k + 1 → xs.getD j 0 ≠ x) := fun j hj => by
       by_cases hjk : j = k
       · subst hjk; exact he
       · exact HR.out j (by omega)
      generalize xs.getD k 0 = y at *;go_wp2
      go_roundw
      case rel => exact ⟨k + 1, by omega, by go_num, trivial, HE⟩
      case measure => simp [intOf]; omega
  · have HE : Hid (xs.contains x = false) := has_no xs x fun j h1 => HR.out j (by rw [HL.out] at h1; omega);go_wp2
    go_ret
    exact ⟨by rw [HE.out]; rfl, rfl⟩
theorem right_facts18 {ts : List TermD} {l : List TileD} (h : rightB ts l = true) : fitsB ts = true ∧ parentsB l = true ∧ ownB l ts.length = true ∧ l.length ≤ 200 := by
 simp only [rightB, Bool.and_eq_true, decide_eq_true_eq] at h
 exact ⟨h.1.1.1.1.1, h.1.1.1.2, h.1.1.2, h.1.1.1.1.2⟩
theorem ownL_at {l : List TileD} {n i : Nat} (h : i < n) : (ownL l n).getD i 0 = (ownF l i : Int) := by
 have : (List.range n)[i]? = some i := by rw [List.getElem?_range h]
 simp [ownL, List.getD_eq_getElem?_getD, this]
def R18Post (ty : TypeId) (ts : List TermD) (l : List TileD) (ask : EdgeD → Bool) (w : World) (e : Ending) (w' : World) : Prop :=
 ∃ v, e = .returned (.tuple #[v, .int .i64 (overErr ts l)]) ∧ Below w.heap.size w w' ∧ (rightB ts l = false → v = .slice none 0 0) ∧ (rightB ts l = true → ∃ hs, RowsT ty w' w.heap.size v hs ∧ hs.map (·.r) = rowsL ts l ask)
abbrev rowO18 (x : EdgeD) (lv en : Value) : Obj := .cells #[.int .i64 x.fr, .int .i64 x.arm, .int .i64 x.to, lv, en] 89
theorem between18_any (pa : Option Addr) (pn pc : Nat) (ba : Option Addr) (bn bc : Nat) (bs : List BlkH) (a : Option Addr) (n c : Nat) (ls : List TileR) (w : World) (h : BlksOK w ba bn bs) (ht : TilesOK w a n ls) (hT : totL (tdOf ls) ≤ 1000000) :
  Calls Tryz.prog 14 #[funcV pa pn pc ba bn bc, .slice a n c] w (R18Post 89 (tsOf bs) (tdOf ls) (fun _ => true) w) := by
 have hn := ht.1.2.1
 have HLN : Hid ((tdOf ls).length = n) := by rw [Hid, tdOf_len, ht.1.1]
 have HTL : Hid ((tsOf bs).length = bn) := by rw [Hid, tsOf_len, h.1.1]
 have H := Lib.hid h
 have HT := Lib.hid ht
 have HTOT := Lib.hid hT
 clear h ht hT
 go_enter Tryz.func14, Tryz.ntmps14
 go_upto_region 1 with (fail)
 obtain ⟨W, hW⟩ : ∃ W, W = w.alloc (funcO pa pn pc ba bn bc) := ⟨_, rfl⟩
 rw [← hW]
 have hk0 : W.heap[w.heap.size]? = some (funcO pa pn pc ba bn bc) := by rw [hW]; exact heap_alloc_new _ _
 have hB : Below w.heap.size w W := by rw [hW]; exact ext_alloc _ _
 have hWs : w.heap.size + 1 ≤ W.heap.size := by rw [hW]; simp
 have HK := Lib.hid hk0
 have HB := Lib.hid hB
 have HWS := Lib.hid hWs
 clear hW hk0 hB hWs
 cases hf : fitsB (tsOf bs) with
 | false =>
   have HF := Lib.hid hf;have HE : Hid (overErr (tsOf bs) (tdOf ls) = 2) := by simp [Hid, overErr, hf]
   have HR : Hid (rightB (tsOf bs) (tdOf ls) = false) := by simp [Hid, rightB, hf]
   clear hf
   go_wp2_with (first
    | (refine wpList_load_row (o := ⟨some 15, .load 25 _, _, _, _, _⟩) rfl 25 _ rfl w.heap.size rfl 25 _ (0, 0) _ HK.out Tryz.underlying25 rfl size_func ?_)
    | (go_at_call 41
       refine (fits17_any pa pn pc ba bn bc bs W (H.out.ext HB.out)).mono ?_;rintro e w2 ⟨rfl, hb⟩;rw [HF.out];have HB2 := Lib.hid (ext_trans HB.out hb)
       clear hb))
   exact bodyPost_ret (v := .tuple #[nilV, .int .i64 2]) (by simp [results, Tryz.results14, go_sem, Act.put]) rfl ⟨_, by rw [HE.out], HB2.out, fun _ => rfl, fun h => by rw [HR.out] at h; cases h⟩
 | true =>
   have HF := Lib.hid hf;clear hf
   go_upto_region 3 with (first
    | (refine wpList_load_row (o := ⟨some 15, .load 25 _, _, _, _, _⟩) rfl 25 _ rfl w.heap.size rfl 25 _ (0, 0) _ HK.out Tryz.underlying25 rfl size_func ?_)
    | (go_at_call 41
       refine (fits17_any pa pn pc ba bn bc bs W (H.out.ext HB.out)).mono ?_;rintro e w2 ⟨rfl, hb⟩;rw [HF.out];have HB2 := Lib.hid (ext_trans HB.out hb);have HK2 := Lib.hid (block_ext hb HK.out);have HWS2 : Hid (w.heap.size + 1 ≤ w2.heap.size) := Nat.le_trans HWS.out hb.size
       clear hb))
   clear HK HB HWS;cases hr : rightB (tsOf bs) (tdOf ls) with
   | false =>
     have HR := Lib.hid hr;have HE : Hid (overErr (tsOf bs) (tdOf ls) = 12) := by simp [Hid, overErr, hr, HF.out]
     clear hr
     go_wp2_with (first
      | (refine wpList_load_row (o := ⟨some 18, .load 25 _, _, _, _, _⟩) rfl 25 _ rfl w.heap.size rfl 25 _ (0, 0) _ HK2.out Tryz.underlying25 rfl size_func ?_)
      | (go_at_call 43
         refine (right17_any pa pn pc ba bn bc bs a n c ls w2 (H.out.ext HB2.out) (HT.out.ext HB2.out) HTOT.out).mono ?_;rintro e w3 ⟨rfl, hb⟩;rw [HR.out];have HB3 := Lib.hid (ext_trans HB2.out hb)
         clear hb))
     exact bodyPost_ret (v := .tuple #[nilV, .int .i64 12]) (by simp [results, Tryz.results14, go_sem, Act.put]) rfl ⟨_, by rw [HE.out], HB3.out, fun _ => rfl, fun h => by rw [HR.out] at h; cases h⟩
   | true =>
     have HR := Lib.hid hr;have HE : Hid (overErr (tsOf bs) (tdOf ls) = 0) := by simp [Hid, overErr, hr, HF.out]
     obtain ⟨_, hpar, hob, hl200⟩ := right_facts18 hr;rw [HTL.out] at hob;rw [HLN.out] at hl200;have HPAR := Lib.hid hpar;have HOB := Lib.hid hob;have hbn2 : bn ≤ 200 := by rw [← HTL.out]; exact ((goodB_iff _).1 (fits_good HF.out)).1.2
     have HAE : Hid (allE (tsOf bs) = edgesL (tsOf bs)) := by simp [Hid, allE, HF.out]
     clear hr hpar hob
     go_upto_region 8 with (first
      | (refine wpList_load_row (o := ⟨some 18, .load 25 _, _, _, _, _⟩) rfl 25 _ rfl w.heap.size rfl 25 _ (0, 0) _ HK2.out Tryz.underlying25 rfl size_func ?_)
      | (refine wpList_load_row (o := ⟨some 23, .load 25 _, _, _, _, _⟩) rfl 25 _ rfl w.heap.size rfl 25 _ (0, 0) _ HK3.out Tryz.underlying25 rfl size_func ?_)
      | (refine wpList_load_row (o := ⟨some 28, .load 25 _, _, _, _, _⟩) rfl 25 _ rfl w.heap.size rfl 25 _ (0, 0) _ HK4.out Tryz.underlying25 rfl size_func ?_)
      | (go_at_call 43
         refine (right17_any pa pn pc ba bn bc bs a n c ls w2 (H.out.ext HB2.out) (HT.out.ext HB2.out) HTOT.out).mono ?_;rintro e w3 ⟨rfl, hb⟩;rw [HR.out];have HB3 := Lib.hid (ext_trans HB2.out hb);have HK3 := Lib.hid (block_ext hb HK2.out);have HWS3 : Hid (w.heap.size + 1 ≤ w3.heap.size) := Nat.le_trans HWS2.out hb.size
         clear hb)
      | (go_at_call 38
         refine (own17_any pa pn pc ba bn bc bs a n c ls w3 (H.out.ext HB3.out) (HT.out.ext HB3.out) HTOT.out).mono ?_;rintro e w4 ⟨v, en, rfl, hb, _, _, ho3⟩;obtain ⟨rfl, ho⟩ := ho3 HF.out HOB.out;obtain ⟨va, vc, rfl⟩ := ho.form;have HB4 := Lib.hid (ext_trans HB3.out hb);have HK4 := Lib.hid (block_ext hb HK3.out);have HV4 := Lib.hid ho.ints;have HWS4 : Hid (w.heap.size + 1 ≤ w4.heap.size) := Nat.le_trans HWS3.out hb.size
         clear hb ho ho3)
      | (go_at_call 27
         refine (all18_any pa pn pc ba bn bc bs w4 (H.out.ext HB4.out)).mono ?_;rintro e w5 ⟨v, rfl, ho, hb⟩;rw [HAE.out] at ho;obtain ⟨ea, ec, rfl⟩ := OwnR.form ho;have HB5 := Lib.hid (ext_trans HB4.out hb);have HK5 := Lib.hid (block_ext hb HK4.out);have HV5 := Lib.hid (HV4.out.ext hb);have HE5 := Lib.hid (OwnR.recs csE_len ho);have hs5 : w.heap.size + 1 ≤ w5.heap.size := Nat.le_trans HWS4.out hb.size
         clear hb ho))
     rw [ownL_len] at HV5 ⊢;clear HB2 HK2 HWS2 HB3 HK3 HWS3 HB4 HK4 HV4 HWS4;have hel : (edgesL (tsOf bs)).length ≤ 400 := by have := edgesL_len (tsOf bs); rw [HTL.out] at this; omega
     go_wp2
     go_loopw [8, 10, 11, 12, 13, 14] (fun s8 s10 _ _ _ _ wr => ∃ (i : Nat) (hs : List RowH), i ≤ (edgesL (tsOf bs)).length ∧ s10 = .int .i64 (i : Int) ∧ Hid (RowsT 89 wr w5.heap.size s8 hs) ∧ Hid (hs.map (·.r) = rowsTo (tdOf ls) (fun _ => true) ((edgesL (tsOf bs)).take i)) ∧ Hid (Below w5.heap.size w5 wr)) (fun _ s10 _ _ _ _ _ => (edgesL (tsOf bs)).length - (intOf s10).toNat)
     case atStart => exact ⟨0, [], by omega, by go_num, RowsT.nil _ _ _, rfl, Below.refl _ _⟩
     case round =>
      obtain ⟨i, hs, hi, rfl, HRW, HMAP, HBr⟩ := hrel;obtain ⟨oa, oc, rfl⟩ := HRW.out.form;have hsl : hs.length ≤ 400 := by
       have h1 := congrArg List.length HMAP.out;rw [List.length_map] at h1;rw [h1];exact Nat.le_trans (rowsTo_len _ _ _) (by rw [List.length_take]; omega)
      by_cases hlt : i < (edgesL (tsOf bs)).length
      · have hlt' : (i : Int) < ((edgesL (tsOf bs)).length : Int) := by omega
        obtain ⟨x, hx⟩ : ∃ x, (edgesL (tsOf bs))[i]? = some x := ⟨_, List.getElem?_eq_getElem hlt⟩
        obtain ⟨eb, eo, rfl, hcc⟩ := (HE5.out.ext csE_len HBr.out).2.2 i x hx;have ce0 := hcc 0 (by omega);have ce1 := hcc 1 (by omega);have ce2 := hcc 2 (by omega);simp only [csE, Nat.add_zero, List.getElem?_cons_zero, List.getElem?_cons_succ] at ce0 ce1 ce2;obtain ⟨x0, x1, x2, x3⟩ := allE_mem (show x ∈ allE (tsOf bs) by rw [HAE.out]; exact List.mem_of_getElem? hx);rw [HTL.out] at x1 x3;have HST : Hid (rowsTo (tdOf ls) (fun _ => true) ((edgesL (tsOf bs)).take (i + 1)) = rowsTo (tdOf ls) (fun _ => true) ((edgesL (tsOf bs)).take i) ++ if betwB (tdOf ls) (fun _ => true) x then [rowOf (tdOf ls) x] else []) := by
         rw [Hid, List.take_add_one, hx];exact rowsTo_step _ _ _ _
        have HLF : Hid (besL (tdOf ls) x.fr x.to = besF (tdOf ls) (ownF (tdOf ls) x.fr.toNat : Int) x.to) := besL_F HPAR.out HOB.out x0 x1 (by omega) x3;have HLT : Hid (besL (tdOf ls) x.to x.fr = besF (tdOf ls) (ownF (tdOf ls) x.to.toNat : Int) x.fr) := besL_F HPAR.out HOB.out (by omega) x3 x0 x1;have hof := own_lt HOB.out (show x.fr.toNat < bn by omega);have hot := own_lt HOB.out (show x.to.toNat < bn by omega);rw [HLN.out] at hof hot;obtain ⟨vb, vo, hva, cvf, _⟩ := (HV5.out.ext HBr.out).2.2 x.fr.toNat (by omega);obtain ⟨vb', vo', hva', cvt, _⟩ := (HV5.out.ext HBr.out).2.2 x.to.toNat (by omega);rw [ownL_at (by omega)] at cvf cvt;subst hva;injection hva' with hva';injection hva' with hv1 hv2 _;subst hv1 hv2;have xi1 : I64 x.fr := by unfold I64; omega
        have xi2 : I64 x.to := by unfold I64; omega
        clear hcc hx;obtain ⟨wo, rfl⟩ : ∃ wo : World, wo = wr := ⟨_, rfl⟩
        have hwqs : w.heap.size + 1 ≤ wo.heap.size := Nat.le_trans hs5 HBr.out.size;go_upto_region 12 with (fail)
        obtain ⟨p, hp⟩ : ∃ p, p = wo.heap.size := ⟨_, rfl⟩
        obtain ⟨W6, hW6⟩ : ∃ W6, W6 = wo.alloc (edgeO x) := ⟨_, rfl⟩
        rw [← hW6, ← hp];have h6 : W6.heap[p]? = some (edgeO x) := by rw [hW6, hp]; exact heap_alloc_new _ _
        have hb6 : Below wo.heap.size wo W6 := by rw [hW6]; exact ext_alloc _ _
        have hp6 : W6.heap.size = p + 1 := by rw [hW6, hp]; simp
        have e0 : W6.cell? ⟨p, 0, none⟩ = some (.int .i64 x.fr) := by rw [cell_of_row _ _ _ _ _ _ h6]; rfl
        have e2 : W6.cell? ⟨p, 2, none⟩ = some (.int .i64 x.to) := by rw [cell_of_row _ _ _ _ _ _ h6]; rfl
        have cf6 := cell_ext hb6 cvf;have ct6 := cell_ext hb6 cvt;have xb1 : x.fr < (bn : Int) := x1;have xb2 : x.to < (bn : Int) := x3;have xb3 : 0 ≤ x.to := by omega
        have H6 := Lib.hid h6;have HB6 : Hid (Below wo.heap.size wo W6) := hb6;have HP6 := Lib.hid hp6;have HPW : Hid (p = wo.heap.size) := hp;clear hW6 ce0 ce1 ce2 cvf cvt hb6 hp6 hp h6;go_wp2
        go_quiet (fail)
        have hbd : Below wo.heap.size wo (W6.drewN nq) := below_drewN HB6.out nq;by_cases hoe : ownF (tdOf ls) x.fr.toNat = ownF (tdOf ls) x.to.toNat
        · have HBT : Hid (betwB (tdOf ls) (fun _ => true) x = false) := by simp [Hid, betwB, hoe]
          have deq : (((ownF (tdOf ls) x.fr.toNat : Nat) : Int) == ((ownF (tdOf ls) x.to.toNat : Nat) : Int)) = true := by simp [hoe]
          have HRW2 := Lib.hid (HRW.out.ext hbd);have HBr2 := Lib.hid (ext_trans HBr.out hbd);have HM2 : Hid (hs.map (·.r) = rowsTo (tdOf ls) (fun _ => true) ((edgesL (tsOf bs)).take (i + 1))) := by rw [Hid, HST.out, HBT.out, HMAP.out]; simp
          clear hoe;go_wp2
          go_roundw
          case rel => exact ⟨i + 1, hs, by omega, by go_num, HRW2, HM2, HBr2⟩
          case measure => simp [intOf]; omega
        · have HBT : Hid (betwB (tdOf ls) (fun _ => true) x = true) := by simp [Hid, betwB, hoe]
          have deq : (((ownF (tdOf ls) x.fr.toNat : Nat) : Int) == ((ownF (tdOf ls) x.to.toNat : Nat) : Int)) = false := by simp; omega
          clear hoe;obtain ⟨W7, hW7⟩ : ∃ W7, W7 = W6.drewN nq := ⟨_, rfl⟩
          rw [← hW7];rw [← hW7] at hbd;have h7 : W7.heap[p]? = some (edgeO x) := by rw [hW7]; exact H6.out
          have hs7 : W7.heap.size = p + 1 := by rw [hW7]; exact HP6.out
          have e0 : W7.cell? ⟨p, 0, none⟩ = some (.int .i64 x.fr) := by rw [cell_of_row _ _ _ _ _ _ h7]; rfl
          have e1 : W7.cell? ⟨p, 1, none⟩ = some (.int .i64 x.arm) := by rw [cell_of_row _ _ _ _ _ _ h7]; rfl
          have e2 : W7.cell? ⟨p, 2, none⟩ = some (.int .i64 x.to) := by rw [cell_of_row _ _ _ _ _ _ h7]; rfl
          have H7 := Lib.hid h7;have HB7 := Lib.hid hbd;have HS7 := Lib.hid hs7;have HVF : Hid (W7.cell? ⟨vb, vo + x.fr.toNat, none⟩ = some (.int .i64 (ownF (tdOf ls) x.fr.toNat : Int))) := by rw [Hid, hW7]; exact cf6
          have HVT : Hid (W7.cell? ⟨vb, vo + x.to.toNat, none⟩ = some (.int .i64 (ownF (tdOf ls) x.to.toNat : Int))) := by rw [Hid, hW7]; exact ct6
          clear hW7 hbd h7 hs7 H6 HB6 HP6 cf6 ct6
          go_upto_region 14 with (first
           | (refine wpList_store_row rfl 89 _ _ rfl W7.heap.size #[.int .i64 x.fr, .int .i64 x.arm, .int .i64 x.to, .slice none 0 0, .slice none 0 0] rfl rfl 89 _ (heap_alloc_new W7 _) size_row18 rfl rfl ?_))
          obtain ⟨p2, hp2⟩ : ∃ p2, p2 = W7.heap.size := ⟨_, rfl⟩
          obtain ⟨W8, hW8⟩ : ∃ W8, W8 = W7.alloc (rowO18 x nilV nilV) := ⟨_, rfl⟩
          rw [← hW8, ← hp2];have hpp : p2 = p + 1 := hp2.trans HS7.out;have h8r : W8.heap[p2]? = some (rowO18 x nilV nilV) := by rw [hW8, hp2]; exact heap_alloc_new _ _
          have h8 : W8.heap[p]? = some (edgeO x) := by rw [hW8, Below.heap_alloc _ _ _ (by rw [HS7.out]; omega)]; exact H7.out
          have hb8 : Below W7.heap.size W7 W8 := by rw [hW8]; exact ext_alloc _ _
          have hs8 : W8.heap.size = p2 + 1 := by rw [hW8, hp2]; simp
          have cf8 := cell_ext hb8 HVF.out;have ct8 := cell_ext hb8 HVT.out;have e0' : W8.cell? ⟨p, 0, none⟩ = some (.int .i64 x.fr) := by rw [cell_of_row _ _ _ _ _ _ h8]; rfl
          have HPP := Lib.hid hpp;have H8R := Lib.hid h8r;have H8 := Lib.hid h8;have HB8 : Hid (Below wo.heap.size wo W8) := HB7.out.trans (hb8.mono (by rw [HS7.out, HPW.out]; omega));have HS8 := Lib.hid hs8;have HCT8 := Lib.hid ct8;clear hW8 hp2 hpp h8r h8 hb8 hs8 ct8 e0 e1 e2 H7 HB7 HS7 HVF HVT
          go_upto_block 2 with (fail)
          rw [deq];clear deq
          go_upto_block 2 with (fail)
          go_cut [13] (fun _ wx => ∃ lv, Hid (OwnI wx (p2 + 1) lv (besL (tdOf ls) x.fr x.to)) ∧ Hid (wx.heap[p]? = some (edgeO x)) ∧ Hid (wx.heap[p2]? = some (rowO18 x lv nilV)) ∧ Hid (Below wo.heap.size wo wx))
          case first =>
           go_wp2
           go_loopw [13] (fun s13 wi => ∃ (k : Int) (lv : Value) (L : List Int), s13 = .int .i64 k ∧ -1 ≤ k ∧ k < (n : Int) ∧ Hid (besL (tdOf ls) x.fr x.to = L ++ besF (tdOf ls) k x.to) ∧ Hid (OwnI wi (p2 + 1) lv L) ∧ Hid (wi.heap[p]? = some (edgeO x)) ∧ Hid (wi.heap[p2]? = some (rowO18 x lv nilV)) ∧ Hid (Below wo.heap.size wo wi)) (fun s13 _ => (intOf s13 + 1).toNat)
           case atStart => exact ⟨(ownF (tdOf ls) x.fr.toNat : Int), nilV, [], rfl, by omega, by omega, by rw [Hid, HLF.out]; rfl, OwnI.nil _ _, H8, H8R, HB8⟩
           case round =>
            obtain ⟨k, lv, L, rfl, hk1, hk2, HEQ, HOL, HP, HP2, HBi⟩ := hrel;clear H8 H8R HB8 e0';obtain ⟨la, lc, rfl⟩ := HOL.out.form;have HLL : Hid (L.length ≤ 200) := by
             have h1 := besL_len HPAR.out x.fr x.to (by rw [HLN.out]; exact hof);rw [HEQ.out, List.length_append, HLN.out] at h1;rw [Hid]; omega
            by_cases hk0 : k < 0
            · have HE2 : Hid (besL (tdOf ls) x.fr x.to = L) := by rw [Hid, HEQ.out, besF_end _ _ hk0, List.append_nil]
              have dk : decide (k ≥ 0) = false := by simp; omega
              have dk2 : decide (0 ≤ k) = false := by simp; omega
              clear hk0;go_wp2;refine region_ext (by kernel_rfl) (by kernel_rfl) ?_
              repeat (first
               | go_big_quiet_skip
               | go_big_quiet_step (fail))
              refine wpQuiet_nil ?_;intro _ hw';obtain ⟨n', rfl⟩ := hw';go_wp2
              go_meet
              exact ⟨_, by rw [HE2.out]; exact HOL.out.ext n'.ext, block_ext n'.ext HP.out, block_ext n'.ext HP2.out, HBi.out.trans (n'.ext.mono HBi.out.size)⟩
            · obtain ⟨kn, rfl⟩ : ∃ kn : Nat, k = (kn : Int) := ⟨k.toNat, by omega⟩
              have hknn : kn < n := by omega
              have hknl : kn < (tdOf ls).length := by rw [HLN.out]; exact hknn
              have HPB := Lib.hid ((parentsB_iff _).1 HPAR.out kn hknl);have q2 : ∀ n' : ExtW wr, n'.val.cell? ⟨p, 2, none⟩ = some (.int .i64 x.to) := fun n' => cell_ext n'.ext (by rw [cell_of_row _ _ _ _ _ _ HP.out]; rfl);have HBW : Hid (Below w.heap.size w wr) := ext_trans (ext_trans HB5.out HBr.out) HBi.out;clear hk0;cases hcon : (allL (tdOf ls) (kn : Int)).contains x.to with
              | true =>
                have HE2 : Hid (besL (tdOf ls) x.fr x.to = L) := by rw [Hid, HEQ.out, besF_stop HPAR.out (by omega) (by omega) hcon, List.append_nil]
                have HCON := Lib.hid hcon;clear hcon;go_wp2;refine z_start (fun w' => ∃ n : ExtW wr, w' = n.val) (by kernel_rfl) ?_;obtain ⟨v0, F0, hv0⟩ : ∃ v0, Below wr.heap.size wr v0 ∧ wr.drew = v0 := ⟨_, ext_drewN (Below.refl _ _) 1, rfl⟩
                rw [hv0];clear hv0;refine z_reads 0 5 (by kernel_rfl) ⟨⟨_, F0⟩, rfl⟩ ?_;simp only [List.take_succ_cons, List.take_zero, List.drop_succ_cons, List.drop_zero]
                repeat (go_big_quiet_step (fail))
                refine wpQuiet_nil ?_;refine z_reads 6 2 (by kernel_rfl) ⟨⟨_, F0⟩, rfl⟩ ?_;simp only [List.take_succ_cons, List.take_zero, List.drop_succ_cons, List.drop_zero]
                repeat (go_big_quiet_step (fail))
                refine wpQuiet_nil ?_;refine z_one 5 (by kernel_rfl) ?_;refine wpOp_atW rfl (by rfl) ?_;go_simp;refine (all17T_any a n c ls (kn : Int) v0 (HT.out.ext (ext_trans HBW.out F0)) (by unfold I64; omega) HTOT.out).mono ?_;rintro e v1 ⟨av, rfl, hav, hb1⟩;obtain ⟨aa, ac, rfl⟩ := hav.form;have F1 : Below wr.heap.size wr v1 := ext_trans F0 hb1;refine ⟨Or.inr ⟨⟨_, F1⟩, rfl⟩, ?_⟩
                try simp only [Act.put, List.setIfInBounds_toArray, List.set_cons_succ, List.set_cons_zero]
                refine z_one 8 (by kernel_rfl) ?_;refine wpOp_atW rfl (by rfl) ?_;go_simp;refine (has18_any aa _ ac _ x.to v1 hav.ints).mono ?_;rintro e v2 ⟨rfl, rfl⟩;refine ⟨Or.inr ⟨⟨_, F1⟩, rfl⟩, ?_⟩
                try simp only [Act.put, List.setIfInBounds_toArray, List.set_cons_succ, List.set_cons_zero]
                rw [HCON.out];refine z_reads 9 2 (by kernel_rfl) ⟨⟨_, F1⟩, rfl⟩ ?_;simp only [List.take_succ_cons, List.take_zero, List.drop_succ_cons, List.drop_zero]
                repeat (go_big_quiet_step (fail))
                refine wpQuiet_nil ?_;refine z_done (by kernel_rfl) ?_;have HF1 := Lib.hid F1;clear F0 F1 hb1 hav;go_wp2
                go_meet
                exact ⟨_, by rw [HE2.out]; exact HOL.out.ext HF1.out, block_ext HF1.out HP.out, block_ext HF1.out HP2.out, HBi.out.trans (HF1.out.mono HBi.out.size)⟩
              | false =>
                have HE2 : Hid (besL (tdOf ls) x.fr x.to = L ++ [(kn : Int)] ++ besF (tdOf ls) (parL (tdOf ls) kn) x.to) := by
                 rw [Hid, HEQ.out, besF_step HPAR.out (by omega) (by omega) hcon, Int.toNat_natCast]; simp
                have HCON := Lib.hid hcon;clear hcon;go_wp2;refine z_start (fun w' => ∃ n : ExtW wr, w' = n.val) (by kernel_rfl) ?_;obtain ⟨v0, F0, hv0⟩ : ∃ v0, Below wr.heap.size wr v0 ∧ wr.drew = v0 := ⟨_, ext_drewN (Below.refl _ _) 1, rfl⟩
                rw [hv0];clear hv0;refine z_reads 0 5 (by kernel_rfl) ⟨⟨_, F0⟩, rfl⟩ ?_;simp only [List.take_succ_cons, List.take_zero, List.drop_succ_cons, List.drop_zero]
                repeat (go_big_quiet_step (fail))
                refine wpQuiet_nil ?_;refine z_reads 6 2 (by kernel_rfl) ⟨⟨_, F0⟩, rfl⟩ ?_;simp only [List.take_succ_cons, List.take_zero, List.drop_succ_cons, List.drop_zero]
                repeat (go_big_quiet_step (fail))
                refine wpQuiet_nil ?_;refine z_one 5 (by kernel_rfl) ?_;refine wpOp_atW rfl (by rfl) ?_;go_simp;refine (all17T_any a n c ls (kn : Int) v0 (HT.out.ext (ext_trans HBW.out F0)) (by unfold I64; omega) HTOT.out).mono ?_;rintro e v1 ⟨av, rfl, hav, hb1⟩;obtain ⟨aa, ac, rfl⟩ := hav.form;have F1 : Below wr.heap.size wr v1 := ext_trans F0 hb1;refine ⟨Or.inr ⟨⟨_, F1⟩, rfl⟩, ?_⟩
                try simp only [Act.put, List.setIfInBounds_toArray, List.set_cons_succ, List.set_cons_zero]
                refine z_one 8 (by kernel_rfl) ?_;refine wpOp_atW rfl (by rfl) ?_;go_simp;refine (has18_any aa _ ac _ x.to v1 hav.ints).mono ?_;rintro e v2 ⟨rfl, rfl⟩;refine ⟨Or.inr ⟨⟨_, F1⟩, rfl⟩, ?_⟩
                try simp only [Act.put, List.setIfInBounds_toArray, List.set_cons_succ, List.set_cons_zero]
                rw [HCON.out];refine z_reads 9 2 (by kernel_rfl) ⟨⟨_, F1⟩, rfl⟩ ?_;simp only [List.take_succ_cons, List.take_zero, List.drop_succ_cons, List.drop_zero]
                repeat (go_big_quiet_step (fail))
                refine wpQuiet_nil ?_;refine z_done (by kernel_rfl) ?_;have HF1 := Lib.hid F1;clear F0 F1 hb1 hav;have HOL1 := Lib.hid (HOL.out.ext HF1.out);have HP1 := Lib.hid (block_ext HF1.out HP.out);have HR1 := Lib.hid (block_ext HF1.out HP2.out);have HB1 : Hid (Below wo.heap.size wo v1) := HBi.out.trans (HF1.out.mono HBi.out.size);have hp2v : p2 + 1 ≤ v1.heap.size := lt_of_heap HR1.out;have hcr : v1.cell? ⟨p2, 3, none⟩ = some (.slice la L.length lc) := by rw [cell_of_row _ _ _ _ _ _ HR1.out]; rfl
                clear HOL HP HP2 HBi HF1 q2 HBW
                go_wp2_with (
                 (at_builtin
                  refine wpList_append1I rfl v1 (.tmp 75) (.tmp 77) 22 rfl (p2 + 1) _ 8 Tryz.underlying22 infoI rfl (.slice la L.length lc) L rfl HOL1.out (kn : Int) (by unfold I64; omega) v1.heap.size rfl rfl (by have := HLL.out; omega) (by omega) hp2v ?_;intro g cap w5' ho5 hg5 _;have hr5 : w5'.heap[p2]? = some (rowO18 x (.slice la L.length lc) nilV) := grown_row hg5 HR1.out (fun e => by have := (HOL1.out.low e).1; omega);have hp5 : w5'.heap[p]? = some (edgeO x) := grown_row hg5 HP1.out (fun e => by have := (HOL1.out.low e).1; have := HPP.out; omega);have hb5 : Below wo.heap.size wo w5' := HB1.out.grown hg5 HB1.out.size (fun q e => by have := (HOL1.out.low e).1; have := HPP.out; have := HPW.out; omega);have hcs : w5'.cell? ⟨p2, 3, none⟩ = some (.slice la L.length lc) := (by rw [cell_of_row _ _ _ _ _ _ hr5]; rfl)
                  have hcf : w5'.frozen? ⟨p2, 3, none⟩ = false := frozen_of_row _ _ _ _ _ hr5;have hgs := grown_setCell w5' p2 3 (.slice (some ⟨g, 0, none⟩) (L.length + 1) cap);have hgl := (ho5.low (k := g) rfl).1;have HO6 : Hid (OwnI (w5'.setCell ⟨p2, 3, none⟩ (.slice (some ⟨g, 0, none⟩) (L.length + 1) cap)) (p2 + 1) (.slice (some ⟨g, 0, none⟩) (L.length + 1) cap) (L ++ [(kn : Int)])) := ho5.kept hgs (.inr (by simp only [Value.ownBlock, ne_eq, Option.some.injEq]; omega));have HP6 : Hid ((w5'.setCell ⟨p2, 3, none⟩ (.slice (some ⟨g, 0, none⟩) (L.length + 1) cap)).heap[p]? = some (edgeO x)) := grown_row hgs hp5 (by have := HPP.out; simp; omega)
                  have HR6 : Hid ((w5'.setCell ⟨p2, 3, none⟩ (.slice (some ⟨g, 0, none⟩) (L.length + 1) cap)).heap[p2]? = some (rowO18 x (.slice (some ⟨g, 0, none⟩) (L.length + 1) cap) nilV)) := (by
                   rw [Hid, heap_setCell_same _ _ _ _ _ _ hr5]; rfl)
                  have HB6 : Hid (Below wo.heap.size wo (w5'.setCell ⟨p2, 3, none⟩ (.slice (some ⟨g, 0, none⟩) (L.length + 1) cap))) := hb5.setCell (p := ⟨p2, 3, none⟩) (by have := HPP.out; have := HPW.out; simp; omega) _;obtain ⟨t, tb, tw, hlk, hok, rfl, _, ct1, _⟩ := (HT.out.ext (ext_trans (ext_trans HB5.out HBr.out) HB6.out)).cells hknn;have HTP : Hid (parL (tdOf ls) kn = t.d.parent) := (by rw [Hid, parL, tdOf_at ls kn t hlk])
                  clear ho5 hg5 hr5 hp5 hb5 hgs hlk hok hgl))
                go_roundw
                case rel => exact ⟨t.d.parent, _, L ++ [(kn : Int)], rfl, by rw [← HTP.out]; exact HPB.out.1, by have := HPB.out.2; rw [HTP.out] at this; omega, by rw [← HTP.out]; exact HE2, HO6, HP6, HR6, HB6⟩
                case measure => have := HPB.out.2; rw [HTP.out] at this; simp [intOf]; omega
          case rest =>
           obtain ⟨lv, HLV, H9, H9R, HB9⟩ := hcut;clear H8 H8R HB8 HLF cf8 e0';have e2' : wc.cell? ⟨p, 2, none⟩ = some (.int .i64 x.to) := by rw [cell_of_row _ _ _ _ _ _ H9.out]; rfl
           have ct9 : wc.cell? ⟨vb, vo + x.to.toNat, none⟩ = some (.int .i64 (ownF (tdOf ls) x.to.toNat : Int)) := by
            obtain ⟨vb3, vo3, hva3, cvt3, _⟩ := (HV5.out.ext (ext_trans HBr.out HB9.out)).2.2 x.to.toNat (by omega);rw [ownL_at (by omega)] at cvt3;injection hva3 with hva3;injection hva3 with hv3 hv4 _;subst hv3 hv4;exact cvt3
           go_upto_block 4 with (fail)
           go_upto_block 4 with (fail)
           go_cut [14] (fun _ wx => ∃ en, Hid (OwnI wx (p2 + 1) lv (besL (tdOf ls) x.fr x.to)) ∧ Hid (OwnI wx (p2 + 1) en (besL (tdOf ls) x.to x.fr).reverse) ∧ Hid (wx.heap[p2]? = some (rowO18 x lv en)) ∧ Hid (Below wo.heap.size wo wx))
           case first =>
            go_wp2
            go_loopw [14] (fun s14 wi => ∃ (k : Int) (en : Value) (L : List Int), s14 = .int .i64 k ∧ -1 ≤ k ∧ k < (n : Int) ∧ Hid ((besL (tdOf ls) x.to x.fr).reverse = (besF (tdOf ls) k x.fr).reverse ++ L) ∧ Hid (OwnI wi (p2 + 1) en L) ∧ Hid (OwnI wi (p2 + 1) lv (besL (tdOf ls) x.fr x.to)) ∧ Hid (wi.heap[p]? = some (edgeO x)) ∧ Hid (wi.heap[p2]? = some (rowO18 x lv en)) ∧ Hid (Below wo.heap.size wo wi)) (fun s14 _ => (intOf s14 + 1).toNat)
            case atStart => exact ⟨(ownF (tdOf ls) x.to.toNat : Int), nilV, [], rfl, by omega, by omega, by rw [Hid, HLT.out]; simp, OwnI.nil _ _, HLV, H9, H9R, HB9⟩
            case round =>
             obtain ⟨k, en, L, rfl, hk1, hk2, HEQ, HOL, HLI, HP, HP2, HBi⟩ := hrel;clear HLV H9 H9R HB9 e2';obtain ⟨la, lc, rfl⟩ := HOL.out.form;have HLL : Hid (L.length ≤ 200) := by
              have h1 := besL_len HPAR.out x.to x.fr (by rw [HLN.out]; exact hot);rw [← List.length_reverse, HEQ.out, List.length_append, HLN.out] at h1;rw [Hid]; omega
             by_cases hk0 : k < 0
             · have HE2 : Hid ((besL (tdOf ls) x.to x.fr).reverse = L) := by rw [Hid, HEQ.out, besF_end _ _ hk0]; rfl
               have dk : decide (k ≥ 0) = false := by simp; omega
               have dk2 : decide (0 ≤ k) = false := by simp; omega
               clear hk0;go_wp2;refine region_ext (by kernel_rfl) (by kernel_rfl) ?_
               repeat (first
                | go_big_quiet_skip
                | go_big_quiet_step (fail))
               refine wpQuiet_nil ?_;intro _ hw';obtain ⟨n', rfl⟩ := hw';go_wp2
               go_meet
               exact ⟨_, HLI.out.ext n'.ext, by rw [HE2.out]; exact HOL.out.ext n'.ext, block_ext n'.ext HP2.out, HBi.out.trans (n'.ext.mono HBi.out.size)⟩
             · obtain ⟨kn, rfl⟩ : ∃ kn : Nat, k = (kn : Int) := ⟨k.toNat, by omega⟩
               have hknn : kn < n := by omega
               have hknl : kn < (tdOf ls).length := by rw [HLN.out]; exact hknn
               have HPB := Lib.hid ((parentsB_iff _).1 HPAR.out kn hknl);have q2 : ∀ n' : ExtW wr, n'.val.cell? ⟨p, 0, none⟩ = some (.int .i64 x.fr) := fun n' => cell_ext n'.ext (by rw [cell_of_row _ _ _ _ _ _ HP.out]; rfl);have HBW : Hid (Below w.heap.size w wr) := ext_trans (ext_trans HB5.out HBr.out) HBi.out;clear hk0;cases hcon : (allL (tdOf ls) (kn : Int)).contains x.fr with
               | true =>
                 have HE2 : Hid ((besL (tdOf ls) x.to x.fr).reverse = L) := by rw [Hid, HEQ.out, besF_stop HPAR.out (by omega) (by omega) hcon]; rfl
                 have HCON := Lib.hid hcon;clear hcon;go_wp2;refine z_start (fun w' => ∃ n : ExtW wr, w' = n.val) (by kernel_rfl) ?_;obtain ⟨v0, F0, hv0⟩ : ∃ v0, Below wr.heap.size wr v0 ∧ wr.drew = v0 := ⟨_, ext_drewN (Below.refl _ _) 1, rfl⟩
                 rw [hv0];clear hv0;refine z_reads 0 5 (by kernel_rfl) ⟨⟨_, F0⟩, rfl⟩ ?_;simp only [List.take_succ_cons, List.take_zero, List.drop_succ_cons, List.drop_zero]
                 repeat (go_big_quiet_step (fail))
                 refine wpQuiet_nil ?_;refine z_reads 6 2 (by kernel_rfl) ⟨⟨_, F0⟩, rfl⟩ ?_;simp only [List.take_succ_cons, List.take_zero, List.drop_succ_cons, List.drop_zero]
                 repeat (go_big_quiet_step (fail))
                 refine wpQuiet_nil ?_;refine z_one 5 (by kernel_rfl) ?_;refine wpOp_atW rfl (by rfl) ?_;go_simp;refine (all17T_any a n c ls (kn : Int) v0 (HT.out.ext (ext_trans HBW.out F0)) (by unfold I64; omega) HTOT.out).mono ?_;rintro e v1 ⟨av, rfl, hav, hb1⟩;obtain ⟨aa, ac, rfl⟩ := hav.form;have F1 : Below wr.heap.size wr v1 := ext_trans F0 hb1;refine ⟨Or.inr ⟨⟨_, F1⟩, rfl⟩, ?_⟩
                 try simp only [Act.put, List.setIfInBounds_toArray, List.set_cons_succ, List.set_cons_zero]
                 refine z_one 8 (by kernel_rfl) ?_;refine wpOp_atW rfl (by rfl) ?_;go_simp;refine (has18_any aa _ ac _ x.fr v1 hav.ints).mono ?_;rintro e v2 ⟨rfl, rfl⟩;refine ⟨Or.inr ⟨⟨_, F1⟩, rfl⟩, ?_⟩
                 try simp only [Act.put, List.setIfInBounds_toArray, List.set_cons_succ, List.set_cons_zero]
                 rw [HCON.out];refine z_reads 9 2 (by kernel_rfl) ⟨⟨_, F1⟩, rfl⟩ ?_;simp only [List.take_succ_cons, List.take_zero, List.drop_succ_cons, List.drop_zero]
                 repeat (go_big_quiet_step (fail))
                 refine wpQuiet_nil ?_;refine z_done (by kernel_rfl) ?_;have HF1 := Lib.hid F1;clear F0 F1 hb1 hav;go_wp2
                 go_meet
                 exact ⟨_, HLI.out.ext HF1.out, by rw [HE2.out]; exact HOL.out.ext HF1.out, block_ext HF1.out HP2.out, HBi.out.trans (HF1.out.mono HBi.out.size)⟩
               | false =>
                 have HE2 : Hid ((besL (tdOf ls) x.to x.fr).reverse = (besF (tdOf ls) (parL (tdOf ls) kn) x.fr).reverse ++ ([(kn : Int)] ++ L)) := by
                  rw [Hid, HEQ.out, besF_step HPAR.out (by omega) (by omega) hcon, Int.toNat_natCast]; simp
                 have HCON := Lib.hid hcon;clear hcon;go_wp2;refine z_start (fun w' => ∃ n : ExtW wr, w' = n.val) (by kernel_rfl) ?_;obtain ⟨v0, F0, hv0⟩ : ∃ v0, Below wr.heap.size wr v0 ∧ wr.drew = v0 := ⟨_, ext_drewN (Below.refl _ _) 1, rfl⟩
                 rw [hv0];clear hv0;refine z_reads 0 5 (by kernel_rfl) ⟨⟨_, F0⟩, rfl⟩ ?_;simp only [List.take_succ_cons, List.take_zero, List.drop_succ_cons, List.drop_zero]
                 repeat (go_big_quiet_step (fail))
                 refine wpQuiet_nil ?_;refine z_reads 6 2 (by kernel_rfl) ⟨⟨_, F0⟩, rfl⟩ ?_;simp only [List.take_succ_cons, List.take_zero, List.drop_succ_cons, List.drop_zero]
                 repeat (go_big_quiet_step (fail))
                 refine wpQuiet_nil ?_;refine z_one 5 (by kernel_rfl) ?_;refine wpOp_atW rfl (by rfl) ?_;go_simp;refine (all17T_any a n c ls (kn : Int) v0 (HT.out.ext (ext_trans HBW.out F0)) (by unfold I64; omega) HTOT.out).mono ?_;rintro e v1 ⟨av, rfl, hav, hb1⟩;obtain ⟨aa, ac, rfl⟩ := hav.form;have F1 : Below wr.heap.size wr v1 := ext_trans F0 hb1;refine ⟨Or.inr ⟨⟨_, F1⟩, rfl⟩, ?_⟩
                 try simp only [Act.put, List.setIfInBounds_toArray, List.set_cons_succ, List.set_cons_zero]
                 refine z_one 8 (by kernel_rfl) ?_;refine wpOp_atW rfl (by rfl) ?_;go_simp;refine (has18_any aa _ ac _ x.fr v1 hav.ints).mono ?_;rintro e v2 ⟨rfl, rfl⟩;refine ⟨Or.inr ⟨⟨_, F1⟩, rfl⟩, ?_⟩
                 try simp only [Act.put, List.setIfInBounds_toArray, List.set_cons_succ, List.set_cons_zero]
                 rw [HCON.out];refine z_reads 9 2 (by kernel_rfl) ⟨⟨_, F1⟩, rfl⟩ ?_;simp only [List.take_succ_cons, List.take_zero, List.drop_succ_cons, List.drop_zero]
                 repeat (go_big_quiet_step (fail))
                 refine wpQuiet_nil ?_;refine z_done (by kernel_rfl) ?_;have HF1 := Lib.hid F1;clear F0 F1 hb1 hav;have HOL1 := Lib.hid (HOL.out.ext HF1.out);have HLI1 := Lib.hid (HLI.out.ext HF1.out);have HP1 := Lib.hid (block_ext HF1.out HP.out);have HR1 := Lib.hid (block_ext HF1.out HP2.out);have HB1 : Hid (Below wo.heap.size wo v1) := HBi.out.trans (HF1.out.mono HBi.out.size);have hp2v : p2 + 1 ≤ v1.heap.size := lt_of_heap HR1.out;have HOL2 := Lib.hid ((HOL1.out.ext (ext_alloc _ (.cells #[.int .i64 (kn : Int)] 3))).ints);have hcr : v1.cell? ⟨p2, 4, none⟩ = some (.slice la L.length lc) := by rw [cell_of_row _ _ _ _ _ _ HR1.out]; rfl
                 have hcr2 : (v1.alloc (.cells #[.int .i64 (kn : Int)] 3)).cell? ⟨p2, 4, none⟩ = some (.slice la L.length lc) := cell_ext (ext_alloc _ _) hcr;clear hcr;clear HOL HLI HP HP2 HBi HF1 q2 HBW
                 go_wp2_with (
                  (at_builtin
                   refine wpList_appendI (v1.alloc (.cells #[.int .i64 (kn : Int)] 3)) rfl (.tmp 102) (.tmp 104) 22 rfl (p2 + 1) _ 8 Tryz.underlying22 infoI rfl (by omega) (.slice (some ⟨v1.heap.size, 0, none⟩) 1 1) [(kn : Int)] rfl (ownI_lit (W := v1) (xs := [(kn : Int)]) rfl _ hp2v (fun z hz => by simp at hz; subst hz; unfold I64; omega) (by simp)) la L.length lc rfl L HOL2.out (by have := HLL.out; simp; omega) (by simp; omega) ?_;intro v5 w5' ho5 hg5 hvb
                   obtain ⟨ga, gc, rfl⟩ : ∃ ga gc, v5 = .slice ga (L.length + 1) gc := (by
                    obtain ⟨ga, gc, e⟩ := ho5.form
                    exact ⟨ga, gc, by rw [e]; simp⟩)
                   have hg5 : v1.grownBy w5' none := grown_trans (World.grownBy_alloc _ _ _) hg5 (.inr fun q e => by simp only [Value.ownBlock, Option.some.injEq] at e; omega);have hr5 : w5'.heap[p2]? = some (rowO18 x lv (.slice la L.length lc)) := grown_row hg5 HR1.out (fun e => by cases e);have hp5 : w5'.heap[p]? = some (edgeO x) := grown_row hg5 HP1.out (fun e => by cases e);have hb5 : Below wo.heap.size wo w5' := HB1.out.grown hg5 HB1.out.size (fun q e => by cases e);have hcs : w5'.cell? ⟨p2, 4, none⟩ = some (.slice la L.length lc) := (by rw [cell_of_row _ _ _ _ _ _ hr5]; rfl)
                   have hcf : w5'.frozen? ⟨p2, 4, none⟩ = false := frozen_of_row _ _ _ _ _ hr5;have hgs := grown_setCell w5' p2 4 (.slice ga (L.length + 1) gc);have hgl : ∀ q, (Value.slice ga (L.length + 1) gc).ownBlock = some q → p2 + 1 ≤ q := (fun q hq => (ho5.low hq).1)
                   have HO6 : Hid (OwnI (w5'.setCell ⟨p2, 4, none⟩ (.slice ga (L.length + 1) gc)) (p2 + 1) (.slice ga (L.length + 1) gc) ([(kn : Int)] ++ L)) := ho5.kept hgs (kept_ne fun q hq e => by have := hgl q hq; injection e with e; omega);have HL6 : Hid (OwnI (w5'.setCell ⟨p2, 4, none⟩ (.slice ga (L.length + 1) gc)) (p2 + 1) lv (besL (tdOf ls) x.fr x.to)) := (HLI1.out.kept hg5 (kept_ne fun q hq e => by cases e)).kept hgs (kept_ne fun q hq e => by have := (HLI1.out.low hq).1; injection e with e; omega);have HP6 : Hid ((w5'.setCell ⟨p2, 4, none⟩ (.slice ga (L.length + 1) gc)).heap[p]? = some (edgeO x)) := grown_row hgs hp5 (by have := HPP.out; simp; omega)
                   have HR6 : Hid ((w5'.setCell ⟨p2, 4, none⟩ (.slice ga (L.length + 1) gc)).heap[p2]? = some (rowO18 x lv (.slice ga (L.length + 1) gc))) := (by
                    rw [Hid, heap_setCell_same _ _ _ _ _ _ hr5]; rfl)
                   have HB6 : Hid (Below wo.heap.size wo (w5'.setCell ⟨p2, 4, none⟩ (.slice ga (L.length + 1) gc))) := hb5.setCell (p := ⟨p2, 4, none⟩) (by have := HPP.out; have := HPW.out; simp; omega) _;obtain ⟨t, tb, tw, hlk, hok, rfl, _, ct1, _⟩ := (HT.out.ext (ext_trans (ext_trans HB5.out HBr.out) HB6.out)).cells hknn;have HTP : Hid (parL (tdOf ls) kn = t.d.parent) := (by rw [Hid, parL, tdOf_at ls kn t hlk])
                   clear ho5 hg5 hr5 hp5 hb5 hgs hlk hok hgl))
                 go_roundw
                 case rel => exact ⟨t.d.parent, _, [(kn : Int)] ++ L, rfl, by rw [← HTP.out]; exact HPB.out.1, by have := HPB.out.2; rw [HTP.out] at this; omega, by rw [← HTP.out]; exact HE2, HO6, HL6, HP6, HR6, HB6⟩
                 case measure => have := HPB.out.2; rw [HTP.out] at this; simp [intOf]; omega
           case rest =>
            obtain ⟨en, HLX, HEX, HRX, HBX⟩ := hcut;clear HLV H9 H9R HB9 ct9 e2';have HRWX := Lib.hid (HRW.out.ext HBX.out);have hws : w5.heap.size ≤ wo.heap.size := HBr.out.size;have hbx : w5.heap.size ≤ wc.heap.size := Nat.le_trans hws HBX.out.size;have HM2 : Hid ((hs ++ [(⟨rowOf (tdOf ls) x, lv, en⟩ : RowH)]).map (·.r) = rowsTo (tdOf ls) (fun _ => true) ((edgesL (tsOf bs)).take (i + 1))) := by
             rw [Hid, HST.out, HBT.out, List.map_append, HMAP.out]; rfl
            have hone : ∀ u ∈ [Value.int .i64 x.fr, .int .i64 x.arm, .int .i64 x.to, lv, en], u.oneCell' = true := one_row (r := rowOf (tdOf ls) x) (own_one HLX.out) (own_one HEX.out)
            go_wp2_with (first
             | (refine wpList_load_row (o := ⟨some 108, .load 89 _, _, _, _, _⟩) rfl 89 _ rfl p2 rfl 89 _ (0, 0) _ HRX.out Tryz.underlying89 rfl size_row18 ?_)
             | (at_builtin
                go_loud (
                 refine wpList_append1 rfl wc (.tmp 107) (.tmp 109) 35 89 rfl w5.heap.size _ 5 72 Tryz.underlying35 infoRow18 rfl (by omega) (.slice oa hs.length oc) hs.length (hs.flatMap csR) [.int .i64 x.fr, .int .i64 x.arm, .int .i64 x.to, lv, en] rfl HRWX.out.1.1 wc.heap.size rfl rfl rfl hone (by simp only [maxLen]; omega) (by omega) hbx ?_;intro g cap w9 hown hg hat
                 have HRW9 : Hid (RowsT 89 w9 w5.heap.size (.slice (some ⟨g, 0, none⟩) (hs.length + 1) cap) (hs ++ [⟨rowOf (tdOf ls) x, lv, en⟩])) :=
                  RowsT.add HRWX.out (x := ⟨rowOf (tdOf ls) x, lv, en⟩) (HLX.out.mono (by have := HPP.out; have := HPW.out; omega)) (HEX.out.mono (by have := HPP.out; have := HPW.out; omega))
                   (fun q hq e => by have := (HLX.out.low hq).1; have := (HRW.out.1.low e).2; have := HPP.out; have := HPW.out; omega) (fun q hq e => by have := (HEX.out.low hq).1; have := (HRW.out.1.low e).2; have := HPP.out; have := HPW.out; omega) hown hg (hat.imp id fun h => .inr h) (by omega)
                 have HB10 : Hid (Below w5.heap.size w5 w9) := (ext_trans HBr.out HBX.out).grown hg (ext_trans HBr.out HBX.out).size (fun q e => (HRWX.out.1.low e).1)
                 clear hown hg hat)))
            go_roundw
            case rel => exact ⟨i + 1, hs ++ [⟨rowOf (tdOf ls) x, lv, en⟩], by omega, by go_num, by rw [Hid, show (hs.length + 1 : Nat) = (hs ++ [(⟨rowOf (tdOf ls) x, lv, en⟩ : RowH)]).length by simp] at *; exact HRW9, HM2, HB10⟩
            case measure => simp [intOf]; omega
      · obtain rfl : i = (edgesL (tsOf bs)).length := by omega
        have HM2 : Hid (hs.map (·.r) = rowsL (tsOf bs) (tdOf ls) (fun _ => true)) := by rw [Hid, HMAP.out, List.take_length]; rfl
        go_wp2;exact bodyPost_ret (v := .tuple #[.slice oa hs.length oc, .int .i64 0]) (by simp [results, Tryz.results14, go_sem, Act.put]) rfl ⟨_, by rw [HE.out], ext_trans HB5.out HBr.out, fun h => (by rw [HR.out] at h; cases h), fun _ => ⟨hs, HRW.out.mono (by omega), HM2.out⟩⟩
end

section
open Go.RowKit Go.Shelf
theorem rowsL_e {ts : List TermD} {l : List TileD} {ask : EdgeD → Bool} {r : RowD} (h : r ∈ rowsL ts l ask) : r.e ∈ edgesL ts := by
 obtain ⟨x, hx, rfl⟩ := List.mem_map.1 h
 exact (List.mem_filter.1 hx).1
theorem take_filter {α : Type} (p : α → Bool) (l : List α) (i : Nat) (x : α) (h : l[i]? = some x) : (l.take (i + 1)).filter p = (l.take i).filter p ++ if p x then [x] else [] := by
 rw [List.take_add_one, h, List.filter_append]
 cases hp : p x <;> simp [hp]
theorem into18_any (pa : Option Addr) (pn pc : Nat) (ba : Option Addr) (bn bc : Nat) (bs : List BlkH) (a : Option Addr) (n c : Nat) (ls : List TileR) (k : Int) (w : World) (h : BlksOK w ba bn bs) (ht : TilesOK w a n ls) (hT : totL (tdOf ls) ≤ 1000000) :
  Calls Tryz.prog 16 #[funcV pa pn pc ba bn bc, .slice a n c, .int .i64 k] w (R18Post 89 (tsOf bs) (tdOf ls) (intoB (tdOf ls) k) w) := by
 have HTL : Hid ((tsOf bs).length = bn) := by rw [Hid, tsOf_len, h.1.1]
 have H := Lib.hid h
 have HT := Lib.hid ht
 have HTOT := Lib.hid hT
 clear h ht hT
 go_enter Tryz.func16, Tryz.ntmps16
 go_upto_region 1 with (fail)
 obtain ⟨W, hW⟩ : ∃ W, W = w.alloc (funcO pa pn pc ba bn bc) := ⟨_, rfl⟩
 rw [← hW]
 have hk0 : W.heap[w.heap.size]? = some (funcO pa pn pc ba bn bc) := by rw [hW]; exact heap_alloc_new _ _
 have hB : Below w.heap.size w W := by rw [hW]; exact ext_alloc _ _
 have HK := Lib.hid hk0
 have HB := Lib.hid hB
 clear hW hk0 hB
 go_upto_region 3 with (first
  | (refine wpList_load_row (o := ⟨some 15, .load 25 _, _, _, _, _⟩) rfl 25 _ rfl w.heap.size rfl 25 _ (0, 0) _ HK.out Tryz.underlying25 rfl size_func ?_)
  | (refine wpList_load_row (o := ⟨some 21, .load 25 _, _, _, _, _⟩) rfl 25 _ rfl w.heap.size rfl 25 _ (0, 0) _ HK3.out Tryz.underlying25 rfl size_func ?_)
  | (go_at_call 14
     refine (between18_any pa pn pc ba bn bc bs a n c ls W (H.out.ext HB.out) (HT.out.ext HB.out) HTOT.out).mono ?_;rintro e w3 ⟨v, rfl, hb, hno, hyes⟩;have HB3 := Lib.hid (ext_trans HB.out hb);have HK3 := Lib.hid (block_ext hb HK.out);have HNO := Lib.hid hno
     have HYES : Hid (rightB (tsOf bs) (tdOf ls) = true → ∃ hs, RowsT 89 w3 w.heap.size v hs ∧ hs.map (·.r) = rowsL (tsOf bs) (tdOf ls) fun _ => true) := (fun h => by
      obtain ⟨hs, h1, h2⟩ := hyes h
      exact ⟨hs, h1.mono HB.out.size, h2⟩)
     clear hb hno hyes)
  | (go_at_call 38
     refine (own17_any pa pn pc ba bn bc bs a n c ls w3 (H.out.ext HB3.out) (HT.out.ext HB3.out) HTOT.out).mono ?_;rintro e w4 ⟨v2, en, rfl, hb, _, _, ho3⟩;have HB4 := Lib.hid (ext_trans HB3.out hb);have HB34 := Lib.hid hb;have HO3 := Lib.hid ho3
     clear hb ho3))
 clear HB HK HK3
 have hwp : w.heap.size ≤ w4.heap.size := HB4.out.size
 have h34 : w3.heap.size ≤ w4.heap.size := HB34.out.size
 cases hr : rightB (tsOf bs) (tdOf ls) with
 | false =>
   have HR := Lib.hid hr;obtain rfl := HNO.out hr;clear HNO HYES hr;go_wp2
   go_loopw [12, 13] (fun s12 s13 wr => s12 = .slice none 0 0 ∧ s13 = .int .i64 0 ∧ wr = w4) (fun _ _ _ => 0)
   case atStart => exact ⟨rfl, by go_num, rfl⟩
   case round =>
    obtain ⟨rfl, rfl, rfl⟩ := hrel;go_wp2;exact bodyPost_ret (v := .tuple #[.slice none 0 0, .int .i64 (overErr (tsOf bs) (tdOf ls))]) (by simp [results, Tryz.results16, go_sem, Act.put]) rfl ⟨_, rfl, HB4.out, fun _ => rfl, fun h => by rw [HR.out] at h; cases h⟩
 | true =>
   have HR := Lib.hid hr;obtain ⟨hs, hrows, hmap⟩ := HYES.out hr;obtain ⟨hfit, _, hob, _⟩ := right_facts18 hr;rw [HTL.out] at hob;have HAE : Hid (allE (tsOf bs) = edgesL (tsOf bs)) := by simp [Hid, allE, hfit]
   have hgd := ((goodB_iff _).1 (fits_good hfit)).1.2;rw [HTL.out] at hgd;have hel : hs.length ≤ 400 := by
    have h1 := congrArg List.length hmap;rw [List.length_map] at h1;have h2 := edgesL_len (tsOf bs);rw [HTL.out] at h2;rw [h1, rowsL, List.length_map];exact Nat.le_trans (List.length_filter_le _ _) (by omega)
   obtain ⟨_, ho⟩ := HO3.out hfit hob;obtain ⟨va, vc, rfl⟩ := ho.form;obtain ⟨ra, rc, rfl⟩ := hrows.form;have HV := Lib.hid ho.ints;have HRW := Lib.hid (hrows.ext HB34.out);have HRW3 := Lib.hid hrows;have HMAP := Lib.hid hmap;rw [ownL_len] at HV ⊢;clear HNO HYES HO3 hr hfit hob ho hrows hmap;go_wp2
   go_loopw [12, 13] (fun s12 s13 wr => ∃ (i : Nat) (hs2 : List RowH), i ≤ hs.length ∧ s13 = .int .i64 (i : Int) ∧ Hid (OwnR 89 5 csR wr w4.heap.size s12 hs2) ∧ Hid (∀ h ∈ hs2, h ∈ hs) ∧ Hid (hs2.map (·.r) = ((hs.map (·.r)).take i).filter fun r => intoB (tdOf ls) k r.e) ∧ hs2.length ≤ i ∧ Hid (Below w4.heap.size w4 wr)) (fun _ s13 _ => hs.length - (intOf s13).toNat)
   case atStart => exact ⟨0, [], by omega, by go_num, OwnR.nil _ _ _ _ _, (fun h hh => by cases hh), rfl, by simp, Below.refl _ _⟩
   case round =>
    obtain ⟨i, hs2, hi, rfl, HO, HIN, HM, hl2, HBr⟩ := hrel;obtain ⟨oa, oc, rfl⟩ := HO.out.form;have hbr := HBr.out.size;by_cases hlt : i < hs.length
    · have hlt' : (i : Int) < (hs.length : Int) := by omega
      obtain ⟨r, b, o, la, lc, ea, ec, hri, rfl, elv, een, ho1, ho2, c0, c1, c2, c3, c4⟩ := RowsT.at (HRW.out.ext HBr.out) hlt;have hrm : r.r ∈ rowsL (tsOf bs) (tdOf ls) fun _ => true := by rw [← HMAP.out]; exact List.mem_map.2 ⟨r, List.mem_of_getElem? hri, rfl⟩
      obtain ⟨x0, x1, x2, x3⟩ := allE_mem (show r.r.e ∈ allE (tsOf bs) by rw [HAE.out]; exact rowsL_e hrm);rw [HTL.out] at x1 x3;have xb : r.r.e.to < (bn : Int) := by omega
      have xc : 0 ≤ r.r.e.to := by omega
      have xd : r.r.e.to < 9223372036854775808 := by omega
      obtain ⟨vb, vo, rfl, cv, _⟩ := (HV.out.ext HBr.out).2.2 r.r.e.to.toNat (by omega);rw [ownL_at (by omega)] at cv;have hmi : (hs.map (·.r))[i]? = some r.r := by rw [List.getElem?_map, hri]; rfl
      have HST := Lib.hid (take_filter (fun r => intoB (tdOf ls) k r.e) _ i _ hmi);have HMEM : Hid (r ∈ hs) := List.mem_of_getElem? hri;have HEL := Lib.hid elv;have HEE := Lib.hid een;have h1o := Lib.hid ho1;have h2o := Lib.hid ho2;have HASK : Hid (intoB (tdOf ls) k r.r.e = ((ownF (tdOf ls) r.r.e.to.toNat : Int) == k)) := rfl;clear hri hrm hmi x0 x1 x2 x3 elv een ho1 ho2;by_cases hk : (ownF (tdOf ls) r.r.e.to.toNat : Int) = k
      · have dk : ((ownF (tdOf ls) r.r.e.to.toNat : Int) == k) = true := by simpa using hk
        have HM2 : Hid ((hs2 ++ [r]).map (·.r) = ((hs.map (·.r)).take (i + 1)).filter fun r => intoB (tdOf ls) k r.e) := by rw [Hid, HST.out, HASK.out, dk, List.map_append, HM.out]; rfl
        have HIN2 : Hid (∀ h ∈ hs2 ++ [r], h ∈ hs) := fun h hh => by
         rcases List.mem_append.1 hh with hh | hh
         · exact HIN.out h hh
         · rw [List.mem_singleton.1 hh]; exact HMEM.out
        clear hk
        go_wp2_with (
         (at_builtin
          refine wpList_append1 rfl wr (.tmp 43) (.tmp 48) 35 89 rfl w4.heap.size _ 5 72 Tryz.underlying35 infoRow18 rfl (by omega) (.slice oa hs2.length oc) hs2.length (hs2.flatMap csR) [.int .i64 r.r.e.fr, .int .i64 r.r.e.arm, .int .i64 r.r.e.to, .slice la r.r.lv.length lc, .slice ea r.r.en.length ec] rfl HO.out.1 wr.heap.size rfl rfl rfl (by simp [Value.oneCell']) (by simp only [maxLen]; omega) (by omega) hbr ?_;intro g cap w9 hown hg hat
          have HO9 : Hid (OwnR 89 5 csR w9 w4.heap.size (.slice (some ⟨g, 0, none⟩) (hs2.length + 1) cap) (hs2 ++ [r])) := (by
           refine ⟨?_, by simp; omega⟩;have e1 : (hs2 ++ [r]).flatMap csR = hs2.flatMap csR ++ [.int .i64 r.r.e.fr, .int .i64 r.r.e.arm, .int .i64 r.r.e.to, .slice la r.r.lv.length lc, .slice ea r.r.en.length ec] := by
            rw [List.flatMap_append, List.flatMap_singleton, csR, HEL.out, HEE.out]
           rw [e1, List.length_append]
           exact hown)
          have HB9 : Hid (Below w4.heap.size w4 w9) := HBr.out.grown hg HBr.out.size (fun q e => (HO.out.low e).1)
          clear hown hg hat))
        go_roundw
        case rel => exact ⟨i + 1, by omega, by omega, hs2 ++ [r], HO9, HIN2, HM2, by simp; omega⟩
        case measure => simp [intOf]; omega
      · have dk : ((ownF (tdOf ls) r.r.e.to.toNat : Int) == k) = false := by simpa using hk
        have HM2 : Hid (hs2.map (·.r) = ((hs.map (·.r)).take (i + 1)).filter fun r => intoB (tdOf ls) k r.e) := by rw [Hid, HST.out, HASK.out, dk, HM.out]; simp
        clear hk;go_wp2
        go_roundw
        case rel => exact ⟨i + 1, hs2, by omega, by go_num, HO, HIN, HM2, by omega, HBr⟩
        case measure => simp [intOf]; omega
    · obtain rfl : i = hs.length := by omega
      have HM2 : Hid (hs2.map (·.r) = rowsL (tsOf bs) (tdOf ls) (intoB (tdOf ls) k)) := by
       rw [Hid, HM.out, rows_ask, ← HMAP.out, List.take_of_length_le (by simp)]
      have HRF : Hid (RowsT 89 wr w.heap.size (.slice oa hs2.length oc) hs2) := by
       refine ⟨HO.out.mono hwp, fun x hx => ?_⟩;obtain ⟨q1, q2, _, _⟩ := (HRW.out.ext HBr.out).2 x (HIN.out x hx);obtain ⟨q3, q4, _, _⟩ := HRW3.out.2 x (HIN.out x hx);exact ⟨q1, q2, fun q hq e => by have := (q3.low hq).2; have := (HO.out.low e).1; omega, fun q hq e => by have := (q4.low hq).2; have := (HO.out.low e).1; omega⟩
      go_wp2;exact bodyPost_ret (v := .tuple #[.slice oa hs2.length oc, .int .i64 (overErr (tsOf bs) (tdOf ls))]) (by simp [results, Tryz.results16, go_sem, Act.put]) rfl ⟨_, rfl, ext_trans HB4.out HBr.out, fun h => (by rw [HR.out] at h; cases h), fun _ => ⟨hs2, HRF.out, HM2.out⟩⟩
theorem out18_any (pa : Option Addr) (pn pc : Nat) (ba : Option Addr) (bn bc : Nat) (bs : List BlkH) (a : Option Addr) (n c : Nat) (ls : List TileR) (k : Int) (w : World) (h : BlksOK w ba bn bs) (ht : TilesOK w a n ls) (hT : totL (tdOf ls) ≤ 1000000) :
  Calls Tryz.prog 18 #[funcV pa pn pc ba bn bc, .slice a n c, .int .i64 k] w (R18Post 89 (tsOf bs) (tdOf ls) (outB (tdOf ls) k) w) := by
 have HTL : Hid ((tsOf bs).length = bn) := by rw [Hid, tsOf_len, h.1.1]
 have H := Lib.hid h
 have HT := Lib.hid ht
 have HTOT := Lib.hid hT
 clear h ht hT
 go_enter Tryz.func18, Tryz.ntmps18
 go_upto_region 1 with (fail)
 obtain ⟨W, hW⟩ : ∃ W, W = w.alloc (funcO pa pn pc ba bn bc) := ⟨_, rfl⟩
 rw [← hW]
 have hk0 : W.heap[w.heap.size]? = some (funcO pa pn pc ba bn bc) := by rw [hW]; exact heap_alloc_new _ _
 have hB : Below w.heap.size w W := by rw [hW]; exact ext_alloc _ _
 have HK := Lib.hid hk0
 have HB := Lib.hid hB
 clear hW hk0 hB
 go_upto_region 3 with (first
  | (refine wpList_load_row (o := ⟨some 15, .load 25 _, _, _, _, _⟩) rfl 25 _ rfl w.heap.size rfl 25 _ (0, 0) _ HK.out Tryz.underlying25 rfl size_func ?_)
  | (refine wpList_load_row (o := ⟨some 21, .load 25 _, _, _, _, _⟩) rfl 25 _ rfl w.heap.size rfl 25 _ (0, 0) _ HK3.out Tryz.underlying25 rfl size_func ?_)
  | (go_at_call 14
     refine (between18_any pa pn pc ba bn bc bs a n c ls W (H.out.ext HB.out) (HT.out.ext HB.out) HTOT.out).mono ?_;rintro e w3 ⟨v, rfl, hb, hno, hyes⟩;have HB3 := Lib.hid (ext_trans HB.out hb);have HK3 := Lib.hid (block_ext hb HK.out);have HNO := Lib.hid hno
     have HYES : Hid (rightB (tsOf bs) (tdOf ls) = true → ∃ hs, RowsT 89 w3 w.heap.size v hs ∧ hs.map (·.r) = rowsL (tsOf bs) (tdOf ls) fun _ => true) := (fun h => by
      obtain ⟨hs, h1, h2⟩ := hyes h
      exact ⟨hs, h1.mono HB.out.size, h2⟩)
     clear hb hno hyes)
  | (go_at_call 38
     refine (own17_any pa pn pc ba bn bc bs a n c ls w3 (H.out.ext HB3.out) (HT.out.ext HB3.out) HTOT.out).mono ?_;rintro e w4 ⟨v2, en, rfl, hb, _, _, ho3⟩;have HB4 := Lib.hid (ext_trans HB3.out hb);have HB34 := Lib.hid hb;have HO3 := Lib.hid ho3
     clear hb ho3))
 clear HB HK HK3
 have hwp : w.heap.size ≤ w4.heap.size := HB4.out.size
 have h34 : w3.heap.size ≤ w4.heap.size := HB34.out.size
 cases hr : rightB (tsOf bs) (tdOf ls) with
 | false =>
   have HR := Lib.hid hr;obtain rfl := HNO.out hr;clear HNO HYES hr;go_wp2
   go_loopw [12, 13] (fun s12 s13 wr => s12 = .slice none 0 0 ∧ s13 = .int .i64 0 ∧ wr = w4) (fun _ _ _ => 0)
   case atStart => exact ⟨rfl, by go_num, rfl⟩
   case round =>
    obtain ⟨rfl, rfl, rfl⟩ := hrel;go_wp2;exact bodyPost_ret (v := .tuple #[.slice none 0 0, .int .i64 (overErr (tsOf bs) (tdOf ls))]) (by simp [results, Tryz.results18, go_sem, Act.put]) rfl ⟨_, rfl, HB4.out, fun _ => rfl, fun h => by rw [HR.out] at h; cases h⟩
 | true =>
   have HR := Lib.hid hr;obtain ⟨hs, hrows, hmap⟩ := HYES.out hr;obtain ⟨hfit, _, hob, _⟩ := right_facts18 hr;rw [HTL.out] at hob;have HAE : Hid (allE (tsOf bs) = edgesL (tsOf bs)) := by simp [Hid, allE, hfit]
   have hgd := ((goodB_iff _).1 (fits_good hfit)).1.2;rw [HTL.out] at hgd;have hel : hs.length ≤ 400 := by
    have h1 := congrArg List.length hmap;rw [List.length_map] at h1;have h2 := edgesL_len (tsOf bs);rw [HTL.out] at h2;rw [h1, rowsL, List.length_map];exact Nat.le_trans (List.length_filter_le _ _) (by omega)
   obtain ⟨_, ho⟩ := HO3.out hfit hob;obtain ⟨va, vc, rfl⟩ := ho.form;obtain ⟨ra, rc, rfl⟩ := hrows.form;have HV := Lib.hid ho.ints;have HRW := Lib.hid (hrows.ext HB34.out);have HRW3 := Lib.hid hrows;have HMAP := Lib.hid hmap;rw [ownL_len] at HV ⊢;clear HNO HYES HO3 hr hfit hob ho hrows hmap;go_wp2
   go_loopw [12, 13] (fun s12 s13 wr => ∃ (i : Nat) (hs2 : List RowH), i ≤ hs.length ∧ s13 = .int .i64 (i : Int) ∧ Hid (OwnR 89 5 csR wr w4.heap.size s12 hs2) ∧ Hid (∀ h ∈ hs2, h ∈ hs) ∧ Hid (hs2.map (·.r) = ((hs.map (·.r)).take i).filter fun r => outB (tdOf ls) k r.e) ∧ hs2.length ≤ i ∧ Hid (Below w4.heap.size w4 wr)) (fun _ s13 _ => hs.length - (intOf s13).toNat)
   case atStart => exact ⟨0, [], by omega, by go_num, OwnR.nil _ _ _ _ _, (fun h hh => by cases hh), rfl, by simp, Below.refl _ _⟩
   case round =>
    obtain ⟨i, hs2, hi, rfl, HO, HIN, HM, hl2, HBr⟩ := hrel;obtain ⟨oa, oc, rfl⟩ := HO.out.form;have hbr := HBr.out.size;by_cases hlt : i < hs.length
    · have hlt' : (i : Int) < (hs.length : Int) := by omega
      obtain ⟨r, b, o, la, lc, ea, ec, hri, rfl, elv, een, ho1, ho2, c0, c1, c2, c3, c4⟩ := RowsT.at (HRW.out.ext HBr.out) hlt;have hrm : r.r ∈ rowsL (tsOf bs) (tdOf ls) fun _ => true := by rw [← HMAP.out]; exact List.mem_map.2 ⟨r, List.mem_of_getElem? hri, rfl⟩
      obtain ⟨x0, x1, x2, x3⟩ := allE_mem (show r.r.e ∈ allE (tsOf bs) by rw [HAE.out]; exact rowsL_e hrm);rw [HTL.out] at x1 x3;have xb : r.r.e.fr < (bn : Int) := by omega
      have xc : 0 ≤ r.r.e.fr := by omega
      have xd : r.r.e.fr < 9223372036854775808 := by omega
      obtain ⟨vb, vo, rfl, cv, _⟩ := (HV.out.ext HBr.out).2.2 r.r.e.fr.toNat (by omega);rw [ownL_at (by omega)] at cv;have hmi : (hs.map (·.r))[i]? = some r.r := by rw [List.getElem?_map, hri]; rfl
      have HST := Lib.hid (take_filter (fun r => outB (tdOf ls) k r.e) _ i _ hmi);have HMEM : Hid (r ∈ hs) := List.mem_of_getElem? hri;have HEL := Lib.hid elv;have HEE := Lib.hid een;have h1o := Lib.hid ho1;have h2o := Lib.hid ho2;have HASK : Hid (outB (tdOf ls) k r.r.e = ((ownF (tdOf ls) r.r.e.fr.toNat : Int) == k)) := rfl;clear hri hrm hmi x0 x1 x2 x3 elv een ho1 ho2;by_cases hk : (ownF (tdOf ls) r.r.e.fr.toNat : Int) = k
      · have dk : ((ownF (tdOf ls) r.r.e.fr.toNat : Int) == k) = true := by simpa using hk
        have HM2 : Hid ((hs2 ++ [r]).map (·.r) = ((hs.map (·.r)).take (i + 1)).filter fun r => outB (tdOf ls) k r.e) := by rw [Hid, HST.out, HASK.out, dk, List.map_append, HM.out]; rfl
        have HIN2 : Hid (∀ h ∈ hs2 ++ [r], h ∈ hs) := fun h hh => by
         rcases List.mem_append.1 hh with hh | hh
         · exact HIN.out h hh
         · rw [List.mem_singleton.1 hh]; exact HMEM.out
        clear hk
        go_wp2_with (
         (at_builtin
          refine wpList_append1 rfl wr (.tmp 43) (.tmp 48) 35 89 rfl w4.heap.size _ 5 72 Tryz.underlying35 infoRow18 rfl (by omega) (.slice oa hs2.length oc) hs2.length (hs2.flatMap csR) [.int .i64 r.r.e.fr, .int .i64 r.r.e.arm, .int .i64 r.r.e.to, .slice la r.r.lv.length lc, .slice ea r.r.en.length ec] rfl HO.out.1 wr.heap.size rfl rfl rfl (by simp [Value.oneCell']) (by simp only [maxLen]; omega) (by omega) hbr ?_;intro g cap w9 hown hg hat
          have HO9 : Hid (OwnR 89 5 csR w9 w4.heap.size (.slice (some ⟨g, 0, none⟩) (hs2.length + 1) cap) (hs2 ++ [r])) := (by
           refine ⟨?_, by simp; omega⟩;have e1 : (hs2 ++ [r]).flatMap csR = hs2.flatMap csR ++ [.int .i64 r.r.e.fr, .int .i64 r.r.e.arm, .int .i64 r.r.e.to, .slice la r.r.lv.length lc, .slice ea r.r.en.length ec] := by
            rw [List.flatMap_append, List.flatMap_singleton, csR, HEL.out, HEE.out]
           rw [e1, List.length_append]
           exact hown)
          have HB9 : Hid (Below w4.heap.size w4 w9) := HBr.out.grown hg HBr.out.size (fun q e => (HO.out.low e).1)
          clear hown hg hat))
        go_roundw
        case rel => exact ⟨i + 1, by omega, by omega, hs2 ++ [r], HO9, HIN2, HM2, by simp; omega⟩
        case measure => simp [intOf]; omega
      · have dk : ((ownF (tdOf ls) r.r.e.fr.toNat : Int) == k) = false := by simpa using hk
        have HM2 : Hid (hs2.map (·.r) = ((hs.map (·.r)).take (i + 1)).filter fun r => outB (tdOf ls) k r.e) := by rw [Hid, HST.out, HASK.out, dk, HM.out]; simp
        clear hk;go_wp2
        go_roundw
        case rel => exact ⟨i + 1, hs2, by omega, by go_num, HO, HIN, HM2, by omega, HBr⟩
        case measure => simp [intOf]; omega
    · obtain rfl : i = hs.length := by omega
      have HM2 : Hid (hs2.map (·.r) = rowsL (tsOf bs) (tdOf ls) (outB (tdOf ls) k)) := by
       rw [Hid, HM.out, rows_ask, ← HMAP.out, List.take_of_length_le (by simp)]
      have HRF : Hid (RowsT 89 wr w.heap.size (.slice oa hs2.length oc) hs2) := by
       refine ⟨HO.out.mono hwp, fun x hx => ?_⟩;obtain ⟨q1, q2, _, _⟩ := (HRW.out.ext HBr.out).2 x (HIN.out x hx);obtain ⟨q3, q4, _, _⟩ := HRW3.out.2 x (HIN.out x hx);exact ⟨q1, q2, fun q hq e => by have := (q3.low hq).2; have := (HO.out.low e).1; omega, fun q hq e => by have := (q4.low hq).2; have := (HO.out.low e).1; omega⟩
      go_wp2;exact bodyPost_ret (v := .tuple #[.slice oa hs2.length oc, .int .i64 (overErr (tsOf bs) (tdOf ls))]) (by simp [results, Tryz.results18, go_sem, Act.put]) rfl ⟨_, rfl, ext_trans HB4.out HBr.out, fun h => (by rw [HR.out] at h; cases h), fun _ => ⟨hs2, HRF.out, HM2.out⟩⟩
end

section
open Go.RowKit Go.Shelf
def RoomK (w w' : World) : Prop := ∀ (g : Nat) (cur : Array Value) (ty : TypeId), w.heap[g]? = some (.cells cur ty (0, 0)) → ∃ cur', w'.heap[g]? = some (.cells cur' ty (0, 0)) ∧ cur'.size = cur.size
theorem RoomK.refl (w : World) : RoomK w w := fun _ cur _ h => ⟨cur, h, rfl⟩
theorem RoomK.trans {a b c : World} (h : RoomK a b) (k : RoomK b c) : RoomK a c := fun g cur ty hg => by
 obtain ⟨c1, h1, e1⟩ := h g cur ty hg
 obtain ⟨c2, h2, e2⟩ := k g c1 ty h1
 exact ⟨c2, h2, e2.trans e1⟩
theorem RoomK.set (w : World) (g j : Nat) (v : Value) : RoomK w (w.setCell ⟨g, j, none⟩ v) := fun k cur ty hk => by
 by_cases e : k = g
 · subst e;exact ⟨_, heap_setCell_same _ _ _ _ _ _ hk, by simp⟩
 · exact ⟨cur, (Below.heap_setCell _ _ _ _ (fun h => e h)).trans hk, rfl⟩
def RoomV (w : World) (v : Value) : Prop := v = .slice none 0 0 ∨ ∃ g n c cur, v = .slice (some ⟨g, 0, none⟩) n c ∧ w.heap[g]? = some (.cells cur 3 (0, 0)) ∧ cur.size = c ∧ n ≤ c ∧ c ≤ maxLen ∧ n ≤ 17592186044416
theorem RoomV.keep {w w' : World} {v : Value} (h : RoomV w v) (k : RoomK w w') : RoomV w' v := by
 rcases h with h | ⟨g, n, c, cur, e, hg, h1, h2, h3, h4⟩
 · exact .inl h
 · obtain ⟨cur', hg', e'⟩ := k g cur _ hg;exact .inr ⟨g, n, c, cur', e, hg', e'.trans h1, h2, h3, h4⟩
theorem OwnI.room {w : World} {base : Nat} {v : Value} {xs : List Int} (h : OwnI w base v xs) : RoomV w v := by
 rcases h.1.2 with ⟨h1, _⟩ | ⟨g, cap, cur, hv, _, hg, h2, h3, h4, _⟩
 · exact .inl h1
 · exact .inr ⟨g, _, cap, cur, hv, hg, by omega, h2, h3, h.2.2⟩
theorem overInts_any (v : Value) (w : World) (h : RoomV w v) : Calls Tryz.prog 61 #[v] w fun e w' => e = .returned (.tuple #[]) ∧ RoomK w w' ∧ Chg (fun k => v.ownBlock = some k) w w' := by
 rcases h with rfl | ⟨g, n, c, cur, rfl, hg, h1, h2, h3, h4⟩
 · go_enter Tryz.func61, Tryz.ntmps61
   go_wp2
   go_loopw [3] (fun s3 wr => s3 = .int .i64 0 ∧ wr = w) (fun _ _ => 0)
   case atStart => exact ⟨by go_num, rfl⟩
   case round =>
    obtain ⟨rfl, rfl⟩ := hrel;go_wp2
    go_end0
    exact ⟨rfl, RoomK.refl _, Chg.refl _ _⟩
 · have HG := Lib.hid hg;have HC1 := Lib.hid h1;unfold maxLen at h3;clear hg h1;obtain ⟨m, hm, hmc⟩ : ∃ m : Nat, (m : Int) = min (c : Int) ((n : Int) + 12) ∧ m ≤ c := ⟨min c (n + 12), by omega, by omega⟩
   have hmin : min (c : Int) ((n : Int) + 12) = (m : Int) := hm.symm;clear hm
   go_enter Tryz.func61, Tryz.ntmps61
   go_wp2
   go_loopw [3] (fun s3 wr => ∃ i : Nat, i ≤ m ∧ s3 = .int .i64 (i : Int) ∧ Hid (RoomK w wr) ∧ Hid (Chg (fun k => (Value.slice (some ⟨g, 0, none⟩) n c).ownBlock = some k) w wr)) (fun s3 _ => m - (intOf s3).toNat)
   case atStart => exact ⟨0, by omega, by go_num, RoomK.refl _, Chg.refl _ _⟩
   case round =>
    obtain ⟨i, hi, rfl, HRK, HCH⟩ := hrel;by_cases hlt : i < m
    · have hlt' : (i : Int) < (m : Int) := by omega
      obtain ⟨cur', hg', hs'⟩ := HRK.out g cur _ HG.out;have hsz : i < cur'.size := by rw [hs', HC1.out]; omega
      have hcell : wr.cell? ⟨g, i, none⟩ = some cur'[i] := by rw [cell_of_row _ _ _ _ _ _ hg', Array.getElem?_eq_getElem hsz]
      have hfr : wr.frozen? ⟨g, i, none⟩ = false := frozen_of_row _ _ _ _ _ hg';have HRK2 : Hid (RoomK w (wr.setCell ⟨g, i, none⟩ (.int .i64 (markV 2 (i : Int))))) := HRK.out.trans (RoomK.set wr g i _);have HCH2 : Hid (Chg (fun k => (Value.slice (some ⟨g, 0, none⟩) n c).ownBlock = some k) w (wr.setCell ⟨g, i, none⟩ (.int .i64 (markV 2 (i : Int))))) := HCH.out.setCell (p := ⟨g, i, none⟩) (.inl rfl) _;generalize cur'[i] = oldv at *;clear hg' hs' hsz
      go_wp2_with (
       (go_at_call 112
        refine (mark_any 2 (i : Int) wr (by omega) (by omega)).mono ?_
        rintro e w2 ⟨rfl, rfl⟩))
      go_roundw
      case rel => exact ⟨i + 1, by omega, by go_num, HRK2, HCH2⟩
      case measure => simp [intOf]; omega
    · obtain rfl : i = m := by omega
      go_wp2
      go_end0
      exact ⟨rfl, HRK.out, HCH.out⟩
def RowBl (hs : List RowH) (k : Nat) : Prop := ∃ h ∈ hs, h.lv.ownBlock = some k ∨ h.en.ownBlock = some k
theorem over18_any (base : Nat) (v : Value) (hs : List RowH) (w : World) (h : RowsIn w base v hs) : Calls Tryz.prog 20 #[v] w fun e w' => e = .returned (.tuple #[]) ∧ Chg (RowBl hs) w w' := by
 obtain ⟨a, c, rfl⟩ := RowsT.form h.t
 have HOR := Lib.hid h.1
 have HAP : Hid (∀ k, RowBl hs k → (Value.slice a hs.length c).ownBlock ≠ some k) := fun k ⟨x, hx, hk⟩ => by
  obtain ⟨_, _, h3, h4⟩ := h.2 x hx;rcases hk with hk | hk
  · exact h3 k hk
  · exact h4 k hk
 have HRM : Hid (∀ x ∈ hs, RoomV w x.lv ∧ RoomV w x.en) := fun x hx => by
  obtain ⟨h1, h2, _⟩ := h.2 x hx;exact ⟨h1.room, h2.room⟩
 have hln := h.1.2
 clear h
 go_enter Tryz.func20, Tryz.ntmps20
 go_wp2
 go_loopw [2] (fun s2 wr => ∃ i : Nat, i ≤ hs.length ∧ s2 = .int .i64 (i : Int) ∧ Hid (RoomK w wr) ∧ Hid (Chg (RowBl hs) w wr)) (fun s2 _ => hs.length - (intOf s2).toNat)
 case atStart => exact ⟨0, by omega, by go_num, RoomK.refl _, Chg.refl _ _⟩
 case round =>
  obtain ⟨i, hi, rfl, HRK, HCH⟩ := hrel;by_cases hlt : i < hs.length
  · have hlt' : (i : Int) < (hs.length : Int) := by omega
    obtain ⟨x, hx⟩ : ∃ x, hs[i]? = some x := ⟨_, List.getElem?_eq_getElem hlt⟩
    have hmem := List.mem_of_getElem? hx;have key : ∀ W, Chg (RowBl hs) w W → ∃ b o, a = some ⟨b, o, none⟩ ∧ W.cell? ⟨b, o + i * 5 + 3, none⟩ = some x.lv ∧ W.cell? ⟨b, o + i * 5 + 4, none⟩ = some x.en := fun W hc => by
     obtain ⟨b, o, ea, hcc⟩ := ((HOR.out.chg hc fun g hg hS => HAP.out g hS hg).recs csR_len).2.2 i x hx;have c3 := hcc 3 (by omega);have c4 := hcc 4 (by omega);simp only [csR, List.getElem?_cons_zero, List.getElem?_cons_succ] at c3 c4;exact ⟨b, o, ea, c3, c4⟩
    have HKEY := Lib.hid key;obtain ⟨b, o, rfl, c3, _⟩ := key wr HCH.out;have HR1 := Lib.hid ((HRM.out x hmem).1.keep HRK.out);have HR2 := Lib.hid ((HRM.out x hmem).2.keep HRK.out);have HML : Hid (∀ k, x.lv.ownBlock = some k → RowBl hs k) := fun k hk => ⟨x, hmem, .inl hk⟩;have HME : Hid (∀ k, x.en.ownBlock = some k → RowBl hs k) := fun k hk => ⟨x, hmem, .inr hk⟩;clear hx hmem key;generalize x.lv = lv at *;generalize x.en = en at *
    go_upto_region 4 with (
     (go_at_call 61
      refine (overInts_any lv wr HR1.out).mono ?_;rintro e w2 ⟨rfl, hk, hc⟩;have hc2 : Chg (RowBl hs) w w2 := HCH.out.trans (hc.mono HML.out);obtain ⟨b', o', eb, _, c4⟩ := HKEY.out w2 hc2;injection eb with eb;injection eb with eb1 eb2 _;subst eb1 eb2;have HRK2 := Lib.hid (HRK.out.trans hk);have HR22 := Lib.hid (HR2.out.keep hk);have HCH2 := Lib.hid hc2
      clear hk hc hc2 c3))
    go_wp2_with (
     (go_at_call 61
      refine (overInts_any en w2 HR22.out).mono ?_;rintro e w3 ⟨rfl, hk, hc⟩;have HRK3 := Lib.hid (HRK2.out.trans hk);have HCH3 : Hid (Chg (RowBl hs) w w3) := HCH2.out.trans (hc.mono HME.out)
      clear hk hc))
    go_roundw
    case rel => exact ⟨i + 1, by omega, by go_num, HRK3, HCH3⟩
    case measure => simp [intOf]; omega
  · obtain rfl : i = hs.length := by omega
    go_wp2
    go_end0
    exact ⟨rfl, HCH.out⟩
end

section
open Go.RowKit
theorem sameEdges_any (a : Option Addr) (n c : Nat) (xs : List EdgeD) (b : Option Addr) (m d : Nat) (ys : List EdgeD) (w : World) (h : EdgS w a n xs) (h' : EdgS w b m ys) :
  Calls Tryz.prog 25 #[.slice a n c, .slice b m d] w fun e w' => e = .returned (.bool (decide (xs = ys))) ∧ Below w.heap.size w w' := by
 have HL := Lib.hid h.1
 have HL' := Lib.hid h'.1
 have hn := h.2.1
 have hm := h'.2.1
 have H := Lib.hid h
 have H' := Lib.hid h'
 clear h h'
 by_cases hnm : n = m
 · subst hnm
   go_enter Tryz.func25, Tryz.ntmps25
   go_wp2
   go_loopw [5] (fun i wr => ∃ k : Nat, i = .int .i64 k ∧ k ≤ n ∧ Hid (∀ j, j < k → xs[j]? = ys[j]?) ∧ Hid (Below w.heap.size w wr)) (fun i _ => n - (intOf i).toNat)
   case atStart => exact ⟨0, rfl, by omega, fun j hj => absurd hj (by omega), Below.refl _ _⟩
   case round =>
    obtain ⟨k, rfl, hk, HR, HB⟩ := hrel;by_cases hlt : k < n
    · obtain ⟨r, b1, o1, hr, rfl, c0, c1, c2⟩ := edges_cells (H.out.ext csE_len HB.out) hlt;obtain ⟨s, b2, o2, hs, rfl, d0, d1, d2⟩ := edges_cells (H'.out.ext csE_len HB.out) hlt;have HGR := Lib.hid hr;have HGS := Lib.hid hs;have hk0 : (0 : Int) ≤ (k : Int) := by omega
      have hk1 : (k : Int) < (n : Int) := by omega
      have hq : ∀ w, (binOp .neq 46 (edgeV r) (edgeV s)).run Tryz.prog w = .ok (.bool (!sameE r s)) w := fun w => neq_edge w r s;clear hr hs;cases hy : sameE r s with
      | true =>
        have HE : Hid (∀ j, j < k + 1 → xs[j]? = ys[j]?) := fun j hj => by
         by_cases e : j = k
         · subst e;rw [HGR.out, HGS.out, (sameE_iff r s).1 hy]
         · exact HR.out j (by omega)
        rw [hy] at hq;simp only [Bool.not_true] at hq;go_wp2
        go_quiet (fail)
        go_wp2
        go_roundw
        case rel => exact ⟨k + 1, by go_num, by omega, HE, ext_drewN HB.out _⟩
        case measure => simp [intOf]; omega
      | false =>
        have HE : Hid (decide (xs = ys) = false) := decide_eq_false fun e => by
         have h1 := HGR.out;rw [e, HGS.out] at h1;injection h1 with h1;rw [(sameE_iff r s).2 h1] at hy;cases hy
        rw [hy] at hq;simp only [Bool.not_false] at hq;go_wp2
        go_quiet (fail)
        go_wp2
        go_ret
        exact ⟨ret_bool HE.out.symm, ext_drewN HB.out _⟩
    · obtain rfl : k = n := by omega
      have HE : Hid (decide (xs = ys) = true) := decide_eq_true (List.ext_getElem? fun j => by
       by_cases hj : j < k
       · exact HR.out j hj
       · rw [List.getElem?_eq_none (by rw [HL.out]; omega), List.getElem?_eq_none (by rw [HL'.out]; omega)])
      go_wp2
      go_ret
      exact ⟨ret_bool HE.out.symm, HB.out⟩
 · have hd : ((n : Int) != (m : Int)) = true := by simp; omega
   have HE : Hid (decide (xs = ys) = false) := decide_eq_false fun e => by
    have h1 := HL.out;rw [e, HL'.out] at h1;omega
   go_enter Tryz.func25, Tryz.ntmps25
   go_wp2
   go_ret
   exact ⟨ret_bool HE.out.symm, Below.refl _ _⟩
end
end Go.Proofs.YtblhmdhfhaencaaGreat
