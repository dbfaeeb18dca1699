/-
 The document's answer to layer 17: whose own each block is, entries.
-/
import Derived.Test.YtblhmdhfhaencaaGreatApp1
import Derived.Test.YtblhmdhfhaencaaGreatRowG
import Derived.Test.YtblhmdhfhaencaaGreatTD
namespace Go.Proofs.YtblhmdhfhaencaaGreat
set_option linter.unusedSimpArgs false
set_option linter.unusedVariables false
set_option linter.unusedSectionVars false
set_option maxRecDepth 100000
set_option maxHeartbeats 40000000
section
open Go.RowKit
def ROwnPost (ts : List TermD) (l : List TileD) (n : Nat) (w : World) (e : Ending) (w' : World) : Prop :=
 ∃ v en, e = .returned (.tuple #[v, .int .i64 en]) ∧ Below w.heap.size w w' ∧ (fitsB ts = false → v = nilV ∧ en = 2) ∧ (fitsB ts = true → ownB l n = false → v = nilV ∧ en = 12) ∧
   (fitsB ts = true → ownB l n = true → en = 0 ∧ OwnI w' w.heap.size v (ownL l n))
theorem own17_any (pa : Option Addr) (pn pc : Nat) (ba : Option Addr) (bn bc : Nat) (bs : List BlkH) (a : Option Addr) (n c : Nat) (ls : List TileR) (w : World) (h : BlksOK w ba bn bs) (ht : TilesOK w a n ls) (hT : totL (tdOf ls) ≤ 1000000) :
  Calls Tryz.prog 38 #[funcV pa pn pc ba bn bc, .slice a n c] w (ROwnPost (tsOf bs) (tdOf ls) bn w) := by
 have hn := ht.1.2.1
 have hbn := h.1.2.1
 have HLN : Hid ((tdOf ls).length = n) := by rw [Hid, tdOf_len, ht.1.1]
 have HTL : Hid ((tsOf bs).length = bn) := by rw [Hid, tsOf_len, h.1.1]
 have H := Lib.hid h
 have HT := Lib.hid ht
 have HTOT := Lib.hid hT
 clear h ht hT
 go_enter Tryz.func38, Tryz.ntmps38
 go_upto_region 1 with (fail)
 obtain ⟨W, hW⟩ : ∃ W, W = w.alloc (funcO pa pn pc ba bn bc) := ⟨_, rfl⟩
 rw [← hW]
 have hk0 : W.heap[w.heap.size]? = some (funcO pa pn pc ba bn bc) := by rw [hW]; exact heap_alloc_new _ _
 have hB : Below w.heap.size w W := by rw [hW]; exact ext_alloc _ _
 have hWs : W.heap.size = w.heap.size + 1 := by rw [hW]; simp
 have HK := Lib.hid hk0
 have HB := Lib.hid hB
 clear hW hk0 hB
 cases hf : fitsB (tsOf bs) with
 | false =>
   have HF := Lib.hid hf;clear hf
   go_wp2_with (first
    | (refine wpList_load_row (o := ⟨some 11, .load 25 _, _, _, _, _⟩) rfl 25 _ rfl w.heap.size rfl 25 _ (0, 0) _ HK.out Tryz.underlying25 rfl size_func ?_)
    | (go_at_call 41
       refine (fits17_any pa pn pc ba bn bc bs W (H.out.ext HB.out)).mono ?_;rintro e w2 ⟨rfl, hb⟩;rw [HF.out];have HB2 := Lib.hid (ext_trans HB.out hb)
       clear hb))
   exact bodyPost_ret (v := .tuple #[nilV, .int .i64 2]) (by simp [results, Tryz.results38, go_sem, Act.put]) rfl ⟨_, _, rfl, HB2.out, fun _ => ⟨rfl, rfl⟩, (fun h => by rw [HF.out] at h; cases h), (fun h => by rw [HF.out] at h; cases h)⟩
 | true =>
   have HF := Lib.hid hf;have hbn2 : bn ≤ 200 := by rw [← HTL.out]; exact ((goodB_iff _).1 (fits_good hf)).1.2
   clear hf
   go_wp2_with (first
    | (refine wpList_load_row (o := ⟨some 11, .load 25 _, _, _, _, _⟩) rfl 25 _ rfl w.heap.size rfl 25 _ (0, 0) _ HK.out Tryz.underlying25 rfl size_func ?_)
    | (go_at_call 41
       refine (fits17_any pa pn pc ba bn bc bs W (H.out.ext HB.out)).mono ?_;rintro e w2 ⟨rfl, hb⟩;rw [HF.out];have HB2 := Lib.hid (ext_trans HB.out hb);have HK2 := Lib.hid (block_ext hb HK.out);have hW2 : w.heap.size + 1 ≤ w2.heap.size := by have := hb.size; omega
       clear hb))
   go_loopw [6, 7, 8, 9, 10] (fun s6 s7 _ _ _ wr => ∃ b : Nat, b ≤ bn ∧ s7 = .int .i64 (b : Int) ∧ Hid (∀ x, x < b → (homes (tdOf ls) x).length = 1) ∧ Hid (OwnI wr (w.heap.size + 1) s6 (ownL (tdOf ls) b)) ∧ Hid (wr.heap[w.heap.size]? = some (funcO pa pn pc ba bn bc)) ∧ Hid (Below w.heap.size w wr) ∧ w.heap.size + 1 ≤ wr.heap.size) (fun _ s7 _ _ _ _ => bn - (intOf s7).toNat)
   case atStart => exact ⟨0, by omega, by go_num, fun x hx => absurd hx (by omega), OwnI.nil _ _, HK2, HB2, hW2⟩
   case round =>
    obtain ⟨b, hb, rfl, HR, HO, HKb, HBb, hsb⟩ := hrel;clear HK HB HK2 HB2 hWs hW2;have kf := HKb.out;have k1 : wr.cell? ⟨w.heap.size, 1, none⟩ = some (.slice ba bn bc) := by rw [cell_of_row _ _ _ _ _ _ kf]; rfl
    clear kf;by_cases hlt : b < bn
    · have hlt' : (b : Int) < (bn : Int) := by omega
      obtain ⟨oa, oc, rfl⟩ := HO.out.form;go_wp2
      go_loopw [6, 8, 9, 10] (fun s6 s8 s9 _ wi => ∃ k : Nat, k ≤ n ∧ s9 = .int .i64 (k : Int) ∧ s8 = .int .i64 ((homesAt (tdOf ls) k 0 b).length : Nat) ∧ Hid (OwnI wi (w.heap.size + 1) s6 (ownL (tdOf ls) b ++ intsN (homesAt (tdOf ls) k 0 b))) ∧ Hid (wi.heap[w.heap.size]? = some (funcO pa pn pc ba bn bc)) ∧ Hid (Below w.heap.size w wi) ∧ w.heap.size + 1 ≤ wi.heap.size) (fun _ _ s9 _ _ => n - (intOf s9).toNat)
      case atStart => exact ⟨0, by omega, by go_num, by rw [homesAt_zero]; go_num, by rw [homesAt_zero]; simpa [Hid, intsN] using HO.out, HKb, HBb, hsb⟩
      case round =>
       obtain ⟨k, hk, rfl, rfl, HO1, HK1, HB1, hs1⟩ := hrel;clear HO HKb HBb k1 hsb;obtain ⟨X, hX⟩ : ∃ X, X = ownL (tdOf ls) b ++ intsN (homesAt (tdOf ls) k 0 b) := ⟨_, rfl⟩
       rw [← hX] at HO1;have HX := Lib.hid hX;clear hX;obtain ⟨va, vc, rfl⟩ := HO1.out.form;have hlen := homesAt_len (tdOf ls) k 0 b (by rw [HLN.out]; exact hk) (fun _ => rfl);have hto := HTOT.out;by_cases hkl : k < n
       · obtain ⟨t, b0, o0, hlk, hok, rfl, c0, c1, c2⟩ := (HT.out.ext HB1.out).cells hkl;have HTK : Hid (blkL (tdOf ls) k = t.d.blocks) := by rw [Hid, blkL, tdOf_at ls k t hlk]
         have htl : t.bn = t.d.blocks.length := hok.1.1.symm;have hkl' : (k : Int) < (n : Int) := by omega
         have hbl17 := hok.1.2.1;have HLK := Lib.hid hlk;clear hlk hok c0 c1 c2;go_wp2
         go_loopw [6, 8, 10] (fun s6 s8 s10 wi => ∃ i : Nat, i ≤ t.bn ∧ s10 = .int .i64 (i : Int) ∧ s8 = .int .i64 ((homesAt (tdOf ls) k i b).length : Nat) ∧ Hid (OwnI wi (w.heap.size + 1) s6 (ownL (tdOf ls) b ++ intsN (homesAt (tdOf ls) k i b))) ∧ Hid (wi.heap[w.heap.size]? = some (funcO pa pn pc ba bn bc)) ∧ Hid (Below w.heap.size w wi) ∧ w.heap.size + 1 ≤ wi.heap.size) (fun _ _ s10 _ => t.bn - (intOf s10).toNat)
         case atStart => exact ⟨0, by omega, by go_num, rfl, by rw [← HX.out]; exact HO1, HK1, HB1, hs1⟩
         case round =>
          obtain ⟨i, hi, rfl, rfl, HO2, HK2, HB2, hs2⟩ := hrel;clear HO1 HK1 HB1 hs1 hlen HX;obtain ⟨X, hX⟩ : ∃ X, X = ownL (tdOf ls) b ++ intsN (homesAt (tdOf ls) k i b) := ⟨_, rfl⟩
          rw [← hX] at HO2;have HX := Lib.hid hX;have HXL : Hid (X.length = b + (homesAt (tdOf ls) k i b).length) := by rw [Hid, hX, List.length_append, ownL_len]; simp [intsN]
          clear hX;obtain ⟨ua, uc, rfl⟩ := HO2.out.form;obtain ⟨t', b1, o1, hlk, hok, e0, c0, c1, c2⟩ := (HT.out.ext HB2.out).cells hkl;injection e0 with e0;injection e0 with e0 e1;subst e0 e1;rw [HLK.out] at hlk;injection hlk with hlk;subst hlk;have hlen2 := homesAt_len (tdOf ls) k i b (by rw [HLN.out]; omega) (fun e => by rw [HLN.out] at e; omega);clear c0 c1;by_cases hil : i < t.bn
          · obtain ⟨b2, o2, e2, hc2, hx1, hx2⟩ := hok.1.2.2 i hil;have hil' : (i : Int) < (t.bn : Int) := by omega
            have hxe : t.d.blocks[i]? = some (t.d.blocks.getD i 0) := by rw [List.getD_eq_getElem?_getD, List.getElem?_eq_getElem (by omega)]; rfl
            have HST := Lib.hid (homesAt_step (tdOf ls) k i (t.d.blocks.getD i 0) (by rw [HTK.out]; exact hxe) b);clear hxe hok;generalize t.ba = ba2 at *;subst e2;generalize t.d.blocks.getD i 0 = x at *;by_cases hxb : x = (b : Int)
            · subst hxb;have HST2 : Hid (homesAt (tdOf ls) k (i + 1) b = homesAt (tdOf ls) k i b ++ [k]) := by rw [Hid, HST.out, if_pos rfl]
              have hl5 : X.length ≤ 100000000 := by have := HXL.out; omega
              have HX2 : Hid (X ++ [(k : Int)] = ownL (tdOf ls) b ++ intsN (homesAt (tdOf ls) k (i + 1) b)) := by rw [Hid, HST2.out, HX.out]; simp [intsN]
              clear HST HX HXL;generalize homesAt (tdOf ls) k i b = L at *
              go_wp2_with (
               (at_builtin
                go_loud (
                 refine wpList_append1I rfl wr (.tmp 49) (.tmp 51) 22 rfl (w.heap.size + 1) _ 8 Tryz.underlying22 infoI rfl (.slice ua X.length uc) X rfl HO2.out (k : Int) (by unfold I64; omega) wr.heap.size rfl rfl hl5 (by omega) (by omega) ?_;intro g cap w5 ho5 hg5 _;have HO5 := Lib.hid ho5;have HK5 := Lib.hid (grown_row hg5 HK2.out (fun e => by have := (HO2.out.low e).1; omega));have HB5 := Lib.hid (HB2.out.grown hg5 HB2.out.size (fun q e => by have := (HO2.out.low e).1; omega));have hs5 : w.heap.size + 1 ≤ w5.heap.size := Nat.le_trans hs2 hg5.size
                 clear ho5 hg5)))
              go_roundw
              case rel => exact ⟨i + 1, by omega, by go_num, by rw [HST2.out]; simp, by rw [← HX2.out]; exact HO5, HK5, HB5, hs5⟩
              case measure => simp [intOf]; omega
            · have HST2 : Hid (homesAt (tdOf ls) k (i + 1) b = homesAt (tdOf ls) k i b) := by rw [Hid, HST.out, if_neg (fun e => hxb e.symm)]
              have dx : (x == (b : Int)) = false := by simpa using hxb
              clear HST hxb;generalize homesAt (tdOf ls) k i b = L at *;go_wp2
              go_roundw
              case rel => exact ⟨i + 1, by omega, by go_num, by rw [HST2.out], by rw [HST2.out, ← HX.out]; exact HO2, HK2, HB2, hs2⟩
              case measure => simp [intOf]; omega
          · obtain rfl : i = t.bn := by omega
            have HNX : Hid (homesAt (tdOf ls) k t.bn b = homesAt (tdOf ls) (k + 1) 0 b) := by rw [Hid, htl, ← HTK.out]; exact homesAt_next _ _ _
            clear hok;go_wp2
            go_roundw
            case rel => exact ⟨k + 1, by omega, by go_num, by rw [HNX.out], by rw [← HNX.out, ← HX.out]; exact HO2, HK2, HB2, hs2⟩
            case measure => simp [intOf]; omega
       · obtain rfl : k = n := by omega
         have HNE : Hid (homesAt (tdOf ls) k 0 b = homes (tdOf ls) b) := by rw [Hid, ← HLN.out]; exact homesAt_end _ _
         rw [HNE.out] at hlen HX ⊢;by_cases h1 : (homes (tdOf ls) b).length = 1
         · have d1 : ((((homes (tdOf ls) b).length : Nat) : Int) != 1) = false := by simp; omega
           have HR2 : Hid (∀ x, x < b + 1 → (homes (tdOf ls) x).length = 1) := fun x hx => by
            by_cases e : x = b
            · subst e; exact h1
            · exact HR.out x (by omega)
           have HS := Lib.hid (ownL_step h1);clear h1;generalize homes (tdOf ls) b = L at *;go_wp2
           go_roundw
           case rel => exact ⟨b + 1, by omega, by go_num, HR2, by rw [HS.out, ← HX.out]; exact HO1, HK1, HB1, hs1⟩
           case measure => simp [intOf]; omega
         · have d1 : ((((homes (tdOf ls) b).length : Nat) : Int) != 1) = true := by simp; omega
           have HE : Hid (ownB (tdOf ls) bn = false) := own_no1 (tdOf ls) bn b hlt h1;clear h1;generalize homes (tdOf ls) b = L at *;go_wp2;exact bodyPost_ret (v := .tuple #[nilV, .int .i64 12]) (by simp [results, Tryz.results38, go_sem, Act.put]) rfl ⟨_, _, rfl, HB1.out, (fun h => by rw [HF.out] at h; cases h), fun _ _ => ⟨rfl, rfl⟩, (fun _ h => by rw [HE.out] at h; cases h)⟩
    · obtain rfl : b = bn := by omega
      have HE : Hid (ownB (tdOf ls) b = true) := ownB_all HR.out;obtain ⟨oa, oc, rfl⟩ := HO.out.form;go_wp2;exact bodyPost_ret (v := .tuple #[.slice oa (ownL (tdOf ls) b).length oc, .int .i64 0]) (by simp [results, Tryz.results38, go_sem, Act.put]) rfl ⟨_, _, rfl, HBb.out, (fun h => by rw [HF.out] at h; cases h), (fun _ h => by rw [HE.out] at h; cases h), fun _ _ => ⟨rfl, HO.out.mono (by omega)⟩⟩
theorem entries17_any (pa : Option Addr) (pn pc : Nat) (ba : Option Addr) (bn bc : Nat) (bs : List BlkH) (f : Nat → Bool) (w : World) (h : BlksOK w ba bn bs) (hg : goodB (tsOf bs) = true) :
  Calls Tryz.prog 107 #[funcV pa pn pc ba bn bc, .agg (setA f)] w (IntsPost w (intsN (entriesS (tsOf bs) f))) := by
 have hbn : bn ≤ 200 := by have := ((goodB_iff _).1 hg).1.2; rw [tsOf_len, h.1.1] at this; exact this
 have HTL : Hid ((tsOf bs).length = bn) := by rw [Hid, tsOf_len, h.1.1]
 have HX : Hid (∀ k y, y ∈ nx (tsOf bs) k → y < bn) := fun k y hy => by have := good_nx hg hy; rw [HTL.out] at this; omega
 have H := Lib.hid h
 have HG := Lib.hid hg
 clear h hg
 go_enter Tryz.func107, Tryz.ntmps107
 go_upto_region 2 with (fail)
 obtain ⟨W, hW⟩ : ∃ W, W = ((w.alloc (funcO pa pn pc ba bn bc)).alloc (rsetO f)).alloc (.cells Tryz.zeroCells107 107) := ⟨_, rfl⟩
 rw [← hW]
 have ho : W.heap[w.heap.size]? = some (funcO pa pn pc ba bn bc) := by rw [hW, Below.heap_alloc _ _ _ (by simp <;> omega), Below.heap_alloc _ _ _ (by simp)]; exact heap_alloc_new _ _
 have hi : W.heap[w.heap.size + 1]? = some (rsetO f) := by rw [hW, Below.heap_alloc _ _ _ (by simp), heap_at _ _ _ (by simp)]
 have hr : W.heap[w.heap.size + 1 + 1]? = some (rsetO (entTo (tsOf bs) f 0 0)) := by rw [hW, heap_at _ _ _ (by simp), zero_rset, entTo_zero]
 have hB : Below w.heap.size w W := by rw [hW]; exact ((ext_alloc _ _).alloc (by simp) _).alloc (by simp; omega) _
 have hWs : w.heap.size + 1 + 1 + 1 ≤ W.heap.size := by rw [hW]; simp
 have HO := Lib.hid ho
 have HI := Lib.hid hi
 have HR := Lib.hid hr
 have HB := Lib.hid hB
 clear hW ho hi hr hB
 go_wp2
 go_loopw [6, 7, 8] (fun s6 _ _ wr => ∃ i : Nat, i ≤ bn ∧ s6 = .int .i64 (i : Int) ∧ Hid (wr.heap[w.heap.size]? = some (funcO pa pn pc ba bn bc)) ∧ Hid (wr.heap[w.heap.size + 1]? = some (rsetO f)) ∧ Hid (wr.heap[w.heap.size + 1 + 1]? = some (rsetO (entTo (tsOf bs) f i 0))) ∧ Hid (Below w.heap.size w wr)) (fun s6 _ _ _ => bn - (intOf s6).toNat)
 case atStart => exact ⟨0, by omega, by go_num, HO, HI, HR, HB⟩
 case round =>
  obtain ⟨i, hi, rfl, HO1, HI1, HR1, HB1⟩ := hrel;clear HO HI HR HB hWs;have kf := HO1.out;have k1 : wr.cell? ⟨w.heap.size, 1, none⟩ = some (.slice ba bn bc) := by rw [cell_of_row _ _ _ _ _ _ kf]; rfl
  clear kf;by_cases hlt : i < bn
  · have hlt' : (i : Int) < (bn : Int) := by omega
    have hsz := lt_of_heap HR1.out
    go_wp2_with (first
     | (refine wpList_load_row (o := ⟨some 16, .load 25 _, _, _, _, _⟩) rfl 25 _ rfl w.heap.size rfl 25 _ (0, 0) _ HO1.out Tryz.underlying25 rfl size_func ?_)
     | (go_at_call 96
        refine (to17_any pa pn pc ba bn bc bs i wr (H.out.ext HB1.out) hlt).mono ?_;rintro e w1 ⟨v, rfl, ho, hb⟩;rw [toD_nx HG.out] at ho;obtain ⟨va, vc, rfl⟩ := ho.form;have HNX := Lib.hid (ho.mono (show w.heap.size + 1 + 1 + 1 ≤ wr.heap.size from hsz));have HO2 := Lib.hid (block_ext hb HO1.out);have HI2 := Lib.hid (block_ext hb HI1.out);have HR2 := Lib.hid (block_ext hb HR1.out);have HB2 := Lib.hid (ext_trans HB1.out hb)
        clear ho hb k1))
    have hnl : (intsN (nx (tsOf bs) i)).length = (nx (tsOf bs) i).length := by simp [intsN]
    have hnl2 : (nx (tsOf bs) i).length ≤ 2 := by simp only [nx, List.length_map]; exact toD_len _
    rw [hnl];rw [hnl] at HNX;clear hnl HO1 HI1 HR1 HB1
    go_loopw [8] (fun s8 wi => ∃ k : Nat, k ≤ (nx (tsOf bs) i).length ∧ s8 = .int .i64 (k : Int) ∧ (f i = true → k = 0) ∧ Hid (OwnI wi (w.heap.size + 1 + 1 + 1) (.slice va (nx (tsOf bs) i).length vc) (intsN (nx (tsOf bs) i))) ∧ Hid (wi.heap[w.heap.size]? = some (funcO pa pn pc ba bn bc)) ∧ Hid (wi.heap[w.heap.size + 1]? = some (rsetO f)) ∧ Hid (wi.heap[w.heap.size + 1 + 1]? = some (rsetO (entTo (tsOf bs) f i k))) ∧ Hid (Below w.heap.size w wi)) (fun s8 _ => (nx (tsOf bs) i).length - (intOf s8).toNat)
    case atStart => exact ⟨0, by omega, by go_num, fun _ => rfl, HNX, HO2, HI2, HR2, HB2⟩
    case round =>
     obtain ⟨k, hk, rfl, hfk, HN, HO3, HI3, HR3, HB3⟩ := hrel;clear HNX HO2 HI2 HR2 HB2;have hci := rset_cell HI3.out i (by omega);by_cases hkl : k < (nx (tsOf bs) i).length
     · have hkl' : (k : Int) < ((nx (tsOf bs) i).length : Int) := by omega
       cases hfi : f i with
       | true =>
         obtain rfl := hfk hfi;rw [hfi] at hci;have HE : Hid (entTo (tsOf bs) f i 0 = entTo (tsOf bs) f (i + 1) 0) := entTo_in _ _ _ hfi;clear hfi hfk;go_wp2
         go_roundw
         case rel => exact ⟨i + 1, by omega, by go_num, HO3, HI3, by rw [← HE.out]; exact HR3, HB3⟩
         case measure => simp [intOf]; omega
       | false =>
         rw [hfi] at hci;have hyx : (nx (tsOf bs) i).getD k 0 ∈ nx (tsOf bs) i := by rw [List.getD_eq_getElem?_getD, List.getElem?_eq_getElem hkl]; exact List.getElem_mem _
         have hyb := HX.out i _ hyx;have hy : (nx (tsOf bs) i).getD k 0 < 200 := by omega
         obtain ⟨b3, o4, rfl, hcy, _⟩ := HN.out.ints.2.2 k hkl;have hey : (intsN (nx (tsOf bs) i)).getD k 0 = (((nx (tsOf bs) i).getD k 0 : Nat) : Int) := by simp [intsN, List.getD_eq_getElem?_getD, hkl]
         rw [hey] at hcy;have hcs := rset_cell HI3.out _ hy;have hcr := rset_cell HR3.out _ hy;have hfr := rset_free HR3.out ((nx (tsOf bs) i).getD k 0);have HFI := Lib.hid hfi;clear hey hyx hfi hfk;cases hfy : f ((nx (tsOf bs) i).getD k 0) with
         | true =>
           rw [hfy] at hcs;have hgr := grown_setCell wr (w.heap.size + 1 + 1) ((nx (tsOf bs) i).getD k 0) (.bool true);have HR4 := Lib.hid (rset_to (b := true) HR3.out hy (entTo_put (tsOf bs) f i k hkl HFI.out hfy));have HO4 := Lib.hid (grown_row hgr HO3.out (by simp; omega));have HI4 := Lib.hid (grown_row hgr HI3.out (by simp));have HB4 := Lib.hid (HB3.out.setCell (p := ⟨w.heap.size + 1 + 1, (nx (tsOf bs) i).getD k 0, none⟩) (by simp; omega) (.bool true));have HN4 := Lib.hid (HN.out.kept hgr (.inr (by simp only [Value.ownBlock, ne_eq, Option.some.injEq]; have := (HN.out.1.lt b3 rfl).1; omega)));clear hgr hfy HN HO3 HI3 HR3 HB3;generalize (nx (tsOf bs) i).getD k 0 = y at *;go_wp2
           go_roundw
           case rel => exact ⟨k + 1, by omega, by go_num, fun h => absurd h (by simp), HN4, HO4, HI4, HR4, HB4⟩
           case measure => simp [intOf]; omega
         | false =>
           rw [hfy] at hcs;have HR4 : Hid (wr.heap[w.heap.size + 1 + 1]? = some (rsetO (entTo (tsOf bs) f i (k + 1)))) := by rw [Hid, ← entTo_skip (tsOf bs) f i k hkl hfy]; exact HR3.out
           clear hfy hcr;generalize (nx (tsOf bs) i).getD k 0 = y at *;go_wp2
           go_roundw
           case rel => exact ⟨k + 1, by omega, by go_num, fun h => absurd h (by simp), HN, HO3, HI3, HR4, HB3⟩
           case measure => simp [intOf]; omega
     · have hk2 : k = (nx (tsOf bs) i).length := by omega
       have HE : Hid (entTo (tsOf bs) f i k = entTo (tsOf bs) f (i + 1) 0) := entTo_next _ _ _ _ (by omega);have hkl' : ¬ (k : Int) < ((nx (tsOf bs) i).length : Int) := by omega
       clear hfk;go_wp2
       go_roundw
       case rel => exact ⟨i + 1, by omega, by go_num, HO3, HI3, by rw [← HE.out]; exact HR3, HB3⟩
       case measure => simp [intOf]; omega
  · obtain rfl : i = bn := by omega
    have HE : Hid (listS (entTo (tsOf bs) f i 0) = entriesS (tsOf bs) f) := by rw [Hid, ← HTL.out]; exact entTo_end HG.out f
    have hsz := lt_of_heap HR1.out
    go_wp2_with (first
     | (refine wpList_load_row (o := ⟨some 42, .load 107 _, _, _, _, _⟩) rfl 107 _ rfl (w.heap.size + 1 + 1) rfl 107 _ (0, 0) _ HR1.out Tryz.underlying107 rfl (by rw [setA_size]; exact size_rset) ?_)
     | (go_at_call 76
        refine (list17_any (entTo (tsOf bs) f i 0) wr).mono ?_;rintro e w1 ⟨v, rfl, ho, hb⟩;rw [HE.out] at ho;have HL := Lib.hid (ho.mono (show w.heap.size ≤ wr.heap.size from HB1.out.size));have HB2 := Lib.hid (ext_trans HB1.out hb)
        clear ho hb))
    go_ret
    exact ⟨_, rfl, HL.out, HB2.out⟩
end

section
open Go.RowKit
theorem index_rset (w : World) (f : Nat → Bool) (b : Nat) (hb : b < 200) : (Instr.index 107 (.agg (setA f)) (.int .i64 (b : Int))).run Tryz.prog w = .ok (.bool (f b)) w := by
 have hz : (Go.sizeOf 4).run Tryz.prog w = .ok 1 w := by kernel_rfl
 have hb2 : (0 : Int) ≤ (b : Int) ∧ (b : Int) < ((200 : Nat) : Int) := by omega
 have h1 := part_bool (setA f) b _ w (setA_at f b hb)
 simp only [Instr.index, asIntOf, Sem.run_bind, Sem.run_pure, Result.andThen_ok, run_underlying (w := w) Tryz.underlying107, if_pos hb2, hz]
 simpa using h1
theorem equal_rset (w : World) (f g : Nat → Bool) : (Op.equalIn 10000 107 (.agg (setA f)) (.agg (setA g))).run Tryz.prog w = .ok (eqS f g) w := by
 have hi : ∃ i, Tryz.prog.info? 4 = some i := Option.isSome_iff_exists.1 (by kernel_rfl)
 obtain ⟨i, hi⟩ := hi
 have h1 : Tryz.prog.cellsOf 4 = 1 := by kernel_rfl
 rw [run_equalIn_array w 9999 _ _ Tryz.underlying107 hi, h1]
 exact eqItems_bool w f g _ _ _ (fun i hi => ⟨setA_at f i (List.mem_range.1 hi), setA_at g i (List.mem_range.1 hi)⟩)
theorem neq_rset (w : World) (f g : Nat → Bool) : (binOp .neq 107 (.agg (setA f)) (.agg (setA g))).run Tryz.prog w = .ok (.bool (!eqS f g)) w := by
 rw [run_neq_struct, equal_rset]
 rfl
theorem ringsB_yes {ts : List TermD} {bs : List Int} {f : Nat → Bool} (hc : Canon f) {i : Nat} (hi : i < bs.length) (h : walkF (nx ts) f (bs.getD i 0).toNat (bs.getD i 0).toNat = true) : ringsB ts bs f = true := by
 rw [ringsB, List.any_eq_true]
 exact ⟨bs.getD i 0, by rw [List.getD_eq_getElem?_getD, List.getElem?_eq_getElem hi]; exact List.getElem_mem _, by rw [ring_iff hc]; exact h⟩
theorem ringsB_no {ts : List TermD} {bs : List Int} {f : Nat → Bool} (hc : Canon f) (h : ∀ i, i < bs.length → walkF (nx ts) f (bs.getD i 0).toNat (bs.getD i 0).toNat = false) : ringsB ts bs f = false := by
 rw [ringsB, List.any_eq_false]
 intro x hx
 obtain ⟨i, hi, e⟩ := List.mem_iff_getElem.1 hx
 have := h i hi
 rw [List.getD_eq_getElem?_getD, List.getElem?_eq_getElem hi, Option.getD_some, e] at this
 rw [ring_iff hc, this]
 simp
theorem ring17_any (pa : Option Addr) (pn pc : Nat) (ba : Option Addr) (bn bc : Nat) (bs : List BlkH) (a : Option Addr) (n c : Nat) (xs : List Int) (f : Nat → Bool) (w : World) (h : BlksOK w ba bn bs) (hg : goodB (tsOf bs) = true) (hcf : Canon f) (hf : ∀ b, f b = true → b < bn) (hI : Ints w a n xs) (hxs : ∀ x ∈ xs, 0 ≤ x ∧ x < 200) :
  Calls Tryz.prog 166 #[funcV pa pn pc ba bn bc, .slice a n c, .agg (setA f)] w fun e w' => e = .returned (.bool (ringsB (tsOf bs) xs f)) ∧ Below w.heap.size w w' := by
 have HL := Lib.hid hI.1
 have hn := hI.2.1
 have H := Lib.hid h
 have HG := Lib.hid hg
 have HC := Lib.hid hcf
 have HF := Lib.hid hf
 have HI := Lib.hid hI
 have HXS := Lib.hid hxs
 clear h hg hcf hf hI hxs
 go_enter Tryz.func166, Tryz.ntmps166
 go_upto_region 1 with (fail)
 obtain ⟨W, hW⟩ : ∃ W, W = (w.alloc (funcO pa pn pc ba bn bc)).alloc (rsetO f) := ⟨_, rfl⟩
 rw [← hW]
 have ho : W.heap[w.heap.size]? = some (funcO pa pn pc ba bn bc) := by rw [hW, Below.heap_alloc _ _ _ (by simp)]; exact heap_alloc_new _ _
 have hi : W.heap[w.heap.size + 1]? = some (rsetO f) := by rw [hW, heap_at _ _ _ (by simp)]
 have hB : Below w.heap.size w W := by rw [hW]; exact (ext_alloc _ _).alloc (by simp) _
 have HO := Lib.hid ho
 have HS := Lib.hid hi
 have HB := Lib.hid hB
 clear hW ho hi hB
 go_wp2
 go_loopw [7] (fun s7 wr => ∃ i : Nat, i ≤ n ∧ s7 = .int .i64 (i : Int) ∧ Hid (∀ j, j < i → walkF (nx (tsOf bs)) f (xs.getD j 0).toNat (xs.getD j 0).toNat = false) ∧ Hid (Below W.heap.size W wr)) (fun s7 _ => n - (intOf s7).toNat)
 case atStart => exact ⟨0, by omega, by go_num, fun j hj => absurd hj (by omega), Below.refl _ _⟩
 case round =>
  obtain ⟨i, hi, rfl, HR, HBr⟩ := hrel;by_cases hlt : i < n
  · have hlt' : (i : Int) < (n : Int) := by omega
    obtain ⟨b, o, rfl, hc, _⟩ := (HI.out.ext (ext_trans HB.out HBr.out)).2.2 i hlt;have hil : i < xs.length := by rw [HL.out]; exact hlt
    have hx := HXS.out (xs.getD i 0) (by rw [List.getD_eq_getElem?_getD, List.getElem?_eq_getElem hil]; exact List.getElem_mem _);have HYES := Lib.hid (ringsB_yes (ts := tsOf bs) (bs := xs) HC.out hil);have HNO : Hid (walkF (nx (tsOf bs)) f (xs.getD i 0).toNat (xs.getD i 0).toNat = false → ∀ j, j < i + 1 → walkF (nx (tsOf bs)) f (xs.getD j 0).toNat (xs.getD j 0).toNat = false) := fun h j hj => by
     by_cases e : j = i
     · subst e; exact h
     · exact HR.out j (by omega)
    obtain ⟨x, hxe⟩ : ∃ x : Nat, xs.getD i 0 = (x : Int) := ⟨(xs.getD i 0).toNat, by omega⟩
    rw [hxe] at hc hx HYES HNO;have hx2 : x < 200 := by omega
    simp only [Int.toNat_natCast] at HYES HNO;have q0 : ∀ n' : ExtW wr, n'.val.cell? ⟨b, o + i, none⟩ = some (.int .i64 (x : Int)) := fun n' => cell_ext n'.ext hc;have qf : ∀ w', (∃ n : ExtW wr, w' = n.val) → w'.heap[w.heap.size]? = some (funcO pa pn pc ba bn bc) := fun w' ⟨n, e⟩ => by rw [e]; exact block_ext n.ext (block_ext HBr.out HO.out)
    have qs : ∀ w', (∃ n : ExtW wr, w' = n.val) → w'.heap[w.heap.size + 1]? = some (rsetO f) := fun w' ⟨n, e⟩ => by rw [e]; exact block_ext n.ext (block_ext HBr.out HS.out)
    have HBH : Hid (∀ n' : ExtW wr, Calls Tryz.prog 98 #[funcV pa pn pc ba bn bc, .int .i64 (x : Int), .agg (setA f)] n'.val fun e w'' => e = .returned (.agg (setA (walkF (nx (tsOf bs)) f x))) ∧ ∃ m : ExtW wr, w'' = m.val) := fun n' =>
     quiet_ext (behind17_any pa pn pc ba bn bc bs x f n'.val (H.out.ext (ext_trans (ext_trans HB.out HBr.out) n'.ext)) HG.out hx2 HC.out (HF.out x))
    have hix := fun w => index_rset w (walkF (nx (tsOf bs)) f x) x hx2;clear hc hxe hx HR;go_wp2;refine region_ext (by kernel_rfl) (by kernel_rfl) ?_
    repeat (first
     | go_big_quiet_skip
     | (refine wpQuiet_load_row (o := ⟨some 14, .load 25 _, _, _, _, _⟩) (by rfl) 25 _ rfl w.heap.size rfl 25 #[.slice pa pn pc, .slice ba bn bc] (0, 0) _ qf Tryz.underlying25 rfl size_func ?_; simp only [zJ,zG,zH,zI])
     | (refine wpQuiet_load_row (o := ⟨some 19, .load 107 _, _, _, _, _⟩) (by rfl) 107 _ rfl (w.heap.size + 1) rfl 107 _ (0, 0) _ qs Tryz.underlying107 rfl (by rw [setA_size]; exact size_rset) ?_; simp only [zJ,zG,zH,zI])
     | go_big_quiet_step (first
       | (go_at_call 98; exact HBH.out _)))
    refine wpQuiet_nil ?_;intro _ hw';obtain ⟨n', rfl⟩ := hw';have HB8 : Hid (Below W.heap.size W n'.val) := ext_trans HBr.out n'.ext;generalize n'.val = W8 at *;clear q0 qf qs HBH hix;cases hb : walkF (nx (tsOf bs)) f x x with
    | true =>
      have HE := Lib.hid (HYES.out hb);clear hb;go_wp2
      go_ret
      exact ⟨by rw [HE.out]; rfl, ext_trans HB.out HB8.out⟩
    | false =>
      have HR2 := Lib.hid (HNO.out hb);clear hb;go_wp2
      go_roundw
      case rel => exact ⟨i + 1, by omega, by go_num, HR2, HB8⟩
      case measure => simp [intOf]; omega
  · obtain rfl : i = n := by omega
    have HE : Hid (ringsB (tsOf bs) xs f = false) := ringsB_no HC.out (by rw [HL.out]; exact HR.out);go_wp2
    go_ret
    exact ⟨by rw [HE.out]; rfl, ext_trans HB.out HBr.out⟩
theorem tog_no {ts : List TermD} {s : Nat → Bool} (hs : Canon s) {i : Nat} (hi : i < (listS s).length) (h : eqS (walkF (nx ts) s ((listS s).getD i 0)) s = false) : togetherB ts s = false := by
 rw [together_all hs, List.all_eq_false]
 exact ⟨(listS s).getD i 0, by rw [List.getD_eq_getElem?_getD, List.getElem?_eq_getElem hi]; exact List.getElem_mem _, by rw [h]; simp⟩
theorem tog_yes {ts : List TermD} {s : Nat → Bool} (hs : Canon s) (h : ∀ i, i < (listS s).length → eqS (walkF (nx ts) s ((listS s).getD i 0)) s = true) : togetherB ts s = true := by
 rw [together_all hs, List.all_eq_true]
 intro x hx
 obtain ⟨i, hi, e⟩ := List.mem_iff_getElem.1 hx
 have := h i hi
 rwa [List.getD_eq_getElem?_getD, List.getElem?_eq_getElem hi, Option.getD_some, e] at this
theorem together17_any (pa : Option Addr) (pn pc : Nat) (ba : Option Addr) (bn bc : Nat) (bs : List BlkH) (f : Nat → Bool) (w : World) (h : BlksOK w ba bn bs) (hg : goodB (tsOf bs) = true) (hcf : Canon f) (hf : ∀ b, f b = true → b < bn) :
  Calls Tryz.prog 167 #[funcV pa pn pc ba bn bc, .agg (setA f)] w fun e w' => e = .returned (.bool (togetherB (tsOf bs) f)) ∧ Below w.heap.size w w' := by
 have H := Lib.hid h
 have HG := Lib.hid hg
 have HC := Lib.hid hcf
 have HF := Lib.hid hf
 have hll := listS_len f
 clear h hg hcf hf
 go_enter Tryz.func167, Tryz.ntmps167
 go_upto_region 1 with (fail)
 obtain ⟨W, hW⟩ : ∃ W, W = (w.alloc (funcO pa pn pc ba bn bc)).alloc (rsetO f) := ⟨_, rfl⟩
 rw [← hW]
 have ho : W.heap[w.heap.size]? = some (funcO pa pn pc ba bn bc) := by rw [hW, Below.heap_alloc _ _ _ (by simp)]; exact heap_alloc_new _ _
 have hi : W.heap[w.heap.size + 1]? = some (rsetO f) := by rw [hW, heap_at _ _ _ (by simp)]
 have hB : Below w.heap.size w W := by rw [hW]; exact (ext_alloc _ _).alloc (by simp) _
 have HO := Lib.hid ho
 have HS := Lib.hid hi
 have HB := Lib.hid hB
 clear hW ho hi hB
 go_wp2_with (first
  | (refine wpList_load_row (o := ⟨some 7, .load 107 _, _, _, _, _⟩) rfl 107 _ rfl (w.heap.size + 1) rfl 107 _ (0, 0) _ HS.out Tryz.underlying107 rfl (by rw [setA_size]; exact size_rset) ?_)
  | (go_at_call 76
     refine (list17_any f W).mono ?_;rintro e w1 ⟨v, rfl, ho, hb⟩;obtain ⟨va, vc, rfl⟩ := ho.form;have HL := Lib.hid ho.ints;have HB1 := Lib.hid (ext_trans HB.out hb);have HO1 := Lib.hid (block_ext hb HO.out);have HS1 := Lib.hid (block_ext hb HS.out)
     clear ho hb))
 have hnl : (intsN (listS f)).length = (listS f).length := by simp [intsN]
 rw [hnl]
 rw [hnl] at HL
 clear hnl HO HS HB
 go_loopw [6] (fun s6 wr => ∃ i : Nat, i ≤ (listS f).length ∧ s6 = .int .i64 (i : Int) ∧ Hid (∀ j, j < i → eqS (walkF (nx (tsOf bs)) f ((listS f).getD j 0)) f = true) ∧ Hid (Below w1.heap.size w1 wr)) (fun s6 _ => (listS f).length - (intOf s6).toNat)
 case atStart => exact ⟨0, by omega, by go_num, fun j hj => absurd hj (by omega), Below.refl _ _⟩
 case round =>
  obtain ⟨i, hi, rfl, HR, HBr⟩ := hrel;by_cases hlt : i < (listS f).length
  · have hlt' : (i : Int) < ((listS f).length : Int) := by omega
    obtain ⟨b, o, rfl, hc, _⟩ := (HL.out.ext HBr.out).2.2 i hlt;have hxe : (intsN (listS f)).getD i 0 = (((listS f).getD i 0 : Nat) : Int) := by simp [intsN, List.getD_eq_getElem?_getD, hlt]
    have hmem : (listS f).getD i 0 ∈ listS f := by rw [List.getD_eq_getElem?_getD, List.getElem?_eq_getElem hlt]; exact List.getElem_mem _
    have hfx := (mem_listS HC.out _).1 hmem;have hx2 := HC.out _ hfx;have HYES := Lib.hid (tog_no (ts := tsOf bs) HC.out hlt);have HNO : Hid (eqS (walkF (nx (tsOf bs)) f ((listS f).getD i 0)) f = true → ∀ j, j < i + 1 → eqS (walkF (nx (tsOf bs)) f ((listS f).getD j 0)) f = true) := fun h j hj => by
     by_cases e : j = i
     · subst e; exact h
     · exact HR.out j (by omega)
    rw [hxe] at hc;generalize (listS f).getD i 0 = x at *;have q0 : ∀ n' : ExtW wr, n'.val.cell? ⟨b, o + i, none⟩ = some (.int .i64 (x : Int)) := fun n' => cell_ext n'.ext hc;have qf : ∀ w', (∃ n : ExtW wr, w' = n.val) → w'.heap[w.heap.size]? = some (funcO pa pn pc ba bn bc) := fun w' ⟨n, e⟩ => by rw [e]; exact block_ext n.ext (block_ext HBr.out HO1.out)
    have qs : ∀ w', (∃ n : ExtW wr, w' = n.val) → w'.heap[w.heap.size + 1]? = some (rsetO f) := fun w' ⟨n, e⟩ => by rw [e]; exact block_ext n.ext (block_ext HBr.out HS1.out)
    have HBH : Hid (∀ n' : ExtW wr, Calls Tryz.prog 98 #[funcV pa pn pc ba bn bc, .int .i64 (x : Int), .agg (setA f)] n'.val fun e w'' => e = .returned (.agg (setA (walkF (nx (tsOf bs)) f x))) ∧ ∃ m : ExtW wr, w'' = m.val) := fun n' =>
     quiet_ext (behind17_any pa pn pc ba bn bc bs x f n'.val (H.out.ext (ext_trans (ext_trans HB1.out HBr.out) n'.ext)) HG.out hx2 HC.out (HF.out x))
    have hne := fun w => neq_rset w (walkF (nx (tsOf bs)) f x) f;clear hc hxe hmem hfx HR;go_wp2;refine region_ext (by kernel_rfl) (by kernel_rfl) ?_
    repeat (first
     | go_big_quiet_skip
     | (refine wpQuiet_load_row (o := ⟨some 15, .load 25 _, _, _, _, _⟩) (by rfl) 25 _ rfl w.heap.size rfl 25 #[.slice pa pn pc, .slice ba bn bc] (0, 0) _ qf Tryz.underlying25 rfl size_func ?_; simp only [zJ,zG,zH,zI])
     | (refine wpQuiet_load_row (o := ⟨some 20, .load 107 _, _, _, _, _⟩) (by rfl) 107 _ rfl (w.heap.size + 1) rfl 107 _ (0, 0) _ qs Tryz.underlying107 rfl (by rw [setA_size]; exact size_rset) ?_; simp only [zJ,zG,zH,zI])
     | (refine wpQuiet_load_row (o := ⟨some 22, .load 107 _, _, _, _, _⟩) (by rfl) 107 _ rfl (w.heap.size + 1) rfl 107 _ (0, 0) _ qs Tryz.underlying107 rfl (by rw [setA_size]; exact size_rset) ?_; simp only [zJ,zG,zH,zI])
     | go_big_quiet_step (first
       | (go_at_call 98; exact HBH.out _)))
    refine wpQuiet_nil ?_;intro _ hw';obtain ⟨n', rfl⟩ := hw';have HB8 : Hid (Below w1.heap.size w1 n'.val) := ext_trans HBr.out n'.ext;generalize n'.val = W8 at *;clear q0 qf qs HBH hne;cases hb : eqS (walkF (nx (tsOf bs)) f x) f with
    | false =>
      have HE := Lib.hid (HYES.out hb);clear hb;go_wp2
      go_ret
      exact ⟨by rw [HE.out]; rfl, ext_trans HB1.out HB8.out⟩
    | true =>
      have HR2 := Lib.hid (HNO.out hb);clear hb;go_wp2
      go_roundw
      case rel => exact ⟨i + 1, by omega, by go_num, HR2, HB8⟩
      case measure => simp [intOf]; omega
  · obtain rfl : i = (listS f).length := by omega
    have HE : Hid (togetherB (tsOf bs) f = true) := tog_yes HC.out HR.out;go_wp2
    go_ret
    exact ⟨by rw [HE.out]; rfl, ext_trans HB1.out HBr.out⟩
end

section
open Go.RowKit
section
variable {P : Program} {Q : Exit → Act → World → Prop}
theorem wpList_appendI {ops : Array Oper} {rest : List Oper} {o : Oper} {a : Act} (w : World) (hgd : o.guard = none) (s x : Operand) (t : TypeId) (ho : o.op = .call { callee := .builtin .append, args := #[s, x], argTypes := #[t, t] })
  (base : Nat) (z : Value) (bytes : Nat) (ht : P.underlying t = some (.slice 3)) (hinfo : (P.info? 3).map (fun i => (i.zero, i.size, i.bytes)) = some (some z, 1, bytes)) (hzs : z.cells.size = 1) (hb8 : bytes ≤ 16)
  (v : Value) (xs : List Int) (hs : a.eval s = v) (hown : OwnI w base v xs) (A : Option Addr) (m c : Nat) (hx : a.eval x = .slice A m c) (ys : List Int) (hy : Ints w A m ys) (hlen : xs.length + ys.length ≤ 10000000) (hbase : base ≤ w.heap.size)
  (h : ∀ v' w', OwnI w' base v' (xs ++ ys) → w.grownBy w' v.ownBlock → (v'.ownBlock = v.ownBlock ∨ v'.ownBlock = some w.heap.size) → wpList P ops Q rest (a.put o.dst v') w') :
  wpList P ops Q (o :: rest) a w := by
 have hm : ys.length = m := hy.1
 refine wpList_appendR w hgd s x t 3 ho base z 1 bytes ht hinfo hzs (by omega) v xs.length (intVals xs) hs hown.1 A m c hx (intVals ys) (by simp [intVals, hm]) (fun j u hu => ?_) (intVals_one ys) (by simp only [maxLen]; omega) (by
  have : (xs.length + m) * bytes ≤ (xs.length + m) * 16 := Nat.mul_le_mul_left _ hb8
  omega) hbase fun v' w' h1 h2 h3 => h v' w' ⟨?_, fun q hq => ?_, by simp; omega⟩ h2 h3
 · have hj : j < ys.length := by have := (List.getElem?_eq_some_iff.1 hu).1; simpa [intVals] using this
   obtain ⟨b, o, e, hc, _⟩ := hy.2.2 j (by omega);refine ⟨⟨b, o, none⟩, e, ?_⟩;rw [addr_add, hc, ← hu];simp [intVals, List.getD_eq_getElem?_getD, hj]
 · have e : intVals (xs ++ ys) = intVals xs ++ intVals ys := by simp [intVals]
   rw [e, List.length_append, hm];exact h1
 · rcases List.mem_append.1 hq with hq | hq
   · exact hown.2.1 q hq
   · obtain ⟨j, hj, e⟩ := List.mem_iff_getElem.1 hq;obtain ⟨_, _, _, _, hw⟩ := hy.2.2 j (by omega);rw [List.getD_eq_getElem?_getD, List.getElem?_eq_getElem hj, e] at hw;exact hw
end
theorem all17_any (a : Option Addr) (n c : Nat) (ls : List TileR) (hT : totL (tdOf ls) ≤ 1000000) (hP : parentsB (tdOf ls) = true) : ∀ (f k : Nat) (w : World), TilesOK w a n ls → k < n → n - k ≤ f →
  Calls Tryz.prog 105 #[.slice a n c, .int .i64 (k : Int)] w (IntsPost w (rawI (tdOf ls) f k)) := by
 intro f
 induction f with
 | zero => intro k w h hk hf; omega
 | succ f ih =>
   intro k w h hk hf;have hn := h.1.2.1;have HLL : Hid ((tdOf ls).length = n) := by rw [Hid, tdOf_len, h.1.1]
   have H := Lib.hid h;have HP := Lib.hid hP;have IH := Lib.hid ih;clear h ih;obtain ⟨t, b, o, hlk, hok, rfl, c0, c1, c2⟩ := (H.out.ext (ext_alloc w (.cells #[] 3))).cells hk;have HTK : Hid (blkL (tdOf ls) k = t.d.blocks) := by rw [Hid, blkL, tdOf_at ls k t hlk]
   have HOK := Lib.hid hok.1;have hbl := blkL_le (tdOf ls) k;rw [HTK.out] at hbl;have hk2 : (k : Int) < (n : Int) := by omega
   clear hlk hok
   go_enter Tryz.func105, Tryz.ntmps105
   go_wp2_with (
    (at_builtin
     go_loud (
      refine wpList_appendI _ rfl (.tmp 7) (.tmp 12) 22 rfl w.heap.size _ 8 Tryz.underlying22 infoI rfl (by omega) _ [] rfl (ownI_lit (W := w) (xs := []) rfl _ (Nat.le_refl _) (fun z hz => by cases hz) (by simp)) t.ba t.bn t.bc rfl t.d.blocks HOK.out (by simp; omega) (by simp) ?_;intro v1 w1 ho1 hg1 _;have HO1 : Hid (OwnI w1 w.heap.size v1 t.d.blocks) := ho1;have HB1 : Hid (Below w.heap.size w w1) := (ext_alloc w _).grown hg1 (by simp) (fun q e => by have e2 : some w.heap.size = some q := e; injection e2 with e2; omega)
      clear ho1 hg1 c0 c1 c2)))
   go_loopw [5, 6] (fun s5 s6 wr => ∃ i : Nat, k + 1 ≤ i ∧ i ≤ n ∧ s6 = .int .i64 (i : Int) ∧ Hid (OwnI wr w.heap.size s5 (blkL (tdOf ls) k ++ (chilTo (tdOf ls) k i).flatMap (rawI (tdOf ls) f))) ∧ Hid (Below w.heap.size w wr)) (fun _ s6 _ => n - (intOf s6).toNat)
   case atStart => exact ⟨k + 1, by omega, by omega, by go_num, by rw [Hid, chilTo_zero, HTK.out]; simpa using HO1.out, HB1⟩
   case round =>
    obtain ⟨i, hi1, hi2, rfl, HO, HB⟩ := hrel;obtain ⟨va, vc, rfl⟩ := HO.out.form;have hlen := rawI_part HP.out (k := k) (m := i) (by rw [HLL.out]; omega) (by rw [HLL.out]; omega) f (by rw [HLL.out]; omega);have HST := Lib.hid (chilTo_step (tdOf ls) k i);clear HO1 HB1;by_cases hlt : i < n
    · obtain ⟨t2, b2, o2, hlk, _, e2, d0, d1, d2⟩ := (H.out.ext HB.out).cells hlt;injection e2 with e2;injection e2 with e2 e3;subst e2 e3;have htd : parL (tdOf ls) i = t2.d.parent := by rw [parL, tdOf_at ls i t2 hlk]
      have hlt' : (i : Int) < (n : Int) := by omega
      have hki : decide (k < i) = true := by simp; omega
      have hlen2 := rawI_part HP.out (k := k) (m := i + 1) (by rw [HLL.out]; omega) (by rw [HLL.out]; omega) f (by rw [HLL.out]; omega);rw [hki, htd, Bool.true_and] at HST;clear htd hlk d0 d2 hki;cases hb : (t2.d.parent == (k : Int)) with
      | true =>
        have HST2 : Hid ((chilTo (tdOf ls) k (i + 1)).flatMap (rawI (tdOf ls) f) = (chilTo (tdOf ls) k i).flatMap (rawI (tdOf ls) f) ++ rawI (tdOf ls) f i) := by rw [Hid, HST.out, hb, if_pos rfl, List.flatMap_append]; simp
        rw [HST2.out, ← List.append_assoc] at hlen2;clear HST;generalize hLL : blkL (tdOf ls) k ++ (chilTo (tdOf ls) k i).flatMap (rawI (tdOf ls) f) = L at *;have HLE := Lib.hid hLL;have hl3 : L.length + (rawI (tdOf ls) f i).length ≤ 10000000 := by rw [List.length_append] at hlen2; omega
        clear hLL hlen2
        go_wp2_with (first
         | (go_at_call 105
            refine (IH.out i wr (H.out.ext HB.out) hlt (by omega)).mono ?_;rintro e w2 ⟨v2, rfl, ho, hb2⟩;obtain ⟨ua, uc, rfl⟩ := ho.form;have HV2 := Lib.hid ho.ints;have HO2 := Lib.hid (HO.out.ext hb2);have HB2 := Lib.hid (ext_trans HB.out hb2)
            clear ho hb2 d1)
         | (at_builtin
            refine wpList_appendI w2 rfl (.tmp 29) (.tmp 32) 22 rfl w.heap.size _ 8 Tryz.underlying22 infoI rfl (by omega) _ L rfl HO2.out ua _ uc rfl (rawI (tdOf ls) f i) HV2.out hl3 HB2.out.size ?_;intro v3 w3 ho3 hg3 _;have HO3 := Lib.hid ho3;have HB3 : Hid (Below w.heap.size w w3) := HB2.out.grown hg3 HB2.out.size (fun q e => (HO2.out.1.lt q e).1)
            clear ho3 hg3))
        go_roundw
        case rel => exact ⟨i + 1, by omega, by omega, by go_num, by rw [HST2.out, ← List.append_assoc, HLE.out]; exact HO3, HB3⟩
        case measure => simp [intOf]; omega
      | false =>
        have HST2 : Hid (chilTo (tdOf ls) k (i + 1) = chilTo (tdOf ls) k i) := by rw [Hid, HST.out, hb]; simp
        clear HST hlen2;go_wp2
        go_roundw
        case rel => exact ⟨i + 1, by omega, by omega, by go_num, by rw [HST2.out]; exact HO, HB⟩
        case measure => simp [intOf]; omega
    · obtain rfl : i = n := by omega
      have HE : Hid (rawI (tdOf ls) (f + 1) k = blkL (tdOf ls) k ++ (chilTo (tdOf ls) k i).flatMap (rawI (tdOf ls) f)) := by rw [Hid, rawI_step, HLL.out]
      go_wp2
      go_ret
      exact ⟨_, rfl, by rw [HE.out]; exact HO.out, HB.out⟩
def abB (S : List Int) (p : Nat) (x : Int) : Prop := p = 0 ∨ S.getD (p - 1) 0 < x
def bestOK (R S : List Int) (p j : Nat) (b : Int) : Prop := (b = -1 ∧ ∀ i, i < j → ¬ abB S p (R.getD i 0)) ∨ ∃ bn : Nat, b = bn ∧ bn < j ∧ abB S p (R.getD bn 0) ∧ ∀ i, i < j → abB S p (R.getD i 0) → R.getD bn 0 ≤ R.getD i 0
theorem bestOK.start (R S : List Int) (p : Nat) : bestOK R S p 0 (-1) := .inl ⟨rfl, fun i hi => absurd hi (by omega)⟩
theorem bestOK.skip {R S : List Int} {p j : Nat} {b : Int} (h : bestOK R S p j b) (hn : ¬ abB S p (R.getD j 0)) : bestOK R S p (j + 1) b := by
 have key : ∀ i, i < j + 1 → i < j ∨ i = j := fun i hi => by omega
 rcases h with ⟨h1, h2⟩ | ⟨bn, h1, h2, h3, h4⟩
 · exact .inl ⟨h1, fun i hi => (key i hi).elim (h2 i) fun e => e ▸ hn⟩
 · exact .inr ⟨bn, h1, by omega, h3, fun i hi ha => (key i hi).elim (fun e => h4 i e ha) fun e => absurd (e ▸ ha) hn⟩
theorem bestOK.keep {R S : List Int} {p j : Nat} {bn : Nat} (h : bestOK R S p j (bn : Int)) (hn : R.getD bn 0 ≤ R.getD j 0) : bestOK R S p (j + 1) (bn : Int) := by
 rcases h with ⟨h1, _⟩ | ⟨b2, h1, h2, h3, h4⟩
 · omega
 · obtain rfl : bn = b2 := by omega
   refine .inr ⟨bn, rfl, by omega, h3, fun i hi ha => ?_⟩;by_cases e : i = j
   · rw [e]; exact hn
   · exact h4 i (by omega) ha
theorem bestOK.take {R S : List Int} {p j : Nat} {b : Int} (h : bestOK R S p j b) (ha : abB S p (R.getD j 0)) (hn : ∀ bn : Nat, b = bn → R.getD j 0 ≤ R.getD bn 0) : bestOK R S p (j + 1) (j : Int) := by
 refine .inr ⟨j, rfl, by omega, ha, fun i hi hai => ?_⟩
 by_cases e : i = j
 · rw [e]; exact Int.le_refl _
 · rcases h with ⟨_, h2⟩ | ⟨bn, h1, h2, h3, h4⟩
   · exact absurd hai (h2 i (by omega))
   · exact Int.le_trans (hn bn h1) (h4 i (by omega) hai)
theorem getD_in {L : List Int} {i : Nat} (h : i < L.length) : L.getD i 0 ∈ L := by rw [List.getD_eq_getElem?_getD, List.getElem?_eq_getElem h]; exact List.getElem_mem _
theorem getD_of {L : List Int} {x : Int} (h : x ∈ L) : ∃ i, i < L.length ∧ L.getD i 0 = x := by
 obtain ⟨i, hi, e⟩ := List.mem_iff_getElem.1 h
 exact ⟨i, hi, by rw [List.getD_eq_getElem?_getD, List.getElem?_eq_getElem hi, e]; rfl⟩
theorem getD_lt {S : List Int} (hs : S.Pairwise (· < ·)) {i j : Nat} (hij : i < j) (hj : j < S.length) : S.getD i 0 < S.getD j 0 := by
 have := List.pairwise_iff_getElem.1 hs i j (by omega) hj hij
 simpa [List.getD_eq_getElem?_getD, show i < S.length by omega, hj] using this
section
variable {R S : List Int} (hs : S.Pairwise (· < ·)) (hm : ∀ x, x ∈ S ↔ x ∈ R)
include hs hm
theorem best_none {p : Nat} (hp : p ≤ S.length) (h : bestOK R S p R.length (-1)) : p = S.length := by
 apply Classical.byContradiction
 intro hne
 have hlt : p < S.length := by omega
 obtain ⟨i, hi, e⟩ := getD_of ((hm _).1 (getD_in hlt))
 have ha : abB S p (R.getD i 0) := by
  rw [e];by_cases h0 : p = 0
  · exact .inl h0
  · exact .inr (getD_lt hs (by omega) hlt)
 rcases h with ⟨_, h2⟩ | ⟨bn, h1, _⟩
 · exact h2 i hi ha
 · omega
theorem best_some {p bn : Nat} (hp : p ≤ S.length) (h : bestOK R S p R.length (bn : Int)) : p < S.length ∧ R.getD bn 0 = S.getD p 0 ∧ bn < R.length := by
 rcases h with ⟨h1, _⟩ | ⟨b2, h1, h2, h3, h4⟩
 · omega
 · obtain rfl : bn = b2 := by omega
   obtain ⟨q, hq, e⟩ := getD_of ((hm _).2 (getD_in h2));have hpq : p ≤ q := by
    rcases h3 with h3 | h3
    · omega
    · rw [← e] at h3;apply Classical.byContradiction;intro hlt;by_cases e2 : q = p - 1
      · rw [e2] at h3; omega
      · have := getD_lt hs (show q < p - 1 by omega) (by omega); omega
   have hlt : p < S.length := by omega
   obtain ⟨i, hi, e2⟩ := getD_of ((hm _).1 (getD_in hlt));have ha : abB S p (R.getD i 0) := by
    rw [e2];by_cases h0 : p = 0
    · exact .inl h0
    · exact .inr (getD_lt hs (by omega) hlt)
   have hle := h4 i hi ha;rw [e2, ← e] at hle;have hqp : q = p := by
    apply Classical.byContradiction;intro hne;have := getD_lt hs (show p < q by omega) hq;omega
   rw [← e, hqp];exact ⟨hlt, rfl, h2⟩
end
theorem sub_len : ∀ {S R : List Int}, S.Nodup → (∀ x ∈ S, x ∈ R) → S.length ≤ R.length
 | [], _, _, _ => Nat.zero_le _
 | x :: S, R, hn, h => by
   obtain ⟨h1, h2⟩ := List.nodup_cons.1 hn;have hx := h x (by simp);have := sub_len (R := R.erase x) h2 fun y hy => (List.mem_erase_of_ne (fun e => h1 (by rw [← e]; exact hy))).2 (h y (by simp [hy]));rw [List.length_erase_of_mem hx] at this;have := List.length_pos_of_mem hx;simp only [List.length_cons];omega
theorem take_next {S : List Int} {p : Nat} (hp : p < S.length) : S.take (p + 1) = S.take p ++ [S.getD p 0] := by
 rw [List.take_add_one, List.getElem?_eq_getElem hp]
 simp [List.getD_eq_getElem?_getD, hp]
theorem all17T_any (a : Option Addr) (n c : Nat) (ls : List TileR) (k : Int) (w : World) (h : TilesOK w a n ls) (hk : I64 k) (hT : totL (tdOf ls) ≤ 1000000) :
  Calls Tryz.prog 45 #[.slice a n c, .int .i64 k] w (IntsPost w (allL (tdOf ls) k)) := by
 have hn := h.1.2.1
 have HL := Lib.hid h.1.1
 have H := Lib.hid h
 have HTOT := Lib.hid hT
 obtain ⟨hk1, hk2⟩ := hk
 clear h
 by_cases hr : 0 ≤ k ∧ k < n
 rotate_left
 · have HE : Hid (allL (tdOf ls) k = []) := by
    rw [Hid, allL, if_neg];rw [tdOf_len, HL.out];exact fun h => hr ⟨h.1, h.2.1⟩
   by_cases h0 : k < 0
   all_goals
    go_enter Tryz.func45, Tryz.ntmps45
    go_wp2
    go_ret
    rw [HE.out];exact ⟨_, rfl, OwnI.nil _ _, Below.refl _ _⟩
 obtain ⟨hr1, hr2⟩ := hr
 have hr3 : ¬ k < 0 := by omega
 obtain ⟨kn, rfl⟩ : ∃ kn : Nat, k = (kn : Int) := ⟨k.toNat, by omega⟩
 by_cases hp : parentsB (tdOf ls) = true
 rotate_left
 · have HE : Hid (allL (tdOf ls) (kn : Int) = []) := by
    rw [Hid, allL, if_neg];exact fun h => hp h.2.2
   have hp' : parentsB (tdOf ls) = false := by simpa using hp
   have HP := Lib.hid hp';clear hp hp'
   go_enter Tryz.func45, Tryz.ntmps45
   go_wp2_with (go_at_call 103; refine (parents17_any a n c ls w H.out).mono ?_; rintro e w1 ⟨rfl, rfl⟩; rw [HP.out])
   go_ret
   rw [HE.out];exact ⟨_, rfl, OwnI.nil _ _, Below.refl _ _⟩
 have HP := Lib.hid hp
 have hkl : kn < (tdOf ls).length := by rw [tdOf_len, HL.out]; omega
 have HEA : Hid (allL (tdOf ls) (kn : Int) = sortD (rawL (tdOf ls) kn (tdOf ls).length)) := by
  rw [Hid, allL, if_pos ⟨by omega, by omega, hp⟩, Int.toNat_natCast]
 have HS : Hid ((allL (tdOf ls) (kn : Int)).Pairwise (· < ·)) := by rw [Hid, HEA.out]; exact sorted_sortD _
 have HM : Hid (∀ x, x ∈ allL (tdOf ls) (kn : Int) ↔ x ∈ rawI (tdOf ls) n kn) := fun x => by
  rw [HEA.out, mem_sortD, mem_rawI hp hkl n (by rw [tdOf_len, HL.out]; omega)]
 have hRL : (rawI (tdOf ls) n kn).length ≤ 1000000 := Nat.le_trans (rawI_len hp hkl n (by rw [tdOf_len, HL.out]; omega)) hT
 have hSL : (allL (tdOf ls) (kn : Int)).length ≤ (rawI (tdOf ls) n kn).length := by
  refine sub_len (HS.out.imp fun h e => by omega) fun x hx => (HM.out x).1 hx
 clear hp hkl
 go_enter Tryz.func45, Tryz.ntmps45
 go_wp2_with (first
  | (go_at_call 103
     refine (parents17_any a n c ls w H.out).mono ?_;rintro e w1 ⟨rfl, rfl⟩
     rw [HP.out])
  | (go_at_call 105
     refine (all17_any a n c ls HTOT.out HP.out n kn w H.out (by omega) (by omega)).mono ?_;rintro e w1 ⟨v, rfl, ho, hb⟩;obtain ⟨ra, rc, rfl⟩ := ho.form;have HR1 := Lib.hid ho;have HB1 := Lib.hid hb
     clear ho hb))
 have HRL : Hid (∀ q, (Value.slice ra (rawI (tdOf ls) n kn).length rc).ownBlock = some q → q < w1.heap.size) := fun q e => (HR1.out.1.lt q e).2
 have hs1 := HB1.out.size
 clear HEA
 generalize allL (tdOf ls) (kn : Int) = S at *
 generalize rawI (tdOf ls) n kn = R at *
 go_loopg [5, 7, 8, 9] (S.length + 1) (fun gg s5 _ _ _ wr => ∃ p : Nat, p ≤ S.length ∧ S.length + 1 ≤ gg + p ∧ Hid (OwnI wr w1.heap.size s5 (S.take p)) ∧ Hid (OwnI wr w.heap.size (.slice ra R.length rc) R) ∧ Hid (Below w.heap.size w wr) ∧ w1.heap.size ≤ wr.heap.size)
 case atStart => exact ⟨0, by omega, by omega, OwnI.nil _ _, HR1, HB1, Nat.le_refl _⟩
 case round =>
  obtain ⟨p, hp, hgg, HO, HR, HB, hsw⟩ := hrel;clear HR1 HB1;obtain ⟨oa, oc, hov⟩ := HO.out.form;have htl : (S.take p).length = p := List.length_take_of_le hp;rw [htl] at hov;subst hov;obtain ⟨wo, rfl⟩ : ∃ wo : World, wo = wr := ⟨_, rfl⟩
  have hpr : (p : Int) ≤ (R.length : Int) := by omega
  have HRI := Lib.hid HR.out.ints;have HOI : Hid (Ints wo oa p (S.take p)) := by have h1 := HO.out.ints; exact h1
  go_wp2
  go_loopw [7, 8, 9] (fun s7 s8 _ wi => ∃ (j q : Nat) (b : Int), j ≤ R.length ∧ s8 = .int .i64 (j : Int) ∧ s7 = .int .i64 b ∧ -1 ≤ b ∧ b < j ∧ Hid (bestOK R S p j b) ∧ wi = wo.drewN q) (fun _ s8 _ _ => R.length - (intOf s8).toNat)
  case atStart => exact ⟨0, 0, -1, by omega, rfl, rfl, by omega, by omega, bestOK.start R S p, rfl⟩
  case round =>
   obtain ⟨j, q, b, hj, rfl, rfl, hb0, hb1, HBO, rfl⟩ := hrel;by_cases hjl : j < R.length
   · obtain ⟨b1, o1, e1, hc1, hx1, hx2⟩ := HRI.out.2.2 j hjl;have hjl' : (j : Int) < (R.length : Int) := by omega
     by_cases hp0 : p = 0
     · -- all are above
       have HA : Hid (abB S p (R.getD j 0)) := .inl hp0;have hpz : ((p : Int) == 0) = true := by simp [hp0]
       subst e1;clear hp0;by_cases hbn : b < 0
       · have HN : Hid (bestOK R S p (j + 1) (j : Int)) := HBO.out.take HA.out (fun bn e => by omega);generalize R.getD j 0 = x at *;go_wp2
         go_quiet (fail)
         go_wp2
         go_quiet (fail)
         go_wp2
         go_roundw
         case rel => exact ⟨j + 1, _, j, by omega, by go_num, by go_num, by omega, by omega, HN, rfl⟩
         case measure => simp [intOf]; omega
       · obtain ⟨bn, rfl⟩ : ∃ bn : Nat, b = bn := ⟨b.toNat, by omega⟩
         obtain ⟨b2, o2, e2, hc2, _⟩ := HRI.out.2.2 bn (by omega);injection e2 with e2;injection e2 with e2 e3;subst e2 e3;have hbl : (bn : Int) < (R.length : Int) := by omega
         by_cases hxy : R.getD j 0 < R.getD bn 0
         · have HN : Hid (bestOK R S p (j + 1) (j : Int)) := HBO.out.take HA.out (fun b3 e => by have e3 : b3 = bn := (by omega); rw [e3]; omega);generalize R.getD j 0 = x at *;generalize R.getD bn 0 = y at *;have dxy : decide (x < y) = true := by simp; omega
           go_wp2
           go_quiet (fail)
           go_wp2
           go_quiet (fail)
           go_wp2
           go_roundw
           case rel => exact ⟨j + 1, _, j, by omega, by go_num, by go_num, by omega, by omega, HN, rfl⟩
           case measure => simp [intOf]; omega
         · have HN : Hid (bestOK R S p (j + 1) (bn : Int)) := HBO.out.keep (by omega);generalize R.getD j 0 = x at *;generalize R.getD bn 0 = y at *;have dxy : decide (x < y) = false := by simp; omega
           go_wp2
           go_quiet (fail)
           go_wp2
           go_quiet (fail)
           go_wp2
           go_roundw
           case rel => exact ⟨j + 1, _, bn, by omega, by go_num, by go_num, by omega, by omega, HN, rfl⟩
           case measure => simp [intOf]; omega
     · obtain ⟨b4, o4, e4, hc4, _⟩ := HOI.out.2.2 (p - 1) (by omega);have hsp : (S.take p).getD (p - 1) 0 = S.getD (p - 1) 0 := by
        rw [List.getD_eq_getElem?_getD, List.getD_eq_getElem?_getD, List.getElem?_take, if_pos (by omega)]
       rw [hsp] at hc4;subst e1 e4;have hpz : ((p : Int) == 0) = false := by simp; omega
       have hpi : ((p : Int) - 1).toNat = p - 1 := by omega
       have hpj : (0 : Int) ≤ (p : Int) - 1 := by omega
       have hpk : (p : Int) - 1 < (p : Int) := by omega
       clear hsp;have HP0 : Hid (p ≠ 0) := hp0;clear hp0;by_cases hab : S.getD (p - 1) 0 < R.getD j 0
       · have HA : Hid (abB S p (R.getD j 0)) := .inr hab;by_cases hbn : b < 0
         · have HN : Hid (bestOK R S p (j + 1) (j : Int)) := HBO.out.take HA.out (fun bn e => by omega);generalize R.getD j 0 = x at *;generalize S.getD (p - 1) 0 = s at *;have dsx : decide (s < x) = true := by simp; omega
           go_wp2
           go_quiet (fail)
           go_wp2
           go_quiet (fail)
           go_wp2
           go_roundw
           case rel => exact ⟨j + 1, _, j, by omega, by go_num, by go_num, by omega, by omega, HN, rfl⟩
           case measure => simp [intOf]; omega
         · obtain ⟨bn, rfl⟩ : ∃ bn : Nat, b = bn := ⟨b.toNat, by omega⟩
           obtain ⟨b2, o2, e2, hc2, _⟩ := HRI.out.2.2 bn (by omega);injection e2 with e2;injection e2 with e2 e3;subst e2 e3;have hbl : (bn : Int) < (R.length : Int) := by omega
           by_cases hxy : R.getD j 0 < R.getD bn 0
           · have HN : Hid (bestOK R S p (j + 1) (j : Int)) := HBO.out.take HA.out (fun b3 e => by have e3 : b3 = bn := (by omega); rw [e3]; omega);generalize R.getD j 0 = x at *;generalize R.getD bn 0 = y at *;generalize S.getD (p - 1) 0 = s at *;have dxy : decide (x < y) = true := by simp; omega
             have dsx : decide (s < x) = true := by simp; omega
             go_wp2
             go_quiet (fail)
             go_wp2
             go_quiet (fail)
             go_wp2
             go_roundw
             case rel => exact ⟨j + 1, _, j, by omega, by go_num, by go_num, by omega, by omega, HN, rfl⟩
             case measure => simp [intOf]; omega
           · have HN : Hid (bestOK R S p (j + 1) (bn : Int)) := HBO.out.keep (by omega);generalize R.getD j 0 = x at *;generalize R.getD bn 0 = y at *;generalize S.getD (p - 1) 0 = s at *;have dxy : decide (x < y) = false := by simp; omega
             have dsx : decide (s < x) = true := by simp; omega
             go_wp2
             go_quiet (fail)
             go_wp2
             go_quiet (fail)
             go_wp2
             go_roundw
             case rel => exact ⟨j + 1, _, bn, by omega, by go_num, by go_num, by omega, by omega, HN, rfl⟩
             case measure => simp [intOf]; omega
       · have HN : Hid (bestOK R S p (j + 1) b) := HBO.out.skip (by
          intro h;rcases h with h | h
          · exact HP0.out h
          · exact hab h)
         generalize R.getD j 0 = x at *;generalize S.getD (p - 1) 0 = s at *;have dsx : decide (s < x) = false := by simp; omega
         go_wp2
         go_quiet (fail)
         go_wp2
         go_quiet (fail)
         go_wp2
         go_roundw
         case rel => exact ⟨j + 1, _, b, by omega, by go_num, by go_num, by omega, by omega, HN, rfl⟩
         case measure => simp [intOf]; omega
   · obtain rfl : j = R.length := by omega
     by_cases hbn : b < 0
     · obtain rfl : b = -1 := by omega
       have hpS := best_none HS.out HM.out hp HBO.out;have HE : Hid (S.take p = S) := List.take_of_length_le (by omega);clear hpS;go_wp2
       go_ret
       exact ⟨_, rfl, by have h1 := HO.out.mono (show w.heap.size ≤ w1.heap.size from hs1); rw [HE.out] at h1; exact h1.ext (ext_drewN (Below.refl _ _) _), ext_drewN HB.out _⟩
     · obtain ⟨bn, rfl⟩ : ∃ bn : Nat, b = bn := ⟨b.toNat, by omega⟩
       obtain ⟨hlt, hev, hbl⟩ := best_some HS.out HM.out hp HBO.out;obtain ⟨b2, o2, e2, hc2, hi1, hi2⟩ := HRI.out.2.2 bn hbl;subst e2;rw [hev] at hc2 hi1 hi2;have HST : Hid (S.take (p + 1) = S.take p ++ [S.getD p 0]) := take_next hlt;have hbl' : (bn : Int) < (R.length : Int) := by omega
       have HOd := Lib.hid (HO.out.ext (ext_drewN (Below.refl _ wo) q));have HRd := Lib.hid (HR.out.ext (ext_drewN (Below.refl _ wo) q));clear hev;generalize S.getD p 0 = s at *
       go_wp2_with (
        (at_builtin
         refine wpList_append1 rfl (wo.drewN q) (.tmp 73) (.tmp 78) 22 3 rfl w1.heap.size _ 1 8 Tryz.underlying22 infoI rfl (by omega) (.slice oa p oc) p _ [.int .i64 s] rfl (by have h9 := HOd.out.1; rw [htl] at h9; exact h9) wo.heap.size rfl rfl rfl (by simp [Value.oneCell']) (by simp only [maxLen]; omega) (by omega) hsw ?_;intro g2 cap w5 hown2 hg2 hat2
         have HO5 : Hid (OwnI w5 w1.heap.size (.slice (some ⟨g2, 0, none⟩) (p + 1) cap) (S.take (p + 1))) := (by
          rw [Hid, HST.out];refine ⟨?_, fun z hz => ?_, by rw [List.length_append, htl]; simp; omega⟩
          · have e4 : intVals (S.take p ++ [s]) = intVals (S.take p) ++ [.int .i64 s] := by simp [intVals]
            rw [e4, List.length_append, htl];exact hown2
          · rcases List.mem_append.1 hz with h | h
            · exact HO.out.2.1 z h
            · simp only [List.mem_singleton] at h;subst h
              exact ⟨hi1, hi2⟩)
         have hol : ∀ qq, (Value.slice oa p oc).ownBlock = some qq → w1.heap.size ≤ qq := fun qq e => by have h9 := HOd.out.1; rw [htl] at h9; exact (h9.lt qq e).1
         have HR5 : Hid (OwnI w5 w.heap.size (.slice (some ⟨b2, o2, none⟩) R.length rc) R) := HRd.out.kept hg2 (.inr (fun e => by have := hol b2 e.symm; have := HRL.out b2 rfl; omega));have HB5 : Hid (Below w.heap.size w w5) := (ext_drewN HB.out q).grown hg2 (ext_drewN HB.out q).size (fun qq e => by have := hol qq e; omega);have hs5 : w1.heap.size ≤ w5.heap.size := Nat.le_trans hsw hg2.size
         clear hown2 hg2 hat2 hol))
       go_roundg (S.length - p)
       case measure => omega
       case rel => exact ⟨p + 1, by omega, by omega, HO5, HR5, HB5, hs5⟩
end
end Go.Proofs.YtblhmdhfhaencaaGreat
