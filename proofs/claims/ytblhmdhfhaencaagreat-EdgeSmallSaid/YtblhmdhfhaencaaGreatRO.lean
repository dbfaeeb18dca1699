/-
 The document's answer to layer 17: what must hold of a tile. (Printed by gen_holds17.py.)
-/
import Derived.Test.YtblhmdhfhaencaaGreatRJ
import Derived.Test.YtblhmdhfhaencaaGreatTU
namespace Go.Proofs.YtblhmdhfhaencaaGreat
set_option linter.unusedSimpArgs false
set_option linter.unusedVariables false
set_option linter.unusedSectionVars false
set_option maxRecDepth 100000
set_option maxHeartbeats 40000000
section
open Go.RowKit
theorem holds17_any (pa : Option Addr) (pn pc : Nat) (ba : Option Addr) (bn bc : Nat) (bs : List BlkH) (a : Option Addr) (n c : Nat) (ls : List TileR) (k : Nat) (w : World) (h : BlksOK w ba bn bs) (ht : TilesOK w a n ls) (hk : k < n) (hT : totL (tdOf ls) ≤ 1000000) (hg : goodB (tsOf bs) = true)
  (hbs : ∀ x ∈ blkL (tdOf ls) k, 0 ≤ x ∧ x < bn) (hall : ∀ b, setK (tdOf ls) k b = true → b < bn) :
  Calls Tryz.prog 104 #[funcV pa pn pc ba bn bc, .slice a n c, .int .i64 (k : Int)] w fun e w' => e = .returned (.bool (holdsB (tsOf bs) ((tdOf ls).getD k zTile) (setK (tdOf ls) k))) ∧ Below w.heap.size w w' := by
 have hn := ht.1.2.1
 have hbn : bn ≤ 200 := by have := ((goodB_iff _).1 hg).1.2; rw [tsOf_len, h.1.1] at this; exact this
 obtain ⟨t, tb, tw, hlk, hok, rfl, _⟩ := ht.cells hk
 have htd := tdOf_at ls k t hlk
 rw [blkL, htd] at hbs
 rw [htd]
 have HLK := Lib.hid hlk
 have HBS := Lib.hid hbs
 have HALL : Hid (∀ b, setK (tdOf ls) k b = true → b < bn) := hall
 have HCF : Hid (Canon (setK (tdOf ls) k)) := of_canon _
 have H := Lib.hid h
 have HT := Lib.hid ht
 have HG := Lib.hid hg
 have HTOT := Lib.hid hT
 obtain ⟨hI, hcap, hki, _⟩ := hok
 obtain ⟨hk1, hk2⟩ := hki
 have HI := Lib.hid hI
 have hkn : (k : Int) < (n : Int) := by omega
 clear h ht hg hT hbs hall hlk htd hI
 go_enter Tryz.func104, Tryz.ntmps104
 go_upto_region 1 with (fail)
 obtain ⟨W, hW⟩ : ∃ W, W = w.alloc (funcO pa pn pc ba bn bc) := ⟨_, rfl⟩
 rw [← hW]
 have ho : W.heap[w.heap.size]? = some (funcO pa pn pc ba bn bc) := by rw [hW]; exact heap_alloc_new _ _
 have hB : Below w.heap.size w W := by rw [hW]; exact ext_alloc _ _
 have HF0 := Lib.hid ho
 have HB0 := Lib.hid hB
 clear hW ho hB
 go_upto_region 2 with (first
  | (go_at_call 45
     refine (all17T_any (some ⟨tb, tw, none⟩) n c ls (k : Int) W (HT.out.ext HB0.out) (by unfold I64; omega) HTOT.out).mono ?_;rintro e w2 ⟨v, rfl, ho, hb⟩;obtain ⟨va, vc, rfl⟩ := ho.form;have HV := Lib.hid ho.ints;have HF1 := Lib.hid (block_ext hb HF0.out);have HB1 := Lib.hid (ext_trans HB0.out hb)
     clear ho hb)
  | (go_at_call 108
     refine (setOf17_any va _ vc _ w2 HV.out).mono ?_;rintro e w3 ⟨rfl, hb⟩;have HF2 := Lib.hid (block_ext hb HF1.out);have HB2 := Lib.hid (ext_trans HB1.out hb)
     clear hb HF1 HB1)
  | (refine wpList_store_row rfl 107 _ _ rfl w3.heap.size (setA (ofS (allL (tdOf ls) (k : Int)))) rfl rfl 107 _ (heap_alloc_new w3 (.cells Tryz.zeroCells107 107)) (by rw [setA_size]; exact size_rset) rfl (setA_all _) ?_))
 obtain ⟨P, hP⟩ : ∃ P, P = w3.heap.size := ⟨_, rfl⟩
 obtain ⟨W4, hW4⟩ : ∃ W4, W4 = (w3.alloc (.cells Tryz.zeroCells107 107)).setRow w3.heap.size (setA (ofS (allL (tdOf ls) (k : Int)))) := ⟨_, rfl⟩
 rw [← hW4]
 have hs4 : W4.heap[P]? = some (rsetO (setK (tdOf ls) k)) := by rw [hW4, hP]; exact setRow_heap _ _ _ _ _ _ (heap_alloc_new w3 (.cells Tryz.zeroCells107 107))
 have hlf := lt_of_heap HF2.out
 have hf4 : W4.heap[w.heap.size]? = some (funcO pa pn pc ba bn bc) := by rw [hW4, setRow_other _ _ _ _ (by omega), Below.heap_alloc _ _ _ hlf]; exact HF2.out
 have hb4 : Below w.heap.size w W4 := by rw [hW4]; exact below_setRow (HB2.out.alloc HB2.out.size _) HB2.out.size _
 have hPw : w.heap.size < P := by omega
 have hP4 := lt_of_heap hs4
 rw [← hP]
 have HS := Lib.hid hs4
 have HF := Lib.hid hf4
 have HB := Lib.hid hb4
 clear hW4 hs4 hf4 hb4 HF2 HB2 HV HF0 HB0 hlf hP
 generalize hse : setK (tdOf ls) k = s at *
 have HSE := Lib.hid hse
 clear hse
 go_upto_region 3 with (first
  | (refine wpList_load_row (o := ⟨some 15, .load 25 _, _, _, _, _⟩) rfl 25 _ rfl w.heap.size rfl 25 _ (0, 0) _ HF.out Tryz.underlying25 rfl size_func ?_)
  | (refine wpList_load_row (o := ⟨some 16, .load 107 _, _, _, _, _⟩) rfl 107 _ rfl P rfl 107 _ (0, 0) _ HS.out Tryz.underlying107 rfl (by rw [setA_size]; exact size_rset) ?_)
  | (go_at_call 107
     refine (entries17_any pa pn pc ba bn bc bs s W4 (H.out.ext HB.out) HG.out).mono ?_;rintro e w5 ⟨ev, rfl, ho, hb⟩;obtain ⟨ea, ec, rfl⟩ := ho.form;have HE := Lib.hid ho.ints;have HF5 := Lib.hid (block_ext hb HF.out);have HS5 := Lib.hid (block_ext hb HS.out);have HB5 := Lib.hid (ext_trans HB.out hb);have hP5 : P < w5.heap.size := Nat.lt_of_lt_of_le hP4 hb.size;have hec := ho.cap;have hel : (intsN (entriesS (tsOf bs) s)).length = (entriesS (tsOf bs) s).length := (by simp [intsN])
     rw [hel] at hec HE ⊢
     clear ho hb hel))
 have hel2 : (entriesS (tsOf bs) s).length ≤ 200 := Nat.le_trans (List.length_filter_le _ _) (listS_len s)
 clear HF HS HB hP4
 go_cut [9] (fun s9 wr => s9 = .bool (oneB t.d (entriesS (tsOf bs) s)) ∧ Hid (wr.heap[w.heap.size]? = some (funcO pa pn pc ba bn bc)) ∧ Hid (wr.heap[P]? = some (rsetO s)) ∧ Hid (Ints wr ea (entriesS (tsOf bs) s).length (intsN (entriesS (tsOf bs) s))) ∧ Hid (Below w.heap.size w wr) ∧ P < wr.heap.size)
 case first =>
  obtain ⟨t', tb', tw', hlk', hok', et, c0, c1, c2⟩ := (HT.out.ext HB5.out).cells hk;injection et with et;injection et with et1 et2 _;subst et1 et2;rw [HLK.out] at hlk';injection hlk' with hlk';subst hlk';clear hok' c0 c1;have kB : ∀ n' : ExtW w5, n'.val.cell? ⟨tb, tw + k * 3 + 2, none⟩ = some (.slice t.ba t.bn t.bc) := fun n' => cell_ext n'.ext c2;clear c2;by_cases h1 : (entriesS (tsOf bs) s).length = 1
  · obtain ⟨x, hx⟩ : ∃ x, entriesS (tsOf bs) s = [x] := by
     match h : entriesS (tsOf bs) s with
     | [] => rw [h] at h1; simp at h1
     | [x] => exact ⟨x, rfl⟩
     | _ :: _ :: _ => rw [h] at h1; simp at h1
    obtain ⟨b, o, rfl, hc, _⟩ := HE.out.2.2 0 (by omega);have hx0 : (intsN (entriesS (tsOf bs) s)).getD 0 0 = (x : Int) := by rw [hx]; rfl
    rw [hx0] at hc;have kE : ∀ n' : ExtW w5, n'.val.cell? ⟨b, o, none⟩ = some (.int .i64 (x : Int)) := fun n' => cell_ext n'.ext hc;have HO : Hid (oneB t.d (entriesS (tsOf bs) s) = t.d.blocks.contains (x : Int)) := by
     rw [hx, Hid];simp [oneB]
    have heq : ((((entriesS (tsOf bs) s).length : Nat) : Int) == 1) = true := by simp [h1]
    have hlt : 0 < (entriesS (tsOf bs) s).length := by omega
    clear hx hx0 hc h1;refine region_ext (by kernel_rfl) (by kernel_rfl) ?_
    repeat (first
     | go_big_quiet_skip
     | go_big_quiet_step (first
       | (go_at_call 165; exact quiet_ext_same (has17_any t.ba t.bn t.bc t.d.blocks _ _ (HI.out.ext (ext_trans HB5.out (ExtW.ext _)))))))
    refine wpQuiet_nil ?_;intro _ hw';obtain ⟨n', rfl⟩ := hw';go_wp2
    go_meet
    exact ⟨by rw [HO.out]; simp, block_ext n'.ext HF5.out, block_ext n'.ext HS5.out, HE.out.ext n'.ext, ext_trans HB5.out n'.ext, Nat.lt_of_lt_of_le hP5 n'.ext.size⟩
  · have hne : ((((entriesS (tsOf bs) s).length : Nat) : Int) == 1) = false := by simp; omega
    have HO : Hid (oneB t.d (entriesS (tsOf bs) s) = false) := by
     rw [Hid];simp [oneB, h1]
    refine region_ext (by kernel_rfl) (by kernel_rfl) ?_
    repeat (first
     | go_big_quiet_skip
     | go_big_quiet_step (fail))
    refine wpQuiet_nil ?_;intro _ hw';obtain ⟨n', rfl⟩ := hw';go_wp2
    go_meet
    exact ⟨by rw [HO.out], block_ext n'.ext HF5.out, block_ext n'.ext HS5.out, HE.out.ext n'.ext, ext_trans HB5.out n'.ext, Nat.lt_of_lt_of_le hP5 n'.ext.size⟩
 case rest =>
  obtain ⟨rfl, HF, HS, HE2, HB, hPc⟩ := hcut;obtain ⟨t', tb', tw', hlk', hok', et, c0, c1, c2⟩ := (HT.out.ext HB.out).cells hk;injection et with et;injection et with et1 et2 _;subst et1 et2;rw [HLK.out] at hlk';injection hlk' with hlk';subst hlk';clear hok' c1 HE HF5 HS5 HB5 hP5;have qf : ∀ w', (∃ n : ExtW wc, w' = n.val) → w'.heap[w.heap.size]? = some (funcO pa pn pc ba bn bc) := fun w' ⟨n, e⟩ => by rw [e]; exact block_ext n.ext HF.out
  have qs : ∀ w', (∃ n : ExtW wc, w' = n.val) → w'.heap[P]? = some (rsetO s) := fun w' ⟨n, e⟩ => by rw [e]; exact block_ext n.ext HS.out
  have kB : ∀ n' : ExtW wc, n'.val.cell? ⟨tb, tw + k * 3 + 2, none⟩ = some (.slice t.ba t.bn t.bc) := fun n' => cell_ext n'.ext c2
  have HRG : Hid (∀ n' : ExtW wc, Calls Tryz.prog 166 #[funcV pa pn pc ba bn bc, .slice t.ba t.bn t.bc, .agg (setA s)] n'.val fun e w'' => e = .returned (.bool (ringsB (tsOf bs) t.d.blocks s)) ∧ ∃ m : ExtW wc, w'' = m.val) :=
   fun n' => quiet_ext (ring17_any pa pn pc ba bn bc bs t.ba t.bn t.bc t.d.blocks s n'.val (H.out.ext (ext_trans HB.out n'.ext)) HG.out HCF.out HALL.out (HI.out.ext (ext_trans HB.out n'.ext)) (fun x hx => by have := HBS.out x hx; omega))
  by_cases h1 : t.d.kind = 1
  · have e1 : (t.d.kind == 1) = true := by simp [h1]
    have HR : Hid (holdsB (tsOf bs) t.d s = !ringsB (tsOf bs) t.d.blocks s) := by simp [Hid, holdsB, h1]
    clear h1;go_wp2;refine region_ext (by kernel_rfl) (by kernel_rfl) ?_
    repeat (first
     | go_big_quiet_skip
     | (refine wpQuiet_load_row (o := ⟨some 39, .load 25 _, _, _, _, _⟩) (by rfl) 25 _ rfl w.heap.size rfl 25 #[.slice pa pn pc, .slice ba bn bc] (0, 0) _ qf Tryz.underlying25 rfl size_func ?_; simp only [zJ,zG,zH,zI])
     | (refine wpQuiet_load_row (o := ⟨some 45, .load 107 _, _, _, _, _⟩) (by rfl) 107 _ rfl P rfl 107 _ (0, 0) _ qs Tryz.underlying107 rfl (by rw [setA_size]; exact size_rset) ?_; simp only [zJ,zG,zH,zI])
     | go_big_quiet_step (first
       | (go_at_call 166; exact HRG.out _)))
    refine wpQuiet_nil ?_;intro _ hw';obtain ⟨n', rfl⟩ := hw';go_wp2
    go_ret
    exact ⟨by rw [HSE.out, HR.out]; rfl, ext_trans HB.out n'.ext⟩
  · have e1 : (t.d.kind == 1) = false := by simpa using h1
    by_cases h2 : t.d.kind = 2
    · have e2 : (t.d.kind == 2) = true := by simp [h2]
      have HR : Hid (holdsB (tsOf bs) t.d s = (oneB t.d (entriesS (tsOf bs) s) && togetherB (tsOf bs) s && !ringsB (tsOf bs) t.d.blocks (lessS s ((entriesS (tsOf bs) s).headD 0)))) := by simp [Hid, holdsB, h2]
      clear h1 h2 HRG;cases ho : oneB t.d (entriesS (tsOf bs) s) with
      | false =>
        rw [ho, Bool.false_and, Bool.false_and] at HR;clear ho;go_wp2
        go_ret
        exact ⟨by rw [HSE.out, HR.out]; rfl, HB.out⟩
      | true =>
        obtain ⟨x, hx⟩ := one_iff _ _ ho;obtain ⟨b, o, rfl, hc, _⟩ := HE2.out.2.2 0 (by rw [hx]; simp);have hxm : x ∈ entriesS (tsOf bs) s := by rw [hx]; simp
        have hx2 : x < 200 := listS_lt s x (List.mem_filter.1 hxm).1;clear hxm;rw [ho, Bool.true_and, show (entriesS (tsOf bs) s).headD 0 = x by rw [hx]; rfl] at HR;have hx0 : (intsN (entriesS (tsOf bs) s)).getD 0 0 = (x : Int) := by rw [hx]; rfl
        rw [hx0] at hc;have hlt : 0 < (entriesS (tsOf bs) s).length := by rw [hx]; simp
        have hc0 : wc.cell? ⟨b, o, none⟩ = some (.int .i64 (x : Int)) := hc;have HCE := Lib.hid hc0;have HK0 := Lib.hid c0;have HK2 := Lib.hid c2;clear ho hx hx0 hc hc0 c2 qf qs kB
        go_upto_region 11 with (first
         | (refine wpList_load_row (o := ⟨some 52, .load 107 _, _, _, _, _⟩) rfl 107 _ rfl P rfl 107 _ (0, 0) _ HS.out Tryz.underlying107 rfl (by rw [setA_size]; exact size_rset) ?_)
         | (refine wpList_store_row rfl 107 _ _ rfl wc.heap.size (setA s) rfl rfl 107 _ (heap_alloc_new wc (.cells Tryz.zeroCells107 107)) (by rw [setA_size]; exact size_rset) rfl (setA_all _) ?_))
        obtain ⟨P2, hP2⟩ : ∃ P2, P2 = wc.heap.size := ⟨_, rfl⟩
        obtain ⟨W6, hW6⟩ : ∃ W6, W6 = (wc.alloc (.cells Tryz.zeroCells107 107)).setRow wc.heap.size (setA s) := ⟨_, rfl⟩
        rw [← hW6];have hs6 : W6.heap[P2]? = some (rsetO s) := by rw [hW6, hP2]; exact setRow_heap _ _ _ _ _ _ (heap_alloc_new wc (.cells Tryz.zeroCells107 107))
        have hb6 : Below wc.heap.size wc W6 := by rw [hW6]; exact below_setRow (ext_alloc _ _) (Nat.le_refl _) _
        rw [← hP2];have hPP : wc.heap.size ≤ P2 := by omega
        clear hP2;have hc6 := cell_ext hb6 HCE.out;have hcs := rset_cell hs6 x hx2;have hcf := rset_free hs6 x;have HS7 := Lib.hid (rset_to (b := false) hs6 hx2 (lessS_put s x));have HB7 : Hid (Below wc.heap.size wc (W6.setCell ⟨P2, x, none⟩ (.bool false))) := hb6.setCell hPP _;clear hs6 hb6 hW6 HCE;go_upto_region 12 with (fail)
        generalize W6.setCell ⟨P2, x, none⟩ (.bool false) = W7 at *;have qf : ∀ w', (∃ n : ExtW W7, w' = n.val) → w'.heap[w.heap.size]? = some (funcO pa pn pc ba bn bc) := fun w' ⟨n, e⟩ => by rw [e]; exact block_ext n.ext (block_ext HB7.out HF.out)
        have qs : ∀ w', (∃ n : ExtW W7, w' = n.val) → w'.heap[P]? = some (rsetO s) := fun w' ⟨n, e⟩ => by rw [e]; exact block_ext n.ext (block_ext HB7.out HS.out)
        have qr : ∀ w', (∃ n : ExtW W7, w' = n.val) → w'.heap[P2]? = some (rsetO (lessS s x)) := fun w' ⟨n, e⟩ => by rw [e]; exact block_ext n.ext HS7.out
        have kB : ∀ n' : ExtW W7, n'.val.cell? ⟨tb, tw + k * 3 + 2, none⟩ = some (.slice t.ba t.bn t.bc) := fun n' => cell_ext n'.ext (cell_ext HB7.out HK2.out);have HBB : Hid (∀ n' : ExtW W7, Below w.heap.size w n'.val) := fun n' => ext_trans HB.out (ext_trans HB7.out n'.ext)
        have HTG : Hid (∀ n' : ExtW W7, Calls Tryz.prog 167 #[funcV pa pn pc ba bn bc, .agg (setA s)] n'.val fun e w'' => e = .returned (.bool (togetherB (tsOf bs) s)) ∧ ∃ m : ExtW W7, w'' = m.val) :=
         fun n' => quiet_ext (together17_any pa pn pc ba bn bc bs s n'.val (H.out.ext (HBB.out n')) HG.out HCF.out HALL.out)
        have HRG : Hid (∀ n' : ExtW W7, Calls Tryz.prog 166 #[funcV pa pn pc ba bn bc, .slice t.ba t.bn t.bc, .agg (setA (lessS s x))] n'.val fun e w'' => e = .returned (.bool (ringsB (tsOf bs) t.d.blocks (lessS s x))) ∧ ∃ m : ExtW W7, w'' = m.val) :=
         fun n' => quiet_ext (ring17_any pa pn pc ba bn bc bs t.ba t.bn t.bc t.d.blocks (lessS s x) n'.val (H.out.ext (HBB.out n')) HG.out (less_canon HCF.out x) (fun b hb => HALL.out b (by simp [lessS] at hb; exact hb.2)) (HI.out.ext (HBB.out n')) (fun x hx => by have := HBS.out x hx; omega))
        clear hc6 hcs hcf;cases htg : togetherB (tsOf bs) s with
        | false =>
          rw [htg, Bool.false_and] at HR;rw [htg] at HTG;clear htg;refine region_ext (by kernel_rfl) (by kernel_rfl) ?_
          repeat (first
           | go_big_quiet_skip
           | (refine wpQuiet_load_row (o := ⟨some 57, .load 25 _, _, _, _, _⟩) (by rfl) 25 _ rfl w.heap.size rfl 25 #[.slice pa pn pc, .slice ba bn bc] (0, 0) _ qf Tryz.underlying25 rfl size_func ?_; simp only [zJ,zG,zH,zI])
           | (refine wpQuiet_load_row (o := ⟨some 58, .load 107 _, _, _, _, _⟩) (by rfl) 107 _ rfl P rfl 107 _ (0, 0) _ qs Tryz.underlying107 rfl (by rw [setA_size]; exact size_rset) ?_; simp only [zJ,zG,zH,zI])
           | go_big_quiet_step (first
             | (go_at_call 167; exact HTG.out _)))
          refine wpQuiet_nil ?_;intro _ hw';obtain ⟨n', rfl⟩ := hw';go_wp2
          go_ret
          exact ⟨by rw [HSE.out, HR.out]; rfl, HBB.out n'⟩
        | true =>
          rw [htg, Bool.true_and] at HR;rw [htg] at HTG;clear htg;refine region_ext (by kernel_rfl) (by kernel_rfl) ?_
          repeat (first
           | go_big_quiet_skip
           | (refine wpQuiet_load_row (o := ⟨some 57, .load 25 _, _, _, _, _⟩) (by rfl) 25 _ rfl w.heap.size rfl 25 #[.slice pa pn pc, .slice ba bn bc] (0, 0) _ qf Tryz.underlying25 rfl size_func ?_; simp only [zJ,zG,zH,zI])
           | (refine wpQuiet_load_row (o := ⟨some 58, .load 107 _, _, _, _, _⟩) (by rfl) 107 _ rfl P rfl 107 _ (0, 0) _ qs Tryz.underlying107 rfl (by rw [setA_size]; exact size_rset) ?_; simp only [zJ,zG,zH,zI])
           | (refine wpQuiet_load_row (o := ⟨some 61, .load 25 _, _, _, _, _⟩) (by rfl) 25 _ rfl w.heap.size rfl 25 #[.slice pa pn pc, .slice ba bn bc] (0, 0) _ qf Tryz.underlying25 rfl size_func ?_; simp only [zJ,zG,zH,zI])
           | (refine wpQuiet_load_row (o := ⟨some 67, .load 107 _, _, _, _, _⟩) (by rfl) 107 _ rfl P2 rfl 107 _ (0, 0) _ qr Tryz.underlying107 rfl (by rw [setA_size]; exact size_rset) ?_; simp only [zJ,zG,zH,zI])
           | go_big_quiet_step (first
             | (go_at_call 167; exact HTG.out _)
             | (go_at_call 166; exact HRG.out _)))
          refine wpQuiet_nil ?_;intro _ hw';obtain ⟨n', rfl⟩ := hw';go_wp2
          go_ret
          exact ⟨by rw [HSE.out, HR.out]; rfl, HBB.out n'⟩
    · have e2 : (t.d.kind == 2) = false := by simpa using h2
      by_cases h3 : t.d.kind = 3
      · have e3 : (t.d.kind == 3) = true := by simp [h3]
        have HR : Hid (holdsB (tsOf bs) t.d s = (decide (1 < (entriesS (tsOf bs) s).length) && togetherB (tsOf bs) s)) := by simp [Hid, holdsB, h3]
        clear h1 h2 h3 HRG qf qs kB;by_cases hl : 1 < (entriesS (tsOf bs) s).length
        · have d1 : decide ((1 : Int) < ((entriesS (tsOf bs) s).length : Int)) = true := by simp; omega
          have d2 : decide (1 < (entriesS (tsOf bs) s).length) = true := by simpa using hl
          rw [d2, Bool.true_and] at HR
          go_wp2_with (first
           | (refine wpList_load_rowW (o := ⟨some 77, .load 25 _, _, _, _, _⟩) (by rfl) 25 _ rfl w.heap.size rfl 25 _ (0, 0) _ HF.out Tryz.underlying25 rfl size_func ?_)
           | (refine wpList_load_rowW (o := ⟨some 78, .load 107 _, _, _, _, _⟩) (by rfl) 107 _ rfl P rfl 107 _ (0, 0) _ HS.out Tryz.underlying107 rfl (by rw [setA_size]; exact size_rset) ?_)
           | (go_at_call 167
              refine (together17_any pa pn pc ba bn bc bs s wc (H.out.ext HB.out) HG.out HCF.out HALL.out).mono ?_;rintro e w6 ⟨rfl, hb6⟩;have HB6 := Lib.hid (ext_trans HB.out hb6)
              clear hb6))
          go_ret
          exact ⟨by rw [HSE.out, HR.out]; rfl, HB6.out⟩
        · have d1 : decide ((1 : Int) < ((entriesS (tsOf bs) s).length : Int)) = false := by simp; omega
          have d2 : decide (1 < (entriesS (tsOf bs) s).length) = false := by simpa using hl
          rw [d2, Bool.false_and] at HR;go_wp2
          go_ret
          exact ⟨by rw [HSE.out, HR.out]; rfl, HB.out⟩
      · have e3 : (t.d.kind == 3) = false := by simpa using h3
        by_cases h4 : t.d.kind = 4
        · have e4 : (t.d.kind == 4) = true := by simp [h4]
          have HR : Hid (holdsB (tsOf bs) t.d s = (oneB t.d (entriesS (tsOf bs) s) && !ringsB (tsOf bs) t.d.blocks s)) := by simp [Hid, holdsB, h4]
          clear h1 h2 h3 h4;cases ho : oneB t.d (entriesS (tsOf bs) s) with
          | true =>
            rw [ho, Bool.true_and] at HR;clear ho;go_wp2;refine region_ext (by kernel_rfl) (by kernel_rfl) ?_
            repeat (first
             | go_big_quiet_skip
             | (refine wpQuiet_load_row (o := ⟨some 85, .load 25 _, _, _, _, _⟩) (by rfl) 25 _ rfl w.heap.size rfl 25 #[.slice pa pn pc, .slice ba bn bc] (0, 0) _ qf Tryz.underlying25 rfl size_func ?_; simp only [zJ,zG,zH,zI])
             | (refine wpQuiet_load_row (o := ⟨some 91, .load 107 _, _, _, _, _⟩) (by rfl) 107 _ rfl P rfl 107 _ (0, 0) _ qs Tryz.underlying107 rfl (by rw [setA_size]; exact size_rset) ?_; simp only [zJ,zG,zH,zI])
             | go_big_quiet_step (first
               | (go_at_call 166; exact HRG.out _)))
            refine wpQuiet_nil ?_;intro _ hw';obtain ⟨n', rfl⟩ := hw';go_wp2
            go_ret
            exact ⟨by rw [HSE.out, HR.out]; rfl, ext_trans HB.out n'.ext⟩
          | false =>
            rw [ho, Bool.false_and] at HR;clear ho;go_wp2;refine region_ext (by kernel_rfl) (by kernel_rfl) ?_
            repeat (first
             | go_big_quiet_skip
             | go_big_quiet_step (fail))
            refine wpQuiet_nil ?_;intro _ hw';obtain ⟨n', rfl⟩ := hw';go_wp2
            go_ret
            exact ⟨by rw [HSE.out, HR.out]; rfl, ext_trans HB.out n'.ext⟩
        · have e4 : (t.d.kind == 4) = false := by simpa using h4
          have HR : Hid (holdsB (tsOf bs) t.d s = false) := by simp [Hid, holdsB, h1, h2, h3, h4]
          clear h1 h2 h3 h4;go_wp2
          go_ret
          exact ⟨by rw [HSE.out, HR.out]; rfl, HB.out⟩
end
end Go.Proofs.YtblhmdhfhaencaaGreat
