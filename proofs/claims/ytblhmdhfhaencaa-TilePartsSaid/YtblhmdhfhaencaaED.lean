/-
 Edge: ends, Critical, Spot.
-/
import Derived.Test.YtblhmdhfhaencaaEC
namespace Go.Proofs.Ytblhmdhfhaencaa
set_option linter.unusedSimpArgs false
set_option linter.unusedVariables false
set_option linter.unusedSectionVars false
set_option maxRecDepth 100000
set_option maxHeartbeats 40000000
section
open Go.RowKit
attribute [local go_sem] Oper.semAt_some wide_fn wide_depth wide_fnR wide_depthR

theorem EdgesPost.form {w : World} {l : List EdgeD} {e : Ending} {w' : World} (h : EdgesPost w l e w') : ∃ a c, e = .returned (.slice a l.length c) ∧ OwnE w' w.heap.size (.slice a l.length c) l ∧ EdgS w' a l.length l ∧ Below w.heap.size w w' := by
 obtain ⟨v, rfl, ho, hb⟩ := h
 obtain ⟨a, c, rfl⟩ := ho.form
 exact ⟨a, c, rfl, ho, ho.recs csE_len, hb⟩
theorem size_edge : (Try.prog.info? 39).map (·.size) = some 3 := by kernel_rfl
theorem allE_len {ts : List TermD} : (allE ts).length ≤ 400 := by
 unfold allE
 split
 · rename_i h
   have := edgesL_len ts
   have h1 : goodB ts = true := by simp only [fitsB, Bool.and_eq_true] at h; exact h.1
   have := ((goodB_iff ts).1 h1).1.2
   omega
 · simp
def cntTo (p : EdgeD → Bool) (l : List EdgeD) (k : Nat) : Nat := (l.take k).countP p
theorem cntTo_step (p : EdgeD → Bool) (l : List EdgeD) (k : Nat) (r : EdgeD) (hr : l[k]? = some r) : cntTo p l (k + 1) = cntTo p l k + if p r then 1 else 0 := by
 rw [cntTo, cntTo, List.take_add_one, hr, Option.toList_some, List.countP_append, List.countP_singleton]
theorem cntTo_le (p : EdgeD → Bool) (l : List EdgeD) (k : Nat) : cntTo p l k ≤ l.length := by
 have h1 := List.countP_le_length (p := p) (l := l.take k)
 have h2 := List.length_take_le' k l
 unfold cntTo
 omega
theorem cnt_up {m n : Nat} {a b : Int} {q : Bool} (h : m = n + if (a == b) = true then 1 else 0) (hq : (a == b) = q) : m = n + if q = true then 1 else 0 := by
 rw [h, ← hq]
def EndsPost (ts : List TermD) (x : EdgeD) (w : World) (e : Ending) (w' : World) : Prop := e = .returned (.tuple #[.int .i64 (outE ts x), .int .i64 (inE ts x)]) ∧ Below w.heap.size w w'
theorem ends_any (pa : Option Addr) (pn pc : Nat) (ba : Option Addr) (bn bc : Nat) (bs : List BlkH) (x : EdgeD) (w : World) (h : BlksOK w ba bn bs) :
  Calls Try.prog 44 #[funcV pa pn pc ba bn bc, edgeV x] w (EndsPost (tsOf bs) x w) := by
 have H := Lib.hid h
 clear h
 go_enter Try.func44, Try.ntmps44
 go_upto_region 1 with (fail)
 obtain ⟨W, hW⟩ : ∃ W, W = (w.alloc (funcO pa pn pc ba bn bc)).alloc (edgeO x) := ⟨_, rfl⟩
 rw [← hW]
 have hk0 : W.heap[w.heap.size]? = some (funcO pa pn pc ba bn bc) := by rw [hW]; exact block_ext (ext_alloc _ _) (heap_alloc_new _ _)
 have hk1 : W.heap[w.heap.size + 1]? = some (edgeO x) := by rw [hW]; have := heap_alloc_new (w.alloc (funcO pa pn pc ba bn bc)) (edgeO x); simpa using this
 have hB : Below w.heap.size w W := by rw [hW]; exact ext_trans (ext_alloc _ _) (ext_alloc _ _)
 have HK := Lib.hid hk0
 have HX := Lib.hid hk1
 have HB := Lib.hid hB
 clear hW hk0 hk1 hB
 go_upto_region 2 with (first
   | (refine wpList_load_row (o := ⟨some 9, .load 25 _, _, _, _, _⟩) rfl 25 _ rfl w.heap.size rfl 25 _ (0, 0) _ HK.out Try.underlying25 rfl size_func ?_)
   | (go_at_call 13
      refine (allE_any pa pn pc ba bn bc bs W (H.out.ext HB.out)).mono ?_
      intro e w2 hp
      obtain ⟨la, lc, rfl, ho, hs, hb⟩ := hp.form
      have HS := Lib.hid hs
      have HX2 := Lib.hid (block_ext hb HX.out)
      have HB2 := Lib.hid (ext_trans HB.out hb)
      clear hb ho hs hp))
 clear HX HK HB
 have hlen : (allE (tsOf bs)).length ≤ 400 := allE_len
 cases hm : decide (x ∈ allE (tsOf bs)) with
 | false =>
   have HM := Lib.hid hm
   have HO : Hid (outE (tsOf bs) x = 0) := if_neg (of_decide_eq_false hm)
   have HI : Hid (inE (tsOf bs) x = 0) := if_neg (of_decide_eq_false hm)
   clear hm
   go_wp2_with (first
    | (refine wpList_load_row (o := ⟨some 12, .load 39 _, _, _, _, _⟩) rfl 39 _ rfl (w.heap.size + 1) rfl 39 _ (0, 0) _ HX2.out Try.underlying39 rfl size_edge ?_)
    | (go_at_call 76
       refine (containsE_any la _ lc (allE (tsOf bs)) x w2 HS.out).mono ?_
       rintro e w3 ⟨rfl, hb⟩
       rw [HM.out]
       have HB3 := Lib.hid (ext_trans HB2.out hb)
       clear hb))
   refine bodyPost_ret (v := .tuple #[.int .i64 0, .int .i64 0]) (by simp [results, Try.results44, go_sem, Act.put]) rfl ⟨?_, HB3.out⟩
   rw [HO.out, HI.out]; rfl
 | true =>
   have HM := Lib.hid hm
   have hm' := of_decide_eq_true hm
   have HO : Hid (outE (tsOf bs) x = cntTo (fun y => y.fr == x.fr) (allE (tsOf bs)) (allE (tsOf bs)).length) := by rw [Hid, cntTo, List.take_length]; exact if_pos hm'
   have HI : Hid (inE (tsOf bs) x = cntTo (fun y => y.to == x.to) (allE (tsOf bs)) (allE (tsOf bs)).length) := by rw [Hid, cntTo, List.take_length]; exact if_pos hm'
   clear hm hm'
   generalize (allE (tsOf bs)) = L at *
   go_wp2_with (first
    | (refine wpList_load_row (o := ⟨some 12, .load 39 _, _, _, _, _⟩) rfl 39 _ rfl (w.heap.size + 1) rfl 39 _ (0, 0) _ HX2.out Try.underlying39 rfl size_edge ?_)
    | (go_at_call 76
       refine (containsE_any la _ lc L x w2 HS.out).mono ?_
       rintro e w3 ⟨rfl, hb⟩
       rw [HM.out]
       have HX3 := Lib.hid (block_ext hb HX2.out)
       have HB3 := Lib.hid (ext_trans HB2.out hb)
       have HS3 := Lib.hid (HS.out.ext csE_len hb)
       clear hb))
   clear HX2 HB2 HS
   go_loopw [4, 5, 17] (fun o i j wr => ∃ (k : Nat), k ≤ L.length ∧ j = .int .i64 k ∧ o = .int .i64 (cntTo (fun y => y.fr == x.fr) L k) ∧ i = .int .i64 (cntTo (fun y => y.to == x.to) L k) ∧ Hid (Below w3.heap.size w3 wr)) (fun _ _ j _ => L.length - (intOf j).toNat)
   case atStart => exact ⟨0, by omega, rfl, by simp [cntTo], by simp [cntTo], Below.refl _ _⟩
   case round =>
    obtain ⟨k, hk, rfl, rfl, rfl, HBr⟩ := hrel
    have hx := block_ext HBr.out HX3.out
    have x0 : wr.cell? ⟨w.heap.size + 1, 0, none⟩ = some (.int .i64 x.fr) := by rw [cell_of_row _ _ _ _ _ _ hx]; rfl
    have x2 : wr.cell? ⟨w.heap.size + 1, 2, none⟩ = some (.int .i64 x.to) := by rw [cell_of_row _ _ _ _ _ _ hx]; rfl
    have hlx : w.heap.size + 1 < wr.heap.size := (Array.getElem?_eq_some_iff.1 hx).1
    clear hx
    by_cases hlt : k < L.length
    · obtain ⟨r, b, o, hr, rfl, c0, c1, c2⟩ := edges_cells (HS3.out.ext csE_len HBr.out) hlt
      have HS1 := Lib.hid (cntTo_step (fun y => y.fr == x.fr) L k r hr)
      have HS2 := Lib.hid (cntTo_step (fun y => y.to == x.to) L k r hr)
      have hle1 := cntTo_le (fun y => y.fr == x.fr) L k
      have hle2 := cntTo_le (fun y => y.to == x.to) L k
      clear hr
      generalize cntTo (fun y => y.fr == x.fr) L k = n1 at *
      generalize cntTo (fun y => y.to == x.to) L k = n2 at *
      cases h1 : (r.fr == x.fr) <;> cases h2 : (r.to == x.to)
      all_goals
       have HN1 := Lib.hid (cnt_up HS1.out h1)
       have HN2 := Lib.hid (cnt_up HS2.out h2)
       go_wp2
       go_roundw
      all_goals first
       | exact ⟨k + 1, by omega, by go_num, by simp [HN1.out], by simp [HN2.out], ext_trans HBr.out (ext_alloc _ _)⟩
       | (simp [intOf]; omega)
    · obtain rfl : k = L.length := by omega
      go_wp2
      refine bodyPost_ret (v := .tuple #[.int .i64 (cntTo (fun y => y.fr == x.fr) L L.length), .int .i64 (cntTo (fun y => y.to == x.to) L L.length)]) (by simp [results, Try.results44, go_sem, Act.put]) rfl ⟨?_, ext_trans HB3.out HBr.out⟩
      rw [HO.out, HI.out]
theorem critical_any (pa : Option Addr) (pn pc : Nat) (ba : Option Addr) (bn bc : Nat) (bs : List BlkH) (x : EdgeD) (w : World) (h : BlksOK w ba bn bs) :
  Calls Try.prog 18 #[funcV pa pn pc ba bn bc, edgeV x] w fun e w' => e = .returned (.bool (critB (tsOf bs) x)) ∧ Below w.heap.size w w' := by
 have H := Lib.hid h
 clear h
 go_enter Try.func18, Try.ntmps18
 go_upto_region 1 with (fail)
 obtain ⟨W, hW⟩ : ∃ W, W = (w.alloc (funcO pa pn pc ba bn bc)).alloc (edgeO x) := ⟨_, rfl⟩
 rw [← hW]
 have hk0 : W.heap[w.heap.size]? = some (funcO pa pn pc ba bn bc) := by rw [hW]; exact block_ext (ext_alloc _ _) (heap_alloc_new _ _)
 have hk1 : W.heap[w.heap.size + 1]? = some (edgeO x) := by rw [hW]; have := heap_alloc_new (w.alloc (funcO pa pn pc ba bn bc)) (edgeO x); simpa using this
 have hB : Below w.heap.size w W := by rw [hW]; exact ext_trans (ext_alloc _ _) (ext_alloc _ _)
 have HK := Lib.hid hk0
 have HX := Lib.hid hk1
 have HB := Lib.hid hB
 clear hW hk0 hk1 hB
 have HC : Hid (critB (tsOf bs) x = decide ((1 : Int) < min (outE (tsOf bs) x : Int) (inE (tsOf bs) x : Int))) := by
  rw [Hid, critB]
  congr 1
  apply propext
  omega
 go_wp2_with (first
   | (refine wpList_load_row (o := ⟨some 8, .load 25 _, _, _, _, _⟩) rfl 25 _ rfl w.heap.size rfl 25 _ (0, 0) _ HK.out Try.underlying25 rfl size_func ?_)
   | (refine wpList_load_row (o := ⟨some 9, .load 39 _, _, _, _, _⟩) rfl 39 _ rfl (w.heap.size + 1) rfl 39 _ (0, 0) _ HX.out Try.underlying39 rfl size_edge ?_)
   | (go_at_call 44
      refine (ends_any pa pn pc ba bn bc bs x W (H.out.ext HB.out)).mono ?_
      rintro e w2 ⟨rfl, hb⟩
      generalize (outE (tsOf bs) x) = n1 at *
      generalize (inE (tsOf bs) x) = n2 at *
      have HB2 := Lib.hid (ext_trans HB.out hb)
      clear hb))
 go_ret
 exact ⟨ret_bool HC.out.symm, HB2.out⟩
theorem spot_any (pa : Option Addr) (pn pc : Nat) (ba : Option Addr) (bn bc : Nat) (bs : List BlkH) (x : EdgeD) (w : World) (h : BlksOK w ba bn bs) :
  Calls Try.prog 17 #[funcV pa pn pc ba bn bc, edgeV x] w fun e w' => e = .returned (.tuple #[.int .i64 (spotD (tsOf bs) x).1, .bool (spotD (tsOf bs) x).2.1, .int .i64 (spotD (tsOf bs) x).2.2]) ∧ Below w.heap.size w w' := by
 have H := Lib.hid h
 clear h
 go_enter Try.func17, Try.ntmps17
 go_upto_region 1 with (fail)
 obtain ⟨W, hW⟩ : ∃ W, W = (w.alloc (funcO pa pn pc ba bn bc)).alloc (edgeO x) := ⟨_, rfl⟩
 rw [← hW]
 have hk0 : W.heap[w.heap.size]? = some (funcO pa pn pc ba bn bc) := by rw [hW]; exact block_ext (ext_alloc _ _) (heap_alloc_new _ _)
 have hk1 : W.heap[w.heap.size + 1]? = some (edgeO x) := by rw [hW]; have := heap_alloc_new (w.alloc (funcO pa pn pc ba bn bc)) (edgeO x); simpa using this
 have hB : Below w.heap.size w W := by rw [hW]; exact ext_trans (ext_alloc _ _) (ext_alloc _ _)
 have HK := Lib.hid hk0
 have HX := Lib.hid hk1
 have HB := Lib.hid hB
 clear hW hk0 hk1 hB
 go_upto_region 2 with (first
   | (refine wpList_load_row (o := ⟨some 10, .load 25 _, _, _, _, _⟩) rfl 25 _ rfl w.heap.size rfl 25 _ (0, 0) _ HK.out Try.underlying25 rfl size_func ?_)
   | (refine wpList_load_row (o := ⟨some 11, .load 39 _, _, _, _, _⟩) rfl 39 _ rfl (w.heap.size + 1) rfl 39 _ (0, 0) _ HX.out Try.underlying39 rfl size_edge ?_)
   | (go_at_call 44
      refine (ends_any pa pn pc ba bn bc bs x W (H.out.ext HB.out)).mono ?_
      rintro e w2 ⟨rfl, hb⟩
      have hx2 := block_ext hb HX.out
      have x0 : w2.cell? ⟨w.heap.size + 1, 0, none⟩ = some (.int .i64 x.fr) := (by rw [cell_of_row _ _ _ _ _ _ hx2]; rfl)
      have x2 : w2.cell? ⟨w.heap.size + 1, 2, none⟩ = some (.int .i64 x.to) := (by rw [cell_of_row _ _ _ _ _ _ hx2]; rfl)
      have HB2 := Lib.hid (ext_trans HB.out hb)
      clear hb hx2))
 have HS : Hid (spotD (tsOf bs) x = if outE (tsOf bs) x = 0 then (0, false, 2) else if outE (tsOf bs) x = 1 then (x.fr, true, 0) else if inE (tsOf bs) x = 1 then (x.to, false, 0) else (0, false, 5)) := rfl
 generalize (outE (tsOf bs) x) = n1 at *
 generalize (inE (tsOf bs) x) = n2 at *
 by_cases e0 : n1 = 0
 · subst e0
   rw [if_pos rfl] at HS
   have HS := HS
   go_wp2
   exact bodyPost_ret (v := .tuple #[.int .i64 0, .bool false, .int .i64 2]) (by simp [results, Try.results17, go_sem, Act.put]) rfl ⟨by rw [HS.out], HB2.out⟩
 · have d0 : decide ((n1 : Int) = 0) = false := by simp; omega
   rw [if_neg e0] at HS
   by_cases e1 : n1 = 1
   · subst e1
     rw [if_pos rfl] at HS
     go_wp2
     exact bodyPost_ret (v := .tuple #[.int .i64 x.fr, .bool true, .int .i64 0]) (by simp [results, Try.results17, go_sem, Act.put]) rfl ⟨by rw [HS.out], HB2.out⟩
   · have d1 : decide ((n1 : Int) = 1) = false := by simp; omega
     rw [if_neg e1] at HS
     by_cases e2 : n2 = 1
     · subst e2
       rw [if_pos rfl] at HS
       go_wp2
       exact bodyPost_ret (v := .tuple #[.int .i64 x.to, .bool false, .int .i64 0]) (by simp [results, Try.results17, go_sem, Act.put]) rfl ⟨by rw [HS.out], HB2.out⟩
     · have d2 : decide ((n2 : Int) = 1) = false := by simp; omega
       rw [if_neg e2] at HS
       go_wp2
       exact bodyPost_ret (v := .tuple #[.int .i64 0, .bool false, .int .i64 5]) (by simp [results, Try.results17, go_sem, Act.put]) rfl ⟨by rw [HS.out], HB2.out⟩
end
end Go.Proofs.Ytblhmdhfhaencaa
