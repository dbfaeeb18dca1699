/-
 Tile: Fits, Own, Entries.
-/
import Derived.Test.YtblhmdhfhaencaaGreatEA
import Derived.Test.YtblhmdhfhaencaaGreatRowG
import Derived.Test.YtblhmdhfhaencaaGreatBP
import Derived.Test.YtblhmdhfhaencaaGreatTD
namespace Go.Proofs.YtblhmdhfhaencaaGreat
set_option linter.unusedSimpArgs false
set_option linter.unusedVariables false
set_option linter.unusedSectionVars false
set_option maxRecDepth 100000
set_option maxHeartbeats 40000000
section
open Go.RowKit Go.Shelf
attribute [local go_sem] Oper.semAt_some wide_fn wide_depth wide_fnR wide_depthR
abbrev walkZ : Obj := .cells #[nilV, nilV, nilV, nilV] 116
theorem tfits_any (pa : Option Addr) (pn pc : Nat) (ba : Option Addr) (bn bc : Nat) (bs : List BlkH) (w : World) (h : BlksOK w ba bn bs) :
  Calls Tryz.prog 40 #[funcV pa pn pc ba bn bc] w fun e w' => e = .returned (.bool (fitsB (tsOf bs))) ∧ Below w.heap.size w w' := by
 have H := Lib.hid h
 clear h
 go_enter Tryz.func40, Tryz.ntmps40
 go_upto_region 1 with (fail)
 obtain ⟨W, hW⟩ : ∃ W, W = w.alloc (funcO pa pn pc ba bn bc) := ⟨_, rfl⟩
 rw [← hW]
 have hk0 : W.heap[w.heap.size]? = some (funcO pa pn pc ba bn bc) := by rw [hW]; exact heap_alloc_new _ _
 have hB : Below w.heap.size w W := by rw [hW]; exact ext_alloc _ _
 have HK := Lib.hid hk0
 have HB := Lib.hid hB
 clear hW hk0 hB
 go_wp2_with (first
  | (refine wpList_load_row (o := ⟨some 6, .load 25 _, _, _, _, _⟩) rfl 25 _ rfl w.heap.size rfl 25 _ (0, 0) _ HK.out Tryz.underlying25 rfl size_func ?_)
  | (go_at_call 78
     refine (over_any pa pn pc ba bn bc bs W (H.out.ext HB.out)).mono ?_;rintro e w2 ⟨cs, rfl, hcs, hall, hb, hokk⟩;have HB2 := Lib.hid (ext_trans HB.out hb);have HCS := Lib.hid hcs;have HALL := Lib.hid hall
     clear hb hokk hcs hall)
  | (refine wpList_store_row rfl 116 _ _ rfl w2.heap.size cs rfl rfl 116 _ (heap_alloc_new w2 walkZ) (by rw [HCS.out]; exact size_walk) (by rw [HCS.out]; rfl) HALL.out ?_))
 go_ret
 exact ⟨rfl, below_setRow (HB2.out.alloc HB2.out.size _) HB2.out.size _⟩
def TOwnPost (ts : List TermD) (l : List TileD) (n : Nat) (w : World) (e : Ending) (w' : World) : Prop :=
 ∃ v en, e = .returned (.tuple #[v, .int .i64 en]) ∧ Below w.heap.size w w' ∧ (fitsB ts = false → v = nilV ∧ en = 2) ∧ (fitsB ts = true → ownB l n = false → v = nilV ∧ en = 12) ∧
   (fitsB ts = true → ownB l n = true → en = 0 ∧ ∃ g c, v = .slice (some ⟨g, 0, none⟩) n c ∧ OwnI w' w.heap.size v (ownL l n))
theorem fits_good {ts : List TermD} (h : fitsB ts = true) : goodB ts = true := by simp only [fitsB, Bool.and_eq_true] at h; exact h.1
theorem town_any (pa : Option Addr) (pn pc : Nat) (ba : Option Addr) (bn bc : Nat) (bs : List BlkH) (a : Option Addr) (n c : Nat) (ls : List TileR) (w : World) (h : BlksOK w ba bn bs) (ht : TilesOK w a n ls) :
  Calls Tryz.prog 37 #[funcV pa pn pc ba bn bc, .slice a n c] w (TOwnPost (tsOf bs) (tdOf ls) bn w) := by
 have H := Lib.hid h
 have HT := Lib.hid ht
 clear h ht
 go_enter Tryz.func37, Tryz.ntmps37
 go_upto_region 1 with (fail)
 obtain ⟨W, hW⟩ : ∃ W, W = w.alloc (funcO pa pn pc ba bn bc) := ⟨_, rfl⟩
 rw [← hW]
 have hk0 : W.heap[w.heap.size]? = some (funcO pa pn pc ba bn bc) := by rw [hW]; exact heap_alloc_new _ _
 have hB : Below w.heap.size w W := by rw [hW]; exact ext_alloc _ _
 have HK := Lib.hid hk0
 have HB := Lib.hid hB
 clear hW hk0 hB
 cases hf : fitsB (tsOf bs) with
 | false =>
   have HF := Lib.hid hf;clear hf
   go_wp2_with (first
    | (refine wpList_load_row (o := ⟨some 10, .load 25 _, _, _, _, _⟩) rfl 25 _ rfl w.heap.size rfl 25 _ (0, 0) _ HK.out Tryz.underlying25 rfl size_func ?_)
    | (go_at_call 78
       refine (over_any pa pn pc ba bn bc bs W (H.out.ext HB.out)).mono ?_;rintro e w2 ⟨cs, rfl, hcs, hall, hb, hokk⟩;rw [HF.out];have HB2 := Lib.hid (ext_trans HB.out hb);have HCS := Lib.hid hcs;have HALL := Lib.hid hall
       clear hb hokk hcs hall)
    | (refine wpList_store_row rfl 116 _ _ rfl w2.heap.size cs rfl rfl 116 _ (heap_alloc_new w2 walkZ) (by rw [HCS.out]; exact size_walk) (by rw [HCS.out]; rfl) HALL.out ?_))
   exact bodyPost_ret (v := .tuple #[nilV, .int .i64 2]) (by simp [results, Tryz.results37, go_sem, Act.put]) rfl ⟨_, _, rfl, below_setRow (HB2.out.alloc HB2.out.size _) HB2.out.size _, fun _ => ⟨rfl, rfl⟩, (fun h => by rw [HF.out] at h; cases h), (fun h => by rw [HF.out] at h; cases h)⟩
 | true =>
   have HF := Lib.hid hf;have hgood := (goodB_iff _).1 (fits_good hf);have hbn : (tsOf bs).length = bn := by rw [tsOf_len]; exact H.out.1.1
   have hbn1 : 1 ≤ bn := by rw [← hbn]; exact hgood.1.1
   have hbn2 : bn ≤ 200 := by rw [← hbn]; exact hgood.1.2
   clear hf hgood hbn
   go_upto_region 4 with (first
    | (refine wpList_load_row (o := ⟨some 10, .load 25 _, _, _, _, _⟩) rfl 25 _ rfl w.heap.size rfl 25 _ (0, 0) _ HK.out Tryz.underlying25 rfl size_func ?_)
    | (go_at_call 78
       refine (over_any pa pn pc ba bn bc bs W (H.out.ext HB.out)).mono ?_;rintro e w2 ⟨cs, rfl, hcs, hall, hb, hokk⟩;rw [HF.out];obtain ⟨ta, tc, fa, fc, hcv, hwk⟩ := hokk HF.out;injection hcv with hcv;subst hcv;have HB2 := Lib.hid (ext_trans HB.out hb);have HWK := Lib.hid hwk
       clear hb hokk hcs hall hwk)
    | (refine wpList_store_row rfl 116 _ _ rfl w2.heap.size #[.slice pa pn pc, .slice ba bn bc, .slice ta bn tc, .slice fa bn fc] rfl rfl 116 _ (heap_alloc_new w2 walkZ) size_walk rfl rfl ?_))
   obtain ⟨W3, hW3⟩ : ∃ W3, W3 = w2.alloc (walkO ⟨pa, pn, pc, ba, bn, bc, ta, tc, fa, fc⟩) := ⟨_, rfl⟩
   rw [← hW3];have hw3 : W3.heap[w2.heap.size]? = some (walkO ⟨pa, pn, pc, ba, bn, bc, ta, tc, fa, fc⟩) := by rw [hW3]; exact heap_alloc_new _ _
   have HW3 := Lib.hid hw3;have HB3' : Below w2.heap.size w2 W3 := by rw [hW3]; exact ext_alloc _ _
   have HB3 := Lib.hid (ext_trans HB2.out HB3');have HWK3 := Lib.hid (HWK.out.ext HB3');clear hW3 hw3 HB3' HWK HB2
   go_upto_region 5 with (first
    | (refine wpList_load_row (o := ⟨some 16, .load 116 _, _, _, _, _⟩) rfl 116 _ rfl w2.heap.size rfl 116 _ (0, 0) _ HW3.out Tryz.underlying116 rfl size_walk ?_)
    | (go_at_call 91
       refine (own_any ⟨pa, pn, pc, ba, bn, bc, ta, tc, fa, fc⟩ hbn1 hbn2 a n c ls W3 (HT.out.ext HB3.out)).mono ?_;rintro e w4 ⟨v, rfl, hb4, ho1, ho2⟩;have HB4 := Lib.hid (ext_trans HB3.out hb4);have HO1 := Lib.hid ho1;have HO2 := Lib.hid ho2;have hsz := HB3.out.size
       clear hb4 ho1 ho2))
   cases hob : ownB (tdOf ls) bn with
   | false =>
     have hv : v = nilV := HO2.out hob;subst hv;have HOB := Lib.hid hob;clear hob HO1 HO2;have hq := fun w n c n' c' => Lib.run_eql_slice_nil (P := Tryz.prog) w 22 3 none n c n' c' Tryz.underlying22;go_wp2;exact bodyPost_ret (v := .tuple #[nilV, .int .i64 12]) (by simp [results, Tryz.results37, go_sem, Act.put]) rfl ⟨_, _, rfl, HB4.out, (fun h => by rw [HF.out] at h; cases h), fun _ _ => ⟨rfl, rfl⟩, (fun _ h => by rw [HOB.out] at h; cases h)⟩
   | true =>
     obtain ⟨g, cc, rfl, ho⟩ := HO1.out hob;have HOB := Lib.hid hob;have HO := Lib.hid ho;clear hob HO1 HO2 ho;have hq := fun w n c n' c' => Lib.run_eql_slice_nil (P := Tryz.prog) w 22 3 (some ⟨g, 0, none⟩) n c n' c' Tryz.underlying22;go_wp2;exact bodyPost_ret (v := .tuple #[.slice (some ⟨g, 0, none⟩) bn cc, .int .i64 0]) (by simp [results, Tryz.results37, go_sem, Act.put]) rfl ⟨_, _, rfl, HB4.out, (fun h => by rw [HF.out] at h; cases h), (fun _ h => by rw [HOB.out] at h; cases h), fun _ _ => ⟨rfl, g, cc, rfl, HO.out.mono hsz⟩⟩
end

section
open Go.RowKit Go.Shelf
attribute [local go_sem] Oper.semAt_some wide_fn wide_depth wide_fnR wide_depthR
def csE (x : EdgeD) : List Value := [.int .i64 x.fr, .int .i64 x.arm, .int .i64 x.to]
theorem csE_len (x : EdgeD) : (csE x).length = 3 := rfl
abbrev OwnE (w : World) (base : Nat) (v : Value) (l : List EdgeD) : Prop := OwnR 46 3 csE w base v l
abbrev EdgS (w : World) (a : Option Addr) (n : Nat) (l : List EdgeD) : Prop := Recs 3 csE w a n l
theorem infoE : (Tryz.prog.info? 46).map (fun i => (i.zero, i.size, i.bytes)) = some (some (.agg #[.int .i64 0, .int .i64 0, .int .i64 0]), 3, 24) := by kernel_rfl
def EdgesPost (w : World) (l : List EdgeD) (e : Ending) (w' : World) : Prop := ∃ v, e = .returned v ∧ OwnE w' w.heap.size v l ∧ Below w.heap.size w w'
def AJE (w : World) (B base : Nat) (xs : List EdgeD) (W : World) : Prop :=
 ∃ v, W.heap[B]? = some (.cells #[v] 50 (0, 0)) ∧ OwnE W base v xs ∧ v.ownBlock ≠ some B ∧ Below w.heap.size w W ∧ w.heap.size < W.heap.size
theorem AJE.steady {w : World} {B base : Nat} {xs : List EdgeD} {D : Nat} (hD : w.heap.size ≤ D) : Steady D (AJE w B base xs) := by
 unfold AJE
 exact Steady.ex fun v => (Steady.block _ _ rfl).and ((Steady.ownR _ _ _ _).and ((Steady.pure _ _).and ((Steady.below (Nat.le_refl _) hD).and (Steady.size _ _))))
theorem appendSeqE_any (gf : Nat) (lb : Array Value) (l : List EdgeD) (w : World) (eg : ∀ args w, (callFunc gf args).run Tryz.prog w = .ok (.enter gf args) w) (hit : IterTI Tryz.prog gf lb encE l (fun W => Below w.heap.size w W)) (hl : l.length ≤ 1000000) :
  Calls Tryz.prog 122 #[.slice none 0 0, .func (.func gf) #[] lb] w (EdgesPost w l) := by
 refine (callsIn_wide (n := 0)).1 ?_
 refine callsIn_of_wp_marks Tryz.func122 rfl trivial ?_
 simp only [Tryz.ntmps122, List.size_toArray, List.length_cons, List.length_nil, Nat.reduceAdd, Nat.reduceSub, Array.replicate_succ, Array.replicate_zero, List.push_toArray, List.append_toArray, List.nil_append, List.cons_append]
 have HIT := Lib.hid hit
 clear hit
 gi_wp2
 refine range_listTB (ps := #[7]) (gf := gf) (lb := lb) (enc := encE) (l := l) rfl eg (fun W => Below w.heap.size w W) HIT.out (fun _ => rfl)
  (fun d r W => Hid (AJE w w.heap.size w.heap.size d W))
  (fun _ _ => False)
  (fun d r => AJE.steady (by simp)) (fun c => Steady.pure _ _) (fun d r W h => by obtain ⟨v, _, _, _, hb, _⟩ := h.out; exact hb)
  (TV w.heap.size 50) ?t0 ?tg ?start ?round ?done ?stop
 case t0 =>
  intro d r W k h ht;obtain ⟨v, hv, ho, _, _, h1⟩ := h.out;rcases ht with rfl | ⟨u, hu, hk⟩
  · exact h1
  · rw [hv] at hu;simp only [Option.some.injEq, Obj.cells.injEq, Array.mk.injEq, List.cons.injEq, and_true] at hu;subst hu;exact (ho.low hk).2
 case tg =>
  rintro W W' row hg hr ⟨d, r, h⟩ k ht;obtain ⟨v, hv, _⟩ := h.out;refine ht.ext (hg.block _ (Array.getElem?_eq_some_iff.1 hv).1 fun e => ?_);obtain ⟨_, o, ho, hb⟩ := hr _ e.symm;rw [hv] at ho;cases ho;cases hb
 case start => exact ⟨_, heap_alloc_new _ _, OwnR.nil _ _ _ _ _, by simp [Value.ownBlock], (Below.refl _ w).alloc (Nat.le_refl _) _, by simp⟩
 case round =>
  rintro lp d x r W hd hJ;unfold encE
  gi_wp2
  obtain ⟨v1, hv1, ho1, hne1, hb1, hlt1⟩ := hJ.out;have hbW : Below W.heap.size W (W.alloc (.cells #[.int .i64 x.fr, .int .i64 x.arm, .int .i64 x.to] 46)) := ext_alloc _ _;refine ⟨Keep.ext hbW, (AJE.steady (Nat.le_refl _)).ext hJ hbW, tch_below hlt1 hbW, fun W2 => W2.heap[W.heap.size]? = some (.cells #[.int .i64 x.fr, .int .i64 x.arm, .int .i64 x.to] 46 (0, 0)), Steady.block _ _ rfl, heap_alloc_new _ _, ?_⟩;generalize W.heap.size = g at *;clear hv1 ho1 hne1 hb1 hlt1 hbW hJ lp;rintro lp W2 hJ hG;obtain ⟨v, hv, ho, hne, hb, hlt0⟩ := hJ.out;obtain ⟨av, cv, rfl⟩ := ho.form;have hc0 : W2.cell? ⟨w.heap.size, 0, none⟩ = some (.slice av d.length cv) := by rw [cell_of_row _ _ _ _ _ _ hv]; rfl
  have hf0 : W2.frozen? ⟨w.heap.size, 0, none⟩ = false := frozen_of_row _ _ _ _ _ hv;have hg0 : W2.cell? ⟨g, 0, none⟩ = some (.int .i64 x.fr) := by rw [cell_of_row _ _ _ _ _ _ hG]; rfl
  have hg1 : W2.cell? ⟨g, 1, none⟩ = some (.int .i64 x.arm) := by rw [cell_of_row _ _ _ _ _ _ hG]; rfl
  have hg2 : W2.cell? ⟨g, 2, none⟩ = some (.int .i64 x.to) := by rw [cell_of_row _ _ _ _ _ _ hG]; rfl
  have HO := Lib.hid ho;have HV := Lib.hid hv;have HB := Lib.hid hb;have HNE := Lib.hid hne;have hlen : d.length ≤ 1000000 := by rw [hd] at hl; simp at hl; omega
  clear hv ho hb hJ hne hG
  gi_wp2_with (
   (gi_at_builtin
    refine listIn_of (by repeat (first | exact noOut_round | refine noOut_then ?_ | refine noOut_block ?_)) _ _ _ rfl ?_;refine wpList_append1 rfl W2 (.tmp 8) (.tmp 10) 50 46 rfl w.heap.size _ 3 24 Tryz.underlying50 infoE rfl (by omega) (.slice av d.length cv) d.length _ (csE x) rfl HO.out.1 W2.heap.size rfl rfl rfl (by simp [csE, Value.oneCell']) (by simp only [maxLen]; omega) (by omega) (by omega) ?_;intro g2 cap w2 hown2 hgr2 hat2;have HO2 := Lib.hid hown2;have HG2 := Lib.hid hgr2;have HA2 := Lib.hid hat2;have hv2 := grown_row hgr2 HV.out HNE.out;have hc2 : w2.cell? ⟨w.heap.size, 0, none⟩ = some (.slice av d.length cv) := (by rw [cell_of_row _ _ _ _ _ _ hv2]; rfl)
    have hf2 : w2.frozen? ⟨w.heap.size, 0, none⟩ = false := frozen_of_row _ _ _ _ _ hv2;have hlt2 : w.heap.size < w2.heap.size := (Array.getElem?_eq_some_iff.1 hv2).1;have HV2 := Lib.hid hv2
    clear hown2 hgr2 hat2 hv2 hc0 hf0))
  go_wp2;have hb2 : Below w.heap.size w w2 := HB.out.grown HG2.out HB.out.size (fun k e => (HO.out.low e).1);have hgne : g2 ≠ w.heap.size := by
   rcases HA2.out with h | h
   · exact fun e => HNE.out (by rw [← h, e])
   · omega
  have hB2 := heap_setCell_same w2 w.heap.size 0 _ _ (.slice (some ⟨g2, 0, none⟩) (d.length + 1) cap) HV2.out;simp only [List.setIfInBounds_toArray, List.set_cons_zero] at hB2;refine ⟨(Keep.grown HG2.out (own_nobook HO.out.1)).trans (Keep.setCell _ _ _), ⟨_, hB2, ?_, by simpa [Value.ownBlock] using hgne, ?_⟩, ?_⟩
  · refine OwnR.kept (row := some w.heap.size) (w := w2) ⟨?_, by simp; omega⟩ (grown_setCell w2 w.heap.size 0 _) (.inr (by simp [Value.ownBlock]; omega));have := HO2.out;simpa [List.flatMap_append] using this
  · exact ⟨hb2.setCell (Nat.le_refl _) _, by simpa using hlt2⟩
  · refine tch_var HV.out hB2 (by simpa using HG2.out.size) (fun k hk hkB hkv => ?_) (fun k hk => ?_)
    · rw [Below.heap_setCell _ _ _ _ (fun e => hkB e), HG2.out.block k hk (fun e => hkv e.symm)]
    · simp only [Value.ownBlock, Option.some.injEq] at hk;subst hk;rcases HA2.out with h | h
      · exact .inl h.symm
      · exact .inr (by omega)
 case done =>
  rintro D W hD hJ hK;obtain ⟨v, hv, ho, hne, hb, hlt0⟩ := hJ.out;obtain ⟨av, cv, rfl⟩ := ho.form;have hc0 : W.cell? ⟨w.heap.size, 0, none⟩ = some (.slice av l.length cv) := by rw [cell_of_row _ _ _ _ _ _ hv]; rfl
  have HO := Lib.hid ho;have HB := Lib.hid hb;have HJ := hJ;clear hv ho hb hJ hne
  gi_wp2
  obtain ⟨v2, hv2, ho2, _, hb2, _⟩ := (AJE.steady (w := w) (B := w.heap.size) (base := w.heap.size) (xs := l) (D := w.heap.size) (Nat.le_refl _)).put (.deferred none) (l := D) HJ.out (by simp at hD; omega) hK rfl;refine ⟨by simp, .inl ⟨_, _, rfl, run_takeDeferred hK, ?_⟩⟩;have ho3 : OwnE (W.putObj D (.deferred none)) w.heap.size (.slice av l.length cv) l := (Steady.ownR w.heap.size w.heap.size (.slice av l.length cv) l).put (.deferred none) (l := D) HO.out (by simp at hD; omega) hK rfl;exact ⟨.slice av l.length cv, by simp [results, Tryz.results122, go_sem], _, rfl, ho3, hb2⟩
 case stop => rintro D c W hD h; exact h.elim
theorem collectE_any (gf : Nat) (lb : Array Value) (l : List EdgeD) (w : World) (eg : ∀ args w, (callFunc gf args).run Tryz.prog w = .ok (.enter gf args) w) (hit : IterTI Tryz.prog gf lb encE l (fun W => Below w.heap.size w W)) (hl : l.length ≤ 1000000) :
  Calls Tryz.prog 69 #[.func (.func gf) #[] lb] w (EdgesPost w l) := by
 have HIT := Lib.hid hit
 have EG := Lib.hid eg
 clear hit eg
 go_enter Tryz.func69, Tryz.ntmps69
 go_wp2_with (go_at_call 122; refine (appendSeqE_any gf lb l w EG.out HIT.out hl).mono ?_; rintro e w' ⟨v, rfl, ho, hb⟩; have HO := Lib.hid ho; have HB := Lib.hid hb; clear ho hb)
 go_ret
 exact ⟨_, rfl, HO.out, HB.out⟩
theorem enter_eachE (args : Array Value) (w : World) : (callFunc 123 args).run Tryz.prog w = .ok (.enter 123 args) w := enters_of Tryz.func123 (by kernel_rfl) rfl args w
theorem allE_any (pa : Option Addr) (pn pc : Nat) (ba : Option Addr) (bn bc : Nat) (bs : List BlkH) (w : World) (h : BlksOK w ba bn bs) :
  Calls Tryz.prog 26 #[funcV pa pn pc ba bn bc] w (EdgesPost w (allE (tsOf bs))) := by
 have H := Lib.hid h
 clear h
 go_enter Tryz.func26, Tryz.ntmps26
 go_upto_region 1 with (fail)
 obtain ⟨W, hW⟩ : ∃ W, W = w.alloc (funcO pa pn pc ba bn bc) := ⟨_, rfl⟩
 rw [← hW]
 have hk0 : W.heap[w.heap.size]? = some (funcO pa pn pc ba bn bc) := by rw [hW]; exact heap_alloc_new _ _
 have hB : Below w.heap.size w W := by rw [hW]; exact ext_alloc _ _
 have HK := Lib.hid hk0
 have HB := Lib.hid hB
 clear hW hk0 hB
 cases hf : fitsB (tsOf bs) with
 | false =>
   have HF := Lib.hid hf;clear hf
   go_wp2_with (first
    | (refine wpList_load_row (o := ⟨some 3, .load 25 _, _, _, _, _⟩) rfl 25 _ rfl w.heap.size rfl 25 _ (0, 0) _ HK.out Tryz.underlying25 rfl size_func ?_)
    | (go_at_call 40
       refine (tfits_any pa pn pc ba bn bc bs W (H.out.ext HB.out)).mono ?_;rintro e w2 ⟨rfl, hb⟩;rw [HF.out];have HB2 := Lib.hid (ext_trans HB.out hb)
       clear hb))
   go_ret
   exact ⟨_, rfl, by rw [allE, HF.out]; exact OwnR.nil _ _ _ _ _, HB2.out⟩
 | true =>
   have HF := Lib.hid hf;have hbn : (tsOf bs).length ≤ 200 := ((goodB_iff _).1 (fits_good hf)).1.2;clear hf
   go_wp2_with (first
    | (refine wpList_load_row (o := ⟨some 3, .load 25 _, _, _, _, _⟩) rfl 25 _ rfl w.heap.size rfl 25 _ (0, 0) _ HK.out Tryz.underlying25 rfl size_func ?_)
    | (go_at_call 69
       refine (collectE_any _ _ (edgesL (tsOf bs)) _ enter_eachE ((eachE_iterTI pa pn pc ba bn bc bs w2.heap.size).mono fun W' hb' => ⟨block_ext hb' (heap_alloc_new _ _), (H.out.ext (ext_trans HB2.out (ext_alloc w2 _))).ext hb'⟩) (by have := edgesL_len (tsOf bs); omega)).mono ?_;rintro e w3 ⟨v, rfl, ho, hb⟩;have hsz := HB2.out.size;have HO := Lib.hid (ho.mono (base' := w.heap.size) (by simp; omega));have HB3 := Lib.hid (ext_trans HB2.out (ext_trans (ext_alloc w2 _) hb))
       clear ho hb hsz)
    | (go_at_call 70
       refine (each40_any pa pn pc ba bn bc w2).mono ?_
       rintro e w3 ⟨rfl, rfl⟩)
    | (refine wpList_load_row (o := ⟨some 6, .load 25 _, _, _, _, _⟩) rfl 25 _ rfl w.heap.size rfl 25 _ (0, 0) _ HK2.out Tryz.underlying25 rfl size_func ?_)
    | (go_at_call 40
       refine (tfits_any pa pn pc ba bn bc bs W (H.out.ext HB.out)).mono ?_;rintro e w2 ⟨rfl, hb⟩;rw [HF.out];have HK2 := Lib.hid (block_ext hb HK.out);have HB2 := Lib.hid (ext_trans HB.out hb)
       clear hb))
   go_ret
   exact ⟨_, rfl, by rw [allE, HF.out]; exact HO.out, HB3.out⟩
end

section
open Go.RowKit
theorem part_int (cs : Array Value) (o : Nat) (v : Value) (w : World) (h : cs[o]? = some v) : (part 3 cs o).run Tryz.prog w = .ok v w := by
 have hu : (underlying 3).run Tryz.prog w = .ok (.int .i64) w := run_underlying Tryz.underlying3 w
 simp [part, isAgg, hu, h]
theorem under_edge : Tryz.prog.underlying 46 = some (.struct (Tryz.prog.fieldsOf 46)) := by kernel_rfl
theorem stood_edge : Tryz.prog.stoodInHeld 46 = false := by kernel_rfl
theorem fields_edge : (Tryz.prog.fieldsOf 46).toList.map (fun f => (f.name, f.type, f.offset)) = [("From", 3, 0), ("Arm", 3, 1), ("To", 3, 2)] := by kernel_rfl
theorem eqFields3 (w : World) (d : Nat) (xs ys : Array Value) (fs : List Field) (n0 n1 n2 : String) (t0 t1 t2 : TypeId) (o0 o1 o2 : Nat) (hf : fs.map (fun f => (f.name, f.type, f.offset)) = [(n0, t0, o0), (n1, t1, o1), (n2, t2, o2)]) (h0 : n0 ≠ "_") (h1 : n1 ≠ "_") (h2 : n2 ≠ "_")
  (x0 y0 x1 y1 x2 y2 : Value) (b0 b1 b2 : Bool) (px0 : (part t0 xs o0).run Tryz.prog w = .ok x0 w) (py0 : (part t0 ys o0).run Tryz.prog w = .ok y0 w) (px1 : (part t1 xs o1).run Tryz.prog w = .ok x1 w) (py1 : (part t1 ys o1).run Tryz.prog w = .ok y1 w) (px2 : (part t2 xs o2).run Tryz.prog w = .ok x2 w) (py2 : (part t2 ys o2).run Tryz.prog w = .ok y2 w)
  (e0 : (Op.equalIn d t0 x0 y0).run Tryz.prog w = .ok b0 w) (e1 : (Op.equalIn d t1 x1 y1).run Tryz.prog w = .ok b1 w) (e2 : (Op.equalIn d t2 x2 y2).run Tryz.prog w = .ok b2 w) : (Op.eqFields d xs ys fs).run Tryz.prog w = .ok (b0 && (b1 && b2)) w := by
 match fs, hf with
 | [f, g, h], hf =>
   simp only [List.map_cons, List.map_nil, List.cons.injEq, Prod.mk.injEq, and_true] at hf;obtain ⟨⟨rfl, rfl, rfl⟩, ⟨rfl, rfl, rfl⟩, ⟨rfl, rfl, rfl⟩⟩ := hf;simp only [Op.eqFields, Sem.run_bind, Sem.run_ite, h0, h1, h2, ne_eq, not_false_eq_true, if_true, px0, py0, e0, Result.andThen_ok];cases b0 with
   | false => simp
   | true =>
     simp only [Sem.run_bind, px1, py1, e1, Result.andThen_ok, Sem.run_ite];cases b1 with
     | false => simp [h1, h2, px1, py1, e1]
     | true => cases b2 <;> simp [h1, h2, px1, py1, e1, px2, py2, e2]
def sameE (x y : EdgeD) : Bool := x.fr == y.fr && (x.arm == y.arm && x.to == y.to)
theorem sameE_iff (x y : EdgeD) : sameE x y = true ↔ y = x := by
 cases x; cases y
 simp only [sameE, Bool.and_eq_true, beq_iff_eq, EdgeD.mk.injEq]
 constructor
 · rintro ⟨h1, h2, h3⟩; exact ⟨h1.symm, h2.symm, h3.symm⟩
 · rintro ⟨h1, h2, h3⟩; exact ⟨h1.symm, h2.symm, h3.symm⟩
abbrev edgeV (x : EdgeD) : Value := .agg #[.int .i64 x.fr, .int .i64 x.arm, .int .i64 x.to]
abbrev edgeO (x : EdgeD) : Obj := .cells #[.int .i64 x.fr, .int .i64 x.arm, .int .i64 x.to] 46
theorem equal_edge (w : World) (x y : EdgeD) : (Op.equalIn 10000 46 (edgeV x) (edgeV y)).run Tryz.prog w = .ok (sameE x y) w := by
 rw [run_equalIn_struct w 9999 _ _ _ under_edge stood_edge]
 exact eqFields3 w 9999 _ _ _ _ _ _ _ _ _ _ _ _ fields_edge (by decide) (by decide) (by decide) (.int .i64 x.fr) (.int .i64 y.fr) (.int .i64 x.arm) (.int .i64 y.arm) (.int .i64 x.to) (.int .i64 y.to) _ _ _ (part_int _ _ _ w rfl) (part_int _ _ _ w rfl) (part_int _ _ _ w rfl) (part_int _ _ _ w rfl) (part_int _ _ _ w rfl) (part_int _ _ _ w rfl)
  (run_equalIn_int w 9998 _ .i64 .i64 _ _ Tryz.underlying3) (run_equalIn_int w 9998 _ .i64 .i64 _ _ Tryz.underlying3) (run_equalIn_int w 9998 _ .i64 .i64 _ _ Tryz.underlying3)
theorem eql_edge (w : World) (x y : EdgeD) : (binOp .eql 46 (edgeV x) (edgeV y)).run Tryz.prog w = .ok (.bool (sameE x y)) w := by
 rw [run_eql_struct, equal_edge w]
 rfl
theorem neq_edge (w : World) (x y : EdgeD) : (binOp .neq 46 (edgeV x) (edgeV y)).run Tryz.prog w = .ok (.bool (!sameE x y)) w := by
 rw [run_neq_struct, equal_edge w]
 rfl
theorem edges_cells {w : World} {a : Option Addr} {n : Nat} {ls : List EdgeD} (h : EdgS w a n ls) {k : Nat} (hk : k < n) : ∃ r b o, ls[k]? = some r ∧ a = some ⟨b, o, none⟩ ∧ w.cell? ⟨b, o + k * 3, none⟩ = some (.int .i64 r.fr) ∧ w.cell? ⟨b, o + k * 3 + 1, none⟩ = some (.int .i64 r.arm) ∧ w.cell? ⟨b, o + k * 3 + 2, none⟩ = some (.int .i64 r.to) := by
 have hk' : k < ls.length := by rw [h.1]; exact hk
 obtain ⟨r, hr⟩ : ∃ r, ls[k]? = some r := ⟨ls[k], List.getElem?_eq_getElem hk'⟩
 obtain ⟨b, o, e, hc⟩ := h.2.2 k r hr
 exact ⟨r, b, o, hr, e, hc 0 (by omega), hc 1 (by omega), hc 2 (by omega)⟩
theorem indexE_any (a : Option Addr) (n c : Nat) (ls : List EdgeD) (x : EdgeD) (w : World) (h : EdgS w a n ls) :
  Calls Tryz.prog 173 #[.slice a n c, edgeV x] w fun e w' => e = .returned (.int .i64 (idxF (sameE x) ls)) ∧ Below w.heap.size w w' := by
 have HL := Lib.hid h.1
 have hn := h.2.1
 have H := Lib.hid h
 clear h
 have hq := fun w y => eql_edge w x y
 go_enter Tryz.func173, Tryz.ntmps173
 go_wp2
 go_loopw [5, 8] (fun _ i wr => ∃ (k : Nat), k ≤ n ∧ i = .int .i64 k ∧ Hid (∀ j y, j < k → ls[j]? = some y → sameE x y = false) ∧ Hid (Below (w.alloc (edgeO x)).heap.size (w.alloc (edgeO x)) wr)) (fun _ i _ => n - (intOf i).toNat)
 case atStart => exact ⟨0, by omega, rfl, fun j y hj => absurd hj (by omega), Below.refl _ _⟩
 case round =>
  obtain ⟨k, hk, rfl, HR, HB⟩ := hrel;have HBw : Hid (Below w.heap.size w wr) := ext_trans (ext_alloc _ _) HB.out;have hx := block_ext HB.out (heap_alloc_new w _);have x0 : wr.cell? ⟨w.heap.size, 0, none⟩ = some (.int .i64 x.fr) := by rw [cell_of_row _ _ _ _ _ _ hx]; rfl
  have x1 : wr.cell? ⟨w.heap.size, 1, none⟩ = some (.int .i64 x.arm) := by rw [cell_of_row _ _ _ _ _ _ hx]; rfl
  have x2 : wr.cell? ⟨w.heap.size, 2, none⟩ = some (.int .i64 x.to) := by rw [cell_of_row _ _ _ _ _ _ hx]; rfl
  clear hx;by_cases hlt : k < n
  · obtain ⟨r, b, o, hr, rfl, c0, c1, c2⟩ := edges_cells (H.out.ext csE_len HBw.out) hlt;have HG := Lib.hid hr;clear hr;have hk0 : (0 : Int) ≤ (k : Int) := by omega
    have hk1 : (k : Int) < (n : Int) := by omega
    have hq2 : ∀ w, (binOp .eql 46 (edgeV x) (edgeV r)).run Tryz.prog w = .ok (.bool (sameE x r)) w := fun w => hq w r;by_cases hy : sameE x r = true
    · have HE : Hid (idxF (sameE x) ls = k) := idxF_found _ ls k r HG.out hy HR.out;go_wp2
      go_quiet (fail)
      go_wp2
      go_ret
      exact ⟨by rw [HE.out]; rfl, ext_drewN HBw.out _⟩
    · have hy' : sameE x r = false := by simpa using hy
      have HE : Hid (∀ j z, j < k + 1 → ls[j]? = some z → sameE x z = false) := fun j z hj hz => by
       by_cases e : j = k
       · subst e;rw [HG.out] at hz;injection hz with hz;subst hz;exact hy'
       · exact HR.out j z (by omega) hz
      go_wp2
      go_quiet (fail)
      go_wp2
      go_roundw
      case rel => exact ⟨k + 1, by omega, by go_num, HE, ext_drewN HB.out _⟩
      case measure => simp [intOf]; omega
  · obtain rfl : k = n := by omega
    have HE : Hid (idxF (sameE x) ls = -1) := idxF_none _ ls (fun z hz => by
     obtain ⟨j, hj, e⟩ := List.mem_iff_getElem.1 hz
     exact HR.out j z (by rw [HL.out] at hj; exact hj) (by rw [List.getElem?_eq_getElem hj, e]))
    go_wp2
    go_ret
    exact ⟨by rw [HE.out]; rfl, HBw.out⟩
theorem containsE_any (a : Option Addr) (n c : Nat) (ls : List EdgeD) (x : EdgeD) (w : World) (h : EdgS w a n ls) :
  Calls Tryz.prog 121 #[.slice a n c, edgeV x] w fun e w' => e = .returned (.bool (decide (x ∈ ls))) ∧ Below w.heap.size w w' := by
 have HA : Hid (decide (0 ≤ idxF (sameE x) ls) = decide (x ∈ ls)) := by
  rw [Hid, idxF_any, Bool.eq_iff_iff, List.any_eq_true, decide_eq_true_iff];constructor
  · rintro ⟨y, h1, h2⟩; rw [sameE_iff] at h2; subst h2; exact h1
  · exact fun h => ⟨x, h, (sameE_iff _ _).2 rfl⟩
 have hg := idxF_ge (sameE x) ls
 have H := Lib.hid h
 clear h
 go_enter Tryz.func121, Tryz.ntmps121
 go_wp2_with (go_at_call 173; refine (indexE_any a n c ls x _ (H.out.ext csE_len (ext_alloc _ _))).mono ?_; rintro e w' ⟨rfl, hb'⟩; have HB' := Lib.hid (ext_trans (ext_alloc _ _) hb'); clear hb')
 go_ret
 exact ⟨ret_bool HA.out, HB'.out⟩
end

section
open Go.RowKit
attribute [local go_sem] Oper.semAt_some wide_fn wide_depth wide_fnR wide_depthR
theorem EdgesPost.form {w : World} {l : List EdgeD} {e : Ending} {w' : World} (h : EdgesPost w l e w') : ∃ a c, e = .returned (.slice a l.length c) ∧ OwnE w' w.heap.size (.slice a l.length c) l ∧ EdgS w' a l.length l ∧ Below w.heap.size w w' := by
 obtain ⟨v, rfl, ho, hb⟩ := h
 obtain ⟨a, c, rfl⟩ := ho.form
 exact ⟨a, c, rfl, ho, ho.recs csE_len, hb⟩
theorem size_edge : (Tryz.prog.info? 46).map (·.size) = some 3 := by kernel_rfl
theorem allE_len {ts : List TermD} : (allE ts).length ≤ 400 := by
 unfold allE
 split
 · rename_i h
   have := edgesL_len ts;have h1 : goodB ts = true := by simp only [fitsB, Bool.and_eq_true] at h; exact h.1
   have := ((goodB_iff ts).1 h1).1.2;omega
 · simp
def cntTo (p : EdgeD → Bool) (l : List EdgeD) (k : Nat) : Nat := (l.take k).countP p
theorem cntTo_step (p : EdgeD → Bool) (l : List EdgeD) (k : Nat) (r : EdgeD) (hr : l[k]? = some r) : cntTo p l (k + 1) = cntTo p l k + if p r then 1 else 0 := by
 rw [cntTo, cntTo, List.take_add_one, hr, Option.toList_some, List.countP_append, List.countP_singleton]
theorem cntTo_le (p : EdgeD → Bool) (l : List EdgeD) (k : Nat) : cntTo p l k ≤ l.length := by
 have h1 := List.countP_le_length (p := p) (l := l.take k)
 have h2 := List.length_take_le' k l
 unfold cntTo
 omega
theorem cnt_up {m n : Nat} {a b : Int} {q : Bool} (h : m = n + if (a == b) = true then 1 else 0) (hq : (a == b) = q) : m = n + if q = true then 1 else 0 := by
 rw [h, ← hq]
def EndsPost (ts : List TermD) (x : EdgeD) (w : World) (e : Ending) (w' : World) : Prop := e = .returned (.tuple #[.int .i64 (outE ts x), .int .i64 (inE ts x)]) ∧ Below w.heap.size w w'
theorem ends_any (pa : Option Addr) (pn pc : Nat) (ba : Option Addr) (bn bc : Nat) (bs : List BlkH) (x : EdgeD) (w : World) (h : BlksOK w ba bn bs) :
  Calls Tryz.prog 67 #[funcV pa pn pc ba bn bc, edgeV x] w (EndsPost (tsOf bs) x w) := by
 have H := Lib.hid h
 clear h
 go_enter Tryz.func67, Tryz.ntmps67
 go_upto_region 1 with (fail)
 obtain ⟨W, hW⟩ : ∃ W, W = (w.alloc (funcO pa pn pc ba bn bc)).alloc (edgeO x) := ⟨_, rfl⟩
 rw [← hW]
 have hk0 : W.heap[w.heap.size]? = some (funcO pa pn pc ba bn bc) := by rw [hW]; exact block_ext (ext_alloc _ _) (heap_alloc_new _ _)
 have hk1 : W.heap[w.heap.size + 1]? = some (edgeO x) := by rw [hW]; have := heap_alloc_new (w.alloc (funcO pa pn pc ba bn bc)) (edgeO x); simpa using this
 have hB : Below w.heap.size w W := by rw [hW]; exact ext_trans (ext_alloc _ _) (ext_alloc _ _)
 have HK := Lib.hid hk0
 have HX := Lib.hid hk1
 have HB := Lib.hid hB
 clear hW hk0 hk1 hB
 go_upto_region 2 with (first
   | (refine wpList_load_row (o := ⟨some 9, .load 25 _, _, _, _, _⟩) rfl 25 _ rfl w.heap.size rfl 25 _ (0, 0) _ HK.out Tryz.underlying25 rfl size_func ?_)
   | (go_at_call 26
      refine (allE_any pa pn pc ba bn bc bs W (H.out.ext HB.out)).mono ?_;intro e w2 hp;obtain ⟨la, lc, rfl, ho, hs, hb⟩ := hp.form;have HS := Lib.hid hs;have HX2 := Lib.hid (block_ext hb HX.out);have HB2 := Lib.hid (ext_trans HB.out hb)
      clear hb ho hs hp))
 clear HX HK HB
 have hlen : (allE (tsOf bs)).length ≤ 400 := allE_len
 cases hm : decide (x ∈ allE (tsOf bs)) with
 | false =>
   have HM := Lib.hid hm;have HO : Hid (outE (tsOf bs) x = 0) := if_neg (of_decide_eq_false hm);have HI : Hid (inE (tsOf bs) x = 0) := if_neg (of_decide_eq_false hm);clear hm
   go_wp2_with (first
    | (refine wpList_load_row (o := ⟨some 12, .load 46 _, _, _, _, _⟩) rfl 46 _ rfl (w.heap.size + 1) rfl 46 _ (0, 0) _ HX2.out Tryz.underlying46 rfl size_edge ?_)
    | (go_at_call 121
       refine (containsE_any la _ lc (allE (tsOf bs)) x w2 HS.out).mono ?_;rintro e w3 ⟨rfl, hb⟩;rw [HM.out];have HB3 := Lib.hid (ext_trans HB2.out hb)
       clear hb))
   refine bodyPost_ret (v := .tuple #[.int .i64 0, .int .i64 0]) (by simp [results, Tryz.results67, go_sem, Act.put]) rfl ⟨?_, HB3.out⟩;rw [HO.out, HI.out]; rfl
 | true =>
   have HM := Lib.hid hm;have hm' := of_decide_eq_true hm;have HO : Hid (outE (tsOf bs) x = cntTo (fun y => y.fr == x.fr) (allE (tsOf bs)) (allE (tsOf bs)).length) := by rw [Hid, cntTo, List.take_length]; exact if_pos hm'
   have HI : Hid (inE (tsOf bs) x = cntTo (fun y => y.to == x.to) (allE (tsOf bs)) (allE (tsOf bs)).length) := by rw [Hid, cntTo, List.take_length]; exact if_pos hm'
   clear hm hm';generalize (allE (tsOf bs)) = L at *
   go_wp2_with (first
    | (refine wpList_load_row (o := ⟨some 12, .load 46 _, _, _, _, _⟩) rfl 46 _ rfl (w.heap.size + 1) rfl 46 _ (0, 0) _ HX2.out Tryz.underlying46 rfl size_edge ?_)
    | (go_at_call 121
       refine (containsE_any la _ lc L x w2 HS.out).mono ?_;rintro e w3 ⟨rfl, hb⟩;rw [HM.out];have HX3 := Lib.hid (block_ext hb HX2.out);have HB3 := Lib.hid (ext_trans HB2.out hb);have HS3 := Lib.hid (HS.out.ext csE_len hb)
       clear hb))
   clear HX2 HB2 HS
   go_loopw [4, 5, 17] (fun o i j wr => ∃ (k : Nat), k ≤ L.length ∧ j = .int .i64 k ∧ o = .int .i64 (cntTo (fun y => y.fr == x.fr) L k) ∧ i = .int .i64 (cntTo (fun y => y.to == x.to) L k) ∧ Hid (Below w3.heap.size w3 wr)) (fun _ _ j _ => L.length - (intOf j).toNat)
   case atStart => exact ⟨0, by omega, rfl, by simp [cntTo], by simp [cntTo], Below.refl _ _⟩
   case round =>
    obtain ⟨k, hk, rfl, rfl, rfl, HBr⟩ := hrel;have hx := block_ext HBr.out HX3.out;have x0 : wr.cell? ⟨w.heap.size + 1, 0, none⟩ = some (.int .i64 x.fr) := by rw [cell_of_row _ _ _ _ _ _ hx]; rfl
    have x2 : wr.cell? ⟨w.heap.size + 1, 2, none⟩ = some (.int .i64 x.to) := by rw [cell_of_row _ _ _ _ _ _ hx]; rfl
    have hlx : w.heap.size + 1 < wr.heap.size := (Array.getElem?_eq_some_iff.1 hx).1;clear hx;by_cases hlt : k < L.length
    · obtain ⟨r, b, o, hr, rfl, c0, c1, c2⟩ := edges_cells (HS3.out.ext csE_len HBr.out) hlt;have HS1 := Lib.hid (cntTo_step (fun y => y.fr == x.fr) L k r hr);have HS2 := Lib.hid (cntTo_step (fun y => y.to == x.to) L k r hr);have hle1 := cntTo_le (fun y => y.fr == x.fr) L k;have hle2 := cntTo_le (fun y => y.to == x.to) L k;clear hr;generalize cntTo (fun y => y.fr == x.fr) L k = n1 at *;generalize cntTo (fun y => y.to == x.to) L k = n2 at *;cases h1 : (r.fr == x.fr) <;> cases h2 : (r.to == x.to)
      all_goals
       have HN1 := Lib.hid (cnt_up HS1.out h1);have HN2 := Lib.hid (cnt_up HS2.out h2);go_wp2
       go_roundw
      all_goals first
       | exact ⟨k + 1, by omega, by go_num, by simp [HN1.out], by simp [HN2.out], ext_trans HBr.out (ext_alloc _ _)⟩
       | (simp [intOf]; omega)
    · obtain rfl : k = L.length := by omega
      go_wp2;refine bodyPost_ret (v := .tuple #[.int .i64 (cntTo (fun y => y.fr == x.fr) L L.length), .int .i64 (cntTo (fun y => y.to == x.to) L L.length)]) (by simp [results, Tryz.results67, go_sem, Act.put]) rfl ⟨?_, ext_trans HB3.out HBr.out⟩;rw [HO.out, HI.out]
theorem critical_any (pa : Option Addr) (pn pc : Nat) (ba : Option Addr) (bn bc : Nat) (bs : List BlkH) (x : EdgeD) (w : World) (h : BlksOK w ba bn bs) :
  Calls Tryz.prog 28 #[funcV pa pn pc ba bn bc, edgeV x] w fun e w' => e = .returned (.bool (critB (tsOf bs) x)) ∧ Below w.heap.size w w' := by
 have H := Lib.hid h
 clear h
 go_enter Tryz.func28, Tryz.ntmps28
 go_upto_region 1 with (fail)
 obtain ⟨W, hW⟩ : ∃ W, W = (w.alloc (funcO pa pn pc ba bn bc)).alloc (edgeO x) := ⟨_, rfl⟩
 rw [← hW]
 have hk0 : W.heap[w.heap.size]? = some (funcO pa pn pc ba bn bc) := by rw [hW]; exact block_ext (ext_alloc _ _) (heap_alloc_new _ _)
 have hk1 : W.heap[w.heap.size + 1]? = some (edgeO x) := by rw [hW]; have := heap_alloc_new (w.alloc (funcO pa pn pc ba bn bc)) (edgeO x); simpa using this
 have hB : Below w.heap.size w W := by rw [hW]; exact ext_trans (ext_alloc _ _) (ext_alloc _ _)
 have HK := Lib.hid hk0
 have HX := Lib.hid hk1
 have HB := Lib.hid hB
 clear hW hk0 hk1 hB
 have HC : Hid (critB (tsOf bs) x = decide ((1 : Int) < min (outE (tsOf bs) x : Int) (inE (tsOf bs) x : Int))) := by
  rw [Hid, critB]
  congr 1
  apply propext;omega
 go_wp2_with (first
   | (refine wpList_load_row (o := ⟨some 8, .load 25 _, _, _, _, _⟩) rfl 25 _ rfl w.heap.size rfl 25 _ (0, 0) _ HK.out Tryz.underlying25 rfl size_func ?_)
   | (refine wpList_load_row (o := ⟨some 9, .load 46 _, _, _, _, _⟩) rfl 46 _ rfl (w.heap.size + 1) rfl 46 _ (0, 0) _ HX.out Tryz.underlying46 rfl size_edge ?_)
   | (go_at_call 67
      refine (ends_any pa pn pc ba bn bc bs x W (H.out.ext HB.out)).mono ?_;rintro e w2 ⟨rfl, hb⟩;generalize (outE (tsOf bs) x) = n1 at *;generalize (inE (tsOf bs) x) = n2 at *;have HB2 := Lib.hid (ext_trans HB.out hb)
      clear hb))
 go_ret
 exact ⟨ret_bool HC.out.symm, HB2.out⟩
theorem spot_any (pa : Option Addr) (pn pc : Nat) (ba : Option Addr) (bn bc : Nat) (bs : List BlkH) (x : EdgeD) (w : World) (h : BlksOK w ba bn bs) :
  Calls Tryz.prog 23 #[funcV pa pn pc ba bn bc, edgeV x] w fun e w' => e = .returned (.tuple #[.int .i64 (spotD (tsOf bs) x).1, .bool (spotD (tsOf bs) x).2.1, .int .i64 (spotD (tsOf bs) x).2.2]) ∧ Below w.heap.size w w' := by
 have H := Lib.hid h
 clear h
 go_enter Tryz.func23, Tryz.ntmps23
 go_upto_region 1 with (fail)
 obtain ⟨W, hW⟩ : ∃ W, W = (w.alloc (funcO pa pn pc ba bn bc)).alloc (edgeO x) := ⟨_, rfl⟩
 rw [← hW]
 have hk0 : W.heap[w.heap.size]? = some (funcO pa pn pc ba bn bc) := by rw [hW]; exact block_ext (ext_alloc _ _) (heap_alloc_new _ _)
 have hk1 : W.heap[w.heap.size + 1]? = some (edgeO x) := by rw [hW]; have := heap_alloc_new (w.alloc (funcO pa pn pc ba bn bc)) (edgeO x); simpa using this
 have hB : Below w.heap.size w W := by rw [hW]; exact ext_trans (ext_alloc _ _) (ext_alloc _ _)
 have HK := Lib.hid hk0
 have HX := Lib.hid hk1
 have HB := Lib.hid hB
 clear hW hk0 hk1 hB
 go_upto_region 2 with (first
   | (refine wpList_load_row (o := ⟨some 10, .load 25 _, _, _, _, _⟩) rfl 25 _ rfl w.heap.size rfl 25 _ (0, 0) _ HK.out Tryz.underlying25 rfl size_func ?_)
   | (refine wpList_load_row (o := ⟨some 11, .load 46 _, _, _, _, _⟩) rfl 46 _ rfl (w.heap.size + 1) rfl 46 _ (0, 0) _ HX.out Tryz.underlying46 rfl size_edge ?_)
   | (go_at_call 67
      refine (ends_any pa pn pc ba bn bc bs x W (H.out.ext HB.out)).mono ?_;rintro e w2 ⟨rfl, hb⟩;have hx2 := block_ext hb HX.out;have x0 : w2.cell? ⟨w.heap.size + 1, 0, none⟩ = some (.int .i64 x.fr) := (by rw [cell_of_row _ _ _ _ _ _ hx2]; rfl)
      have x2 : w2.cell? ⟨w.heap.size + 1, 2, none⟩ = some (.int .i64 x.to) := (by rw [cell_of_row _ _ _ _ _ _ hx2]; rfl)
      have HB2 := Lib.hid (ext_trans HB.out hb)
      clear hb hx2))
 have HS : Hid (spotD (tsOf bs) x = if outE (tsOf bs) x = 0 then (0, false, 2) else if outE (tsOf bs) x = 1 then (x.fr, true, 0) else if inE (tsOf bs) x = 1 then (x.to, false, 0) else (0, false, 5)) := rfl
 generalize (outE (tsOf bs) x) = n1 at *
 generalize (inE (tsOf bs) x) = n2 at *
 by_cases e0 : n1 = 0
 · subst e0;rw [if_pos rfl] at HS;have HS := HS;go_wp2;exact bodyPost_ret (v := .tuple #[.int .i64 0, .bool false, .int .i64 2]) (by simp [results, Tryz.results23, go_sem, Act.put]) rfl ⟨by rw [HS.out], HB2.out⟩
 · have d0 : decide ((n1 : Int) = 0) = false := by simp; omega
   rw [if_neg e0] at HS;by_cases e1 : n1 = 1
   · subst e1;rw [if_pos rfl] at HS;go_wp2;exact bodyPost_ret (v := .tuple #[.int .i64 x.fr, .bool true, .int .i64 0]) (by simp [results, Tryz.results23, go_sem, Act.put]) rfl ⟨by rw [HS.out], HB2.out⟩
   · have d1 : decide ((n1 : Int) = 1) = false := by simp; omega
     rw [if_neg e1] at HS;by_cases e2 : n2 = 1
     · subst e2;rw [if_pos rfl] at HS;go_wp2;exact bodyPost_ret (v := .tuple #[.int .i64 x.to, .bool false, .int .i64 0]) (by simp [results, Tryz.results23, go_sem, Act.put]) rfl ⟨by rw [HS.out], HB2.out⟩
     · have d2 : decide ((n2 : Int) = 1) = false := by simp; omega
       rw [if_neg e2] at HS;go_wp2;exact bodyPost_ret (v := .tuple #[.int .i64 0, .bool false, .int .i64 5]) (by simp [results, Tryz.results23, go_sem, Act.put]) rfl ⟨by rw [HS.out], HB2.out⟩
end

section
open Go.RowKit Go.Shelf
attribute [local go_sem] Oper.semAt_some wide_fn wide_depth wide_fnR wide_depthR
theorem index_set (w : World) (f : Nat → Bool) (b : Nat) (hb : b < 200) : (Instr.index 124 (.agg (setA f)) (.int .i64 (b : Int))).run Tryz.prog w = .ok (.bool (f b)) w := by
 have hz : (Go.sizeOf 4).run Tryz.prog w = .ok 1 w := by kernel_rfl
 have hb2 : (0 : Int) ≤ (b : Int) ∧ (b : Int) < ((200 : Nat) : Int) := by omega
 have h1 := part_bool (setA f) b _ w (setA_at f b hb)
 simp only [Instr.index, asIntOf, Sem.run_bind, Sem.run_pure, Result.andThen_ok, run_underlying (w := w) Tryz.underlying124, if_pos hb2, hz]
 simpa using h1
theorem rings1_any (d : WalkD) (ts : List TermD) (f : Nat → Bool) (P S : Nat) (x : Nat) (hx : x < 200) (W : World) (hP : W.heap[P]? = some (walkO d)) (hS : W.heap[S]? = some (setO f)) (hok : WalkOK W d ts) (hg : goodB ts = true) (hcf : Canon f) (hf : x < d.bn) :
  Calls Tryz.prog 207 (#[.int .i64 (x : Int)] ++ #[.pointer (some ⟨P, 0, none⟩), .pointer (some ⟨S, 0, none⟩)]) W fun e W' => e = .returned (.bool (knotS ts x f x)) ∧ Below W.heap.size W W' := by
 show Calls Tryz.prog 207 #[.int .i64 (x : Int), .pointer (some ⟨P, 0, none⟩), .pointer (some ⟨S, 0, none⟩)] W _
 have HP := Lib.hid hP
 have HS := Lib.hid hS
 have HOK := Lib.hid hok
 have HG := Lib.hid hg
 have HF := Lib.hid hf
 have HCF := Lib.hid hcf
 clear hP hS hok hg hf hcf
 have hix := fun w => index_set w (knotS ts x f) x hx
 go_enter Tryz.func207, Tryz.ntmps207
 go_wp2_with (first
  | (refine wpList_load_row (o := ⟨some 5, .load 116 _, _, _, _, _⟩) rfl 116 _ rfl P rfl 116 _ (0, 0) _ HP.out Tryz.underlying116 rfl size_walk ?_)
  | (refine wpList_load_row (o := ⟨some 7, .load 124 _, _, _, _, _⟩) rfl 124 _ rfl S rfl 124 _ (0, 0) _ HS.out Tryz.underlying124 rfl (by rw [setA_size]; exact size_set) ?_)
  | (go_at_call 130
     refine (knot_any d ts x f W hx HOK.out HG.out HCF.out fun _ => HF.out).mono ?_;rintro e w2 ⟨rfl, hb⟩;have HB := Lib.hid hb
     clear hb))
 go_ret
 exact ⟨rfl, HB.out⟩
theorem enter_rings1 (args : Array Value) (w : World) : (callFunc 207 args).run Tryz.prog w = .ok (.enter 207 args) w := enters_of Tryz.func207 (by kernel_rfl) rfl args w
theorem rings_any (d : WalkD) (ts : List TermD) (f : Nat → Bool) (a : Option Addr) (n c : Nat) (bs : List Int) (w : World) (hI : Ints w a n bs) (hbs : ∀ x ∈ bs, 0 ≤ x ∧ x < d.bn) (hok : WalkOK w d ts) (hg : goodB ts = true) (hf : Canon f) :
  Calls Tryz.prog 164 #[walkV d, .slice a n c, .agg (setA f)] w fun e w' => e = .returned (.bool (ringsB ts bs f)) ∧ Below w.heap.size w w' := by
 have HI := Lib.hid hI
 have HBS := Lib.hid hbs
 have HOK := Lib.hid hok
 have HG := Lib.hid hg
 have HF := Lib.hid hf
 clear hI hbs hok hg hf
 go_enter Tryz.func164, Tryz.ntmps164
 go_wp2_with (
  (go_at_call 168
   refine (containsFunc_any 207 #[.pointer (some ⟨w.heap.size, 0, none⟩), .pointer (some ⟨w.heap.size + 1, 0, none⟩)] enter_rings1 (fun z => knotS ts z.toNat f z.toNat) a n c bs _ (fun z W hz hb => ?_) (HI.out.ext ((ext_alloc _ _).alloc (by simp) _))).mono ?_
   · have hz2 := HBS.out z hz;have hbn := HOK.out.2.1;obtain ⟨q, rfl⟩ : ∃ q : Nat, z = (q : Int) := ⟨z.toNat, by omega⟩
     refine rings1_any d ts f w.heap.size (w.heap.size + 1) q (by omega) W (block_ext hb ?_) (block_ext hb (heap_at _ _ _ (by simp))) (HOK.out.ext (ext_trans ((ext_alloc _ _).alloc (by simp) _) hb)) HG.out HF.out (by omega);rw [Below.heap_alloc _ _ _ (by simp)]; exact heap_alloc_new _ _
   rintro e w2 ⟨rfl, hb⟩;have HB := Lib.hid hb
   clear hb))
 go_ret
 exact ⟨rfl, ext_trans ((ext_alloc _ _).alloc (by simp) _) HB.out⟩
def ToJ (w : World) (d : WalkD) (f : Nat → Bool) (W : World) : Prop :=
 W.heap[w.heap.size]? = some (walkO d) ∧ W.heap[w.heap.size + 1]? = some (setO f) ∧ W.heap[w.heap.size + 1 + 1]? = some (.cells #[.bool false] 4 (0, 0)) ∧ W.heap[w.heap.size + 1 + 1 + 1]? = some (.cells #[.pointer (some ⟨w.heap.size + 1, 0, none⟩)] 189 (0, 0)) ∧ Below w.heap.size w W
theorem ToJ.steady {w : World} {d : WalkD} {f : Nat → Bool} {D : Nat} (hD : w.heap.size ≤ D) : Steady D (ToJ w d f) := by
 unfold ToJ
 exact (Steady.block _ _ rfl).and ((Steady.block _ _ rfl).and ((Steady.block _ _ rfl).and ((Steady.block _ _ rfl).and (Steady.below (Nat.le_refl _) hD))))
theorem together_any (d : WalkD) (ts : List TermD) (f : Nat → Bool) (w : World) (hok : WalkOK w d ts) (hg : goodB ts = true) (hcf : Canon f) (hf : ∀ b l, listS f = b :: l → b < d.bn) :
  Calls Tryz.prog 163 #[walkV d, .agg (setA f)] w fun e w' => e = .returned (.bool (togetherB ts f)) ∧ Below w.heap.size w w' := by
 refine (callsIn_wide (n := 0)).1 ?_
 refine callsIn_of_wp_marks Tryz.func163 rfl trivial ?_
 simp only [Tryz.ntmps163, List.size_toArray, List.length_cons, List.length_nil, Nat.reduceAdd, Nat.reduceSub, Array.replicate_succ, Array.replicate_zero, List.push_toArray, List.append_toArray, List.nil_append, List.cons_append]
 have HOK := Lib.hid hok
 have HG := Lib.hid hg
 have HF := Lib.hid hf
 have HCF := Lib.hid hcf
 have hdn : d.bn ≤ 200 := hok.2.1
 clear hok hg hcf hf
 gi_wp2_with (gi_at_call 88; refine (callsIn_wide.2 (each_any _ _)).mono ?_; rintro e w' ⟨rfl, rfl⟩)
 refine range_list (ps := #[7]) (gf := 139) (lb := #[.pointer (some ⟨w.heap.size + 1 + 1 + 1, 0, none⟩)]) (enc := encN) (l := listS f) rfl enter_each _ (each_iterI f (w.heap.size + 1 + 1 + 1) (w.heap.size + 1)) (fun _ => rfl)
  (fun dn r W => Hid (dn = [] ∧ ToJ w d f W)) (fun c W => c = .ret ∧ W.heap[w.heap.size + 1 + 1]? = some (.cells #[.bool (togetherB ts f)] 4 (0, 0)) ∧ Below w.heap.size w W)
  (fun dn r => (Steady.pure _ _).and (ToJ.steady (by simp; omega))) (fun c => (Steady.pure _ _).and ((Steady.block _ _ rfl).and (Steady.below (Nat.le_refl _) (by simp; omega)))) (fun dn r W h => ⟨by rw [cell_of_row _ _ _ _ _ _ h.out.2.2.2.2.1]; rfl, h.out.2.2.1⟩) ?start ?round ?done ?stop
 case start =>
  refine ⟨rfl, ?_, ?_, ?_, ?_, ?_⟩
  · rw [Below.heap_alloc _ _ _ (by simp; omega), Below.heap_alloc _ _ _ (by simp; omega), Below.heap_alloc _ _ _ (by simp)]; exact heap_alloc_new _ _
  · rw [Below.heap_alloc _ _ _ (by simp), Below.heap_alloc _ _ _ (by simp)]; exact heap_at _ _ _ (by simp)
  · rw [Below.heap_alloc _ _ _ (by simp)]; exact heap_at _ _ _ (by simp)
  · exact heap_at _ _ _ (by simp)
  · exact (((ext_alloc _ _).alloc (by simp) _).alloc (by simp; omega) _).alloc (by simp; omega) _
 case round =>
  rintro lp dn x r W0 hd hJ;unfold encN
  gi_wp2
  refine ⟨Keep.refl _, hJ, ?_⟩;clear hJ lp W0;rintro lp W0 hJ;obtain ⟨rfl, j1, j2, j3, j4, jb⟩ := hJ.out;have hxl : x < 200 := listS_lt f x (by rw [hd]; simp);have HXB : Hid (f x = true → x < d.bn) := fun _ => HF.out x r hd;have HE : Hid (togetherB ts f = eqS (knotS ts x f) f) := by
   have : listS f = x :: r := hd;simp only [Hid, togetherB, this]
  have HW := Lib.hid j1;have HS := Lib.hid j2;have HR := Lib.hid j3;have HBW := Lib.hid jb;clear hJ j1 j2 j3 j4 jb hd;refine wpIn_block ?_;refine wpIn_seq ?_;refine round_free 6 [some 8, some 9, some 10, some 11, some 12, some 13] (by kernel_rfl) (by kernel_rfl) (by repeat (first | exact noOut_round | refine noOut_then ?_ | refine noOut_block ?_)) (by kernel_rfl) (specB [.val (walkV d), .val (.int .i64 (x : Int)), .val (.agg (setA f)), .val (.agg (setA (knotS ts x f))), .val (.agg (setA f)), .val (.bool (eqS (knotS ts x f) f))]) (specB_mono ?_) ?_ ?_
  · intro k hk;simp only [List.mem_cons, List.not_mem_nil, or_false] at hk;rcases hk with rfl | rfl | rfl | rfl | rfl | rfl
    · exact trivial
    · exact trivial
    · exact trivial
    · exact trivial
    · exact trivial
    · exact trivial
  · intro i hi ν lo hi' w1 K hB hD hK;have hcase : i = 0 ∨ i = 1 ∨ i = 2 ∨ i = 3 ∨ i = 4 ∨ i = 5 := by omega
    clear hi;rcases hcase with rfl | rfl | rfl | rfl | rfl | rfl
    · clear hD;refine wpOp_atK rfl rfl ?_;simp only [zA,zB,zC,zD,zE,zF,zJ,zK,zG,zH,zI] at hK ⊢;refine wp_load_row 116 _ rfl w.heap.size rfl 116 _ (0, 0) _ (block_ext hB HW.out) Tryz.underlying116 rfl size_walk ?_;exact hK _ _ (Below.refl _ _) rfl
    · clear hD;refine wpOp_atK rfl rfl ?_;simp only [zA,zB,zC,zD,zE,zF,zJ,zK,zG,zH,zI] at hK ⊢;go_simp;exact hK _ _ (Below.refl _ _) rfl
    · clear hD;refine wpOp_atK rfl rfl ?_;simp only [zA,zB,zC,zD,zE,zF,zJ,zK,zG,zH,zI] at hK ⊢;refine wp_load_row 124 _ rfl (w.heap.size + 1) rfl 124 _ (0, 0) _ (block_ext hB HS.out) Tryz.underlying124 rfl (by rw [setA_size]; exact size_set) ?_;exact hK _ _ (Below.refl _ _) rfl
    · have e0 := hD 0 (by kernel_rfl)
      replace e0 : ν 0 = (walkV d) := e0
      have e1 := hD 1 (by kernel_rfl)
      replace e1 : ν 1 = (.int .i64 (x : Int)) := e1
      have e2 := hD 2 (by kernel_rfl)
      replace e2 : ν 2 = (.agg (setA f)) := e2
      clear hD;refine wpOp_atK rfl rfl ?_;simp only [zA,zB,zC,zD,zE,zF,zJ,zK,zG,zH,zI, e0, e1, e2] at hK ⊢;go_simp;refine (knot_any d ts x f w1 (by omega) (HOK.out.ext (ext_trans HBW.out hB)) HG.out HCF.out HXB.out).mono ?_;rintro e w3 ⟨rfl, hb3⟩;exact hK _ _ hb3 rfl
    · clear hD;refine wpOp_atK rfl rfl ?_;simp only [zA,zB,zC,zD,zE,zF,zJ,zK,zG,zH,zI] at hK ⊢;refine wp_load_row 124 _ rfl (w.heap.size + 1) rfl 124 _ (0, 0) _ (block_ext hB HS.out) Tryz.underlying124 rfl (by rw [setA_size]; exact size_set) ?_;exact hK _ _ (Below.refl _ _) rfl
    · have e3 := hD 3 (by kernel_rfl)
      replace e3 : ν 3 = (.agg (setA (knotS ts x f))) := e3
      have e4 := hD 4 (by kernel_rfl)
      replace e4 : ν 4 = (.agg (setA f)) := e4
      clear hD;refine wpOp_atK rfl rfl ?_;simp only [zA,zB,zC,zD,zE,zF,zJ,zK,zG,zH,zI, e3, e4] at hK ⊢;have heq := equal_set w1 (knotS ts x f) f;go_simp;exact hK _ _ (Below.refl _ _) rfl
  · intro ν lo hi w1 hB hS hI hD;have e0 : ν 0 = (walkV d) := hS 0 (by omega);have e1 : ν 1 = (.int .i64 (x : Int)) := hS 1 (by omega);have e2 : ν 2 = (.agg (setA f)) := hS 2 (by omega);have e3 : ν 3 = (.agg (setA (knotS ts x f))) := hS 3 (by omega);have e4 : ν 4 = (.agg (setA f)) := hS 4 (by omega);have e5 : ν 5 = (.bool (eqS (knotS ts x f) f)) := hS 5 (by omega);clear hS;simp only [List.drop_succ_cons, List.drop_zero, zA,zB,zC,zD,zE,zF,zJ,zK,zG,zH,zI, e0, e1, e2, e3, e4, e5];have HB1 := Lib.hid hB;clear hI hD e0 e1 e2 e3 e4 e5;have hr1 := block_ext HB1.out HR.out;have hc1 : w1.cell? ⟨w.heap.size + 1 + 1, 0, none⟩ = some (.bool false) := by rw [cell_of_row _ _ _ _ _ _ hr1]; rfl
    have hf1 : w1.frozen? ⟨w.heap.size + 1 + 1, 0, none⟩ = false := frozen_of_row _ _ _ _ _ hr1;have hl1 := lt_of_heap hr1;have HR1 := Lib.hid hr1;clear hr1 hB;go_wp2;refine wpIn_ret ?_;have hst := heap_setCell_same w1 (w.heap.size + 1 + 1) 0 _ _ (.bool (eqS (knotS ts x f) f)) HR1.out;exact ⟨(Keep.ext HB1.out).trans (Keep.setCell _ _ _), rfl, by rw [HE.out]; simpa using hst, (ext_trans HBW.out HB1.out).setCell (by simp; omega) _⟩
 case done =>
  rintro D W hD hJ hK;obtain ⟨hl, j1, j2, j3, j4, jb⟩ := hJ.out;have HE : Hid (togetherB ts f = true) := by simp only [Hid, togetherB, hl]
  have hc1 : W.cell? ⟨w.heap.size + 1 + 1, 0, none⟩ = some (.bool false) := by rw [cell_of_row _ _ _ _ _ _ j3]; rfl
  have hf1 : W.frozen? ⟨w.heap.size + 1 + 1, 0, none⟩ = false := frozen_of_row _ _ _ _ _ j3;have hl1 := lt_of_heap j3;have HB := Lib.hid jb;have HJ3 := Lib.hid j3;clear hJ j1 j2 j3 j4 jb hl
  gi_wp2
  have hDP : D ≠ w.heap.size + 1 + 1 := by simp at hD; omega
  have g := grown_setCell W (w.heap.size + 1 + 1) 0 (.bool true);have hK2 := grown_row g hK (by simp; omega);have hb2 : Below w.heap.size w (W.setCell ⟨w.heap.size + 1 + 1, 0, none⟩ (.bool true)) := HB.out.setCell (by simp; omega) _;have hv2 : (W.setCell ⟨w.heap.size + 1 + 1, 0, none⟩ (.bool true)).heap[w.heap.size + 1 + 1]? = some (.cells #[.bool true] 4 (0, 0)) := by
   have := heap_setCell_same W (w.heap.size + 1 + 1) 0 _ _ (.bool true) HJ3.out;simpa using this
  generalize W.setCell ⟨w.heap.size + 1 + 1, 0, none⟩ (.bool true) = W2 at *;have hb3 := (Steady.below (n₀ := w.heap.size) (B := w.heap.size) (w₀ := w) (Nat.le_refl _) (Nat.le_refl _)).put (.deferred none) (l := D) hb2 (by simp at hD; omega) hK2 rfl;have hv3 : (W2.putObj D (.deferred none)).heap[w.heap.size + 1 + 1]? = some (.cells #[.bool true] 4 (0, 0)) := (World.putObj_heap_other (by omega)).trans hv2;have hc3 : (W2.putObj D (.deferred none)).cell? ⟨w.heap.size + 1 + 1, 0, none⟩ = some (.bool true) := by rw [cell_of_row _ _ _ _ _ _ hv3]; rfl
  refine ⟨by simp, .inl ⟨_, _, rfl, run_takeDeferred hK2, ?_⟩⟩;exact ⟨.bool true, by simp [results, Tryz.results163, go_sem, hc3], by rw [HE.out], hb3⟩
 case stop =>
  rintro D c W hD ⟨rfl, hv, hb⟩ hK;have hv2 : (W.putObj D (.deferred none)).heap[w.heap.size + 1 + 1]? = some (.cells #[.bool (togetherB ts f)] 4 (0, 0)) := (World.putObj_heap_other (by simp at hD; omega)).trans hv;have hb2 := (Steady.below (n₀ := w.heap.size) (B := w.heap.size) (w₀ := w) (Nat.le_refl _) (Nat.le_refl _)).put (.deferred none) (l := D) hb (by simp at hD; omega) hK rfl;have hc : (W.putObj D (.deferred none)).cell? ⟨w.heap.size + 1 + 1, 0, none⟩ = some (.bool (togetherB ts f)) := by rw [cell_of_row _ _ _ _ _ _ hv2]; rfl
  gi_wp2
  refine ⟨by simp, .inl ⟨_, _, rfl, run_takeDeferred hK, ?_⟩⟩;exact ⟨.bool (togetherB ts f), by simp [results, Tryz.results163, go_sem, hc], rfl, hb2⟩
end
end Go.Proofs.YtblhmdhfhaencaaGreat
