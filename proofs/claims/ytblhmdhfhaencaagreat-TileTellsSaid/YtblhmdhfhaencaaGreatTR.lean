/-
  A struct or an array loaded whole, under a guard that is decided, or in a region that draws and whose operations only read. No program in sight.
-/
import Derived.Test.YtblhmdhfhaencaaGreatTH
import Derived.BigQuiet
import Derived.Test.YtblhmdhfhaencaaGreatTI
import Derived.Test.YtblhmdhfhaencaaGreatTJ
namespace Go.Proofs.YtblhmdhfhaencaaGreat
set_option linter.unusedSimpArgs false
set_option linter.unusedVariables false
set_option linter.unusedSectionVars false
set_option maxRecDepth 100000
set_option maxHeartbeats 40000000
section
section
variable {P : Program} {ops : Array Oper} {rest : List Oper} {o : Oper} {a : Act}
theorem wpList_load_rowW {w : World} {Q : Exit → Act → World → Prop} (hw : Region.wanted o (yielded ops a.tmps) = true) (ty : TypeId) (x : Operand) (ho : o.op = .load ty x)
    (g : Nat) (hx : a.eval x = .pointer (some ⟨g, 0, none⟩)) (t : TypeId) (cs : Array Value) (fr : Nat × Nat) (d : TypeDesc) (hg : w.heap[g]? = some (.cells cs t fr))
    (hu : P.underlying ty = some d) (hd : (match d with | .struct _ | .array _ _ => true | _ => false) = true) (hi : (P.info? ty).map (·.size) = some cs.size)
    (h : wpList P ops Q rest (a.put o.dst (.agg cs)) w) : wpList P ops Q (o :: rest) a w :=
  BigFrame.wpList_want hw fun _ hK => wp_load_row ty x ho g hx t cs fr d hg hu hd hi (hK _ _ h)
theorem wpQuiet_load_row {C : World → Prop} {Q : Act → Prop} (hw : Region.wanted o (yielded ops a.tmps) = true) (ty : TypeId) (x : Operand) (ho : o.op = .load ty x)
    (g : Nat) (hx : a.eval x = .pointer (some ⟨g, 0, none⟩)) (t : TypeId) (cs : Array Value) (fr : Nat × Nat) (d : TypeDesc) (hg : ∀ w, C w → w.heap[g]? = some (.cells cs t fr))
    (hu : P.underlying ty = some d) (hd : (match d with | .struct _ | .array _ _ => true | _ => false) = true) (hi : (P.info? ty).map (·.size) = some cs.size)
    (h : wpQuiet P ops C Q rest (a.put o.dst (.agg cs))) : wpQuiet P ops C Q (o :: rest) a :=
  BigFrame.wpQuiet_want hw fun _ hK => ⟨.agg cs, fun w hC => by
    unfold Oper.quietAt execOp
    simp only [ho, hx, Instr.loadAt, Instr.sureAddr, Sem.run_bind, Sem.run_pure, Result.andThen_ok, run_loadVar_row w g t ty cs fr d (hg w hC) hu hd hi]
    exact ⟨rfl, rfl⟩, hK _ h⟩
theorem wpOp_atW {l : List Oper} {Q : Exit → Act → World → Prop} {e : Nat} {K : Act → World → Prop} {w : World} (ho : l[e]? = some o) (hw : Region.wanted o (yielded l.toArray a.tmps) = true) (h : o.wp P a w K Q) : wpOp P l.toArray Q e K a w := by
  unfold wpOp
  simp only [List.getElem?_toArray, ho]
  rw [if_pos hw]
  exact .inl h
end
end

section
open Go.RowKit Go.Shelf
attribute [local go_sem] Oper.semAt_some wide_fn wide_depth wide_fnR wide_depthR
abbrev walkZ : Obj := .cells #[nilV, nilV, nilV, nilV] 116
theorem tfits_any (pa : Option Addr) (pn pc : Nat) (ba : Option Addr) (bn bc : Nat) (bs : List BlkH) (w : World) (h : BlksOK w ba bn bs) :
    Calls Tryz.prog 40 #[funcV pa pn pc ba bn bc] w fun e w' => e = .returned (.bool (fitsB (tsOf bs))) ∧ Below w.heap.size w w' := by
  have H := Lib.hid h
  clear h
  go_enter Tryz.func40, Tryz.ntmps40
  go_upto_region 1 with (fail)
  obtain ⟨W, hW⟩ : ∃ W, W = w.alloc (funcO pa pn pc ba bn bc) := ⟨_, rfl⟩
  rw [← hW]
  have hk0 : W.heap[w.heap.size]? = some (funcO pa pn pc ba bn bc) := by rw [hW]; exact heap_alloc_new _ _
  have hB : Below w.heap.size w W := by rw [hW]; exact ext_alloc _ _
  have HK := Lib.hid hk0
  have HB := Lib.hid hB
  clear hW hk0 hB
  go_wp2_with (first
    | (refine wpList_load_row (o := ⟨some 6, .load 25 _, _, _, _, _⟩) rfl 25 _ rfl w.heap.size rfl 25 _ (0, 0) _ HK.out Tryz.underlying25 rfl size_func ?_)
    | (go_at_call 78
       refine (over_any pa pn pc ba bn bc bs W (H.out.ext HB.out)).mono ?_
       rintro e w2 ⟨cs, rfl, hcs, hall, hb, hokk⟩
       have HB2 := Lib.hid (ext_trans HB.out hb)
       have HCS := Lib.hid hcs
       have HALL := Lib.hid hall
       clear hb hokk hcs hall)
    | (refine wpList_store_row rfl 116 _ _ rfl w2.heap.size cs rfl rfl 116 _ (heap_alloc_new w2 walkZ) (by rw [HCS.out]; exact size_walk) (by rw [HCS.out]; rfl) HALL.out ?_))
  go_ret
  exact ⟨rfl, below_setRow (HB2.out.alloc HB2.out.size _) HB2.out.size _⟩
def TOwnPost (ts : List TermD) (l : List TileD) (n : Nat) (w : World) (e : Ending) (w' : World) : Prop :=
  ∃ v en, e = .returned (.tuple #[v, .int .i64 en]) ∧ Below w.heap.size w w' ∧ (fitsB ts = false → v = nilV ∧ en = 2) ∧ (fitsB ts = true → ownB l n = false → v = nilV ∧ en = 12) ∧
    (fitsB ts = true → ownB l n = true → en = 0 ∧ ∃ g c, v = .slice (some ⟨g, 0, none⟩) n c ∧ OwnI w' w.heap.size v (ownL l n))
theorem fits_good {ts : List TermD} (h : fitsB ts = true) : goodB ts = true := by simp only [fitsB, Bool.and_eq_true] at h; exact h.1
theorem town_any (pa : Option Addr) (pn pc : Nat) (ba : Option Addr) (bn bc : Nat) (bs : List BlkH) (a : Option Addr) (n c : Nat) (ls : List TileR) (w : World) (h : BlksOK w ba bn bs) (ht : TilesOK w a n ls) :
    Calls Tryz.prog 37 #[funcV pa pn pc ba bn bc, .slice a n c] w (TOwnPost (tsOf bs) (tdOf ls) bn w) := by
  have H := Lib.hid h
  have HT := Lib.hid ht
  clear h ht
  go_enter Tryz.func37, Tryz.ntmps37
  go_upto_region 1 with (fail)
  obtain ⟨W, hW⟩ : ∃ W, W = w.alloc (funcO pa pn pc ba bn bc) := ⟨_, rfl⟩
  rw [← hW]
  have hk0 : W.heap[w.heap.size]? = some (funcO pa pn pc ba bn bc) := by rw [hW]; exact heap_alloc_new _ _
  have hB : Below w.heap.size w W := by rw [hW]; exact ext_alloc _ _
  have HK := Lib.hid hk0
  have HB := Lib.hid hB
  clear hW hk0 hB
  cases hf : fitsB (tsOf bs) with
  | false =>
    have HF := Lib.hid hf
    clear hf
    go_wp2_with (first
      | (refine wpList_load_row (o := ⟨some 10, .load 25 _, _, _, _, _⟩) rfl 25 _ rfl w.heap.size rfl 25 _ (0, 0) _ HK.out Tryz.underlying25 rfl size_func ?_)
      | (go_at_call 78
         refine (over_any pa pn pc ba bn bc bs W (H.out.ext HB.out)).mono ?_
         rintro e w2 ⟨cs, rfl, hcs, hall, hb, hokk⟩
         rw [HF.out]
         have HB2 := Lib.hid (ext_trans HB.out hb)
         have HCS := Lib.hid hcs
         have HALL := Lib.hid hall
         clear hb hokk hcs hall)
      | (refine wpList_store_row rfl 116 _ _ rfl w2.heap.size cs rfl rfl 116 _ (heap_alloc_new w2 walkZ) (by rw [HCS.out]; exact size_walk) (by rw [HCS.out]; rfl) HALL.out ?_))
    exact bodyPost_ret (v := .tuple #[nilV, .int .i64 2]) (by simp [results, Tryz.results37, go_sem, Act.put]) rfl ⟨_, _, rfl, below_setRow (HB2.out.alloc HB2.out.size _) HB2.out.size _, fun _ => ⟨rfl, rfl⟩, (fun h => by rw [HF.out] at h; cases h), (fun h => by rw [HF.out] at h; cases h)⟩
  | true =>
    have HF := Lib.hid hf
    have hgood := (goodB_iff _).1 (fits_good hf)
    have hbn : (tsOf bs).length = bn := by rw [tsOf_len]; exact H.out.1.1
    have hbn1 : 1 ≤ bn := by rw [← hbn]; exact hgood.1.1
    have hbn2 : bn ≤ 200 := by rw [← hbn]; exact hgood.1.2
    clear hf hgood hbn
    go_upto_region 4 with (first
      | (refine wpList_load_row (o := ⟨some 10, .load 25 _, _, _, _, _⟩) rfl 25 _ rfl w.heap.size rfl 25 _ (0, 0) _ HK.out Tryz.underlying25 rfl size_func ?_)
      | (go_at_call 78
         refine (over_any pa pn pc ba bn bc bs W (H.out.ext HB.out)).mono ?_
         rintro e w2 ⟨cs, rfl, hcs, hall, hb, hokk⟩
         rw [HF.out]
         obtain ⟨ta, tc, fa, fc, hcv, hwk⟩ := hokk HF.out
         injection hcv with hcv
         subst hcv
         have HB2 := Lib.hid (ext_trans HB.out hb)
         have HWK := Lib.hid hwk
         clear hb hokk hcs hall hwk)
      | (refine wpList_store_row rfl 116 _ _ rfl w2.heap.size #[.slice pa pn pc, .slice ba bn bc, .slice ta bn tc, .slice fa bn fc] rfl rfl 116 _ (heap_alloc_new w2 walkZ) size_walk rfl rfl ?_))
    obtain ⟨W3, hW3⟩ : ∃ W3, W3 = w2.alloc (walkO ⟨pa, pn, pc, ba, bn, bc, ta, tc, fa, fc⟩) := ⟨_, rfl⟩
    rw [← hW3]
    have hw3 : W3.heap[w2.heap.size]? = some (walkO ⟨pa, pn, pc, ba, bn, bc, ta, tc, fa, fc⟩) := by rw [hW3]; exact heap_alloc_new _ _
    have HW3 := Lib.hid hw3
    have HB3' : Below w2.heap.size w2 W3 := by rw [hW3]; exact ext_alloc _ _
    have HB3 := Lib.hid (ext_trans HB2.out HB3')
    have HWK3 := Lib.hid (HWK.out.ext HB3')
    clear hW3 hw3 HB3' HWK HB2
    go_upto_region 5 with (first
      | (refine wpList_load_row (o := ⟨some 16, .load 116 _, _, _, _, _⟩) rfl 116 _ rfl w2.heap.size rfl 116 _ (0, 0) _ HW3.out Tryz.underlying116 rfl size_walk ?_)
      | (go_at_call 91
         refine (own_any ⟨pa, pn, pc, ba, bn, bc, ta, tc, fa, fc⟩ hbn1 hbn2 a n c ls W3 (HT.out.ext HB3.out)).mono ?_
         rintro e w4 ⟨v, rfl, hb4, ho1, ho2⟩
         have HB4 := Lib.hid (ext_trans HB3.out hb4)
         have HO1 := Lib.hid ho1
         have HO2 := Lib.hid ho2
         have hsz := HB3.out.size
         clear hb4 ho1 ho2))
    cases hob : ownB (tdOf ls) bn with
    | false =>
      have hv : v = nilV := HO2.out hob
      subst hv
      have HOB := Lib.hid hob
      clear hob HO1 HO2
      have hq := fun w n c n' c' => Lib.run_eql_slice_nil (P := Tryz.prog) w 22 3 none n c n' c' Tryz.underlying22
      go_wp2
      exact bodyPost_ret (v := .tuple #[nilV, .int .i64 12]) (by simp [results, Tryz.results37, go_sem, Act.put]) rfl ⟨_, _, rfl, HB4.out, (fun h => by rw [HF.out] at h; cases h), fun _ _ => ⟨rfl, rfl⟩, (fun _ h => by rw [HOB.out] at h; cases h)⟩
    | true =>
      obtain ⟨g, cc, rfl, ho⟩ := HO1.out hob
      have HOB := Lib.hid hob
      have HO := Lib.hid ho
      clear hob HO1 HO2 ho
      have hq := fun w n c n' c' => Lib.run_eql_slice_nil (P := Tryz.prog) w 22 3 (some ⟨g, 0, none⟩) n c n' c' Tryz.underlying22
      go_wp2
      exact bodyPost_ret (v := .tuple #[.slice (some ⟨g, 0, none⟩) bn cc, .int .i64 0]) (by simp [results, Tryz.results37, go_sem, Act.put]) rfl ⟨_, _, rfl, HB4.out, (fun h => by rw [HF.out] at h; cases h), (fun _ h => by rw [HOB.out] at h; cases h), fun _ _ => ⟨rfl, g, cc, rfl, HO.out.mono hsz⟩⟩
end

section
open Go.RowKit Go.Shelf
attribute [local go_sem] Oper.semAt_some wide_fn wide_depth wide_fnR wide_depthR
theorem index_set (w : World) (f : Nat → Bool) (b : Nat) (hb : b < 200) : (Instr.index 124 (.agg (setA f)) (.int .i64 (b : Int))).run Tryz.prog w = .ok (.bool (f b)) w := by
  have hz : (Go.sizeOf 4).run Tryz.prog w = .ok 1 w := by kernel_rfl
  have hb2 : (0 : Int) ≤ (b : Int) ∧ (b : Int) < ((200 : Nat) : Int) := by omega
  have h1 := part_bool (setA f) b _ w (setA_at f b hb)
  simp only [Instr.index, asIntOf, Sem.run_bind, Sem.run_pure, Result.andThen_ok, run_underlying (w := w) Tryz.underlying124, if_pos hb2, hz]
  simpa using h1
theorem rings1_any (d : WalkD) (ts : List TermD) (f : Nat → Bool) (P S : Nat) (x : Nat) (hx : x < 200) (W : World) (hP : W.heap[P]? = some (walkO d)) (hS : W.heap[S]? = some (setO f)) (hok : WalkOK W d ts) (hg : goodB ts = true) (hcf : Canon f) (hf : x < d.bn) :
    Calls Tryz.prog 207 (#[.int .i64 (x : Int)] ++ #[.pointer (some ⟨P, 0, none⟩), .pointer (some ⟨S, 0, none⟩)]) W fun e W' => e = .returned (.bool (knotS ts x f x)) ∧ Below W.heap.size W W' := by
  show Calls Tryz.prog 207 #[.int .i64 (x : Int), .pointer (some ⟨P, 0, none⟩), .pointer (some ⟨S, 0, none⟩)] W _
  have HP := Lib.hid hP
  have HS := Lib.hid hS
  have HOK := Lib.hid hok
  have HG := Lib.hid hg
  have HF := Lib.hid hf
  have HCF := Lib.hid hcf
  clear hP hS hok hg hf hcf
  have hix := fun w => index_set w (knotS ts x f) x hx
  go_enter Tryz.func207, Tryz.ntmps207
  go_wp2_with (first
    | (refine wpList_load_row (o := ⟨some 5, .load 116 _, _, _, _, _⟩) rfl 116 _ rfl P rfl 116 _ (0, 0) _ HP.out Tryz.underlying116 rfl size_walk ?_)
    | (refine wpList_load_row (o := ⟨some 7, .load 124 _, _, _, _, _⟩) rfl 124 _ rfl S rfl 124 _ (0, 0) _ HS.out Tryz.underlying124 rfl (by rw [setA_size]; exact size_set) ?_)
    | (go_at_call 130
       refine (knot_any d ts x f W hx HOK.out HG.out HCF.out fun _ => HF.out).mono ?_
       rintro e w2 ⟨rfl, hb⟩
       have HB := Lib.hid hb
       clear hb))
  go_ret
  exact ⟨rfl, HB.out⟩
theorem enter_rings1 (args : Array Value) (w : World) : (callFunc 207 args).run Tryz.prog w = .ok (.enter 207 args) w := enters_of Tryz.func207 (by kernel_rfl) rfl args w
theorem rings_any (d : WalkD) (ts : List TermD) (f : Nat → Bool) (a : Option Addr) (n c : Nat) (bs : List Int) (w : World) (hI : Ints w a n bs) (hbs : ∀ x ∈ bs, 0 ≤ x ∧ x < d.bn) (hok : WalkOK w d ts) (hg : goodB ts = true) (hf : Canon f) :
    Calls Tryz.prog 164 #[walkV d, .slice a n c, .agg (setA f)] w fun e w' => e = .returned (.bool (ringsB ts bs f)) ∧ Below w.heap.size w w' := by
  have HI := Lib.hid hI
  have HBS := Lib.hid hbs
  have HOK := Lib.hid hok
  have HG := Lib.hid hg
  have HF := Lib.hid hf
  clear hI hbs hok hg hf
  go_enter Tryz.func164, Tryz.ntmps164
  go_wp2_with (
    (go_at_call 168
     refine (containsFunc_any 207 #[.pointer (some ⟨w.heap.size, 0, none⟩), .pointer (some ⟨w.heap.size + 1, 0, none⟩)] enter_rings1 (fun z => knotS ts z.toNat f z.toNat) a n c bs _ (fun z W hz hb => ?_) (HI.out.ext ((ext_alloc _ _).alloc (by simp) _))).mono ?_
     · have hz2 := HBS.out z hz
       have hbn := HOK.out.2.1
       obtain ⟨q, rfl⟩ : ∃ q : Nat, z = (q : Int) := ⟨z.toNat, by omega⟩
       refine rings1_any d ts f w.heap.size (w.heap.size + 1) q (by omega) W (block_ext hb ?_) (block_ext hb (heap_at _ _ _ (by simp))) (HOK.out.ext (ext_trans ((ext_alloc _ _).alloc (by simp) _) hb)) HG.out HF.out (by omega)
       rw [Below.heap_alloc _ _ _ (by simp)]; exact heap_alloc_new _ _
     rintro e w2 ⟨rfl, hb⟩
     have HB := Lib.hid hb
     clear hb))
  go_ret
  exact ⟨rfl, ext_trans ((ext_alloc _ _).alloc (by simp) _) HB.out⟩
def ToJ (w : World) (d : WalkD) (f : Nat → Bool) (W : World) : Prop :=
  W.heap[w.heap.size]? = some (walkO d) ∧ W.heap[w.heap.size + 1]? = some (setO f) ∧ W.heap[w.heap.size + 1 + 1]? = some (.cells #[.bool false] 4 (0, 0)) ∧ W.heap[w.heap.size + 1 + 1 + 1]? = some (.cells #[.pointer (some ⟨w.heap.size + 1, 0, none⟩)] 189 (0, 0)) ∧ Below w.heap.size w W
theorem ToJ.steady {w : World} {d : WalkD} {f : Nat → Bool} {D : Nat} (hD : w.heap.size ≤ D) : Steady D (ToJ w d f) := by
  unfold ToJ
  exact (Steady.block _ _ rfl).and ((Steady.block _ _ rfl).and ((Steady.block _ _ rfl).and ((Steady.block _ _ rfl).and (Steady.below (Nat.le_refl _) hD))))
theorem together_any (d : WalkD) (ts : List TermD) (f : Nat → Bool) (w : World) (hok : WalkOK w d ts) (hg : goodB ts = true) (hcf : Canon f) (hf : ∀ b l, listS f = b :: l → b < d.bn) :
    Calls Tryz.prog 163 #[walkV d, .agg (setA f)] w fun e w' => e = .returned (.bool (togetherB ts f)) ∧ Below w.heap.size w w' := by
  refine (callsIn_wide (n := 0)).1 ?_
  refine callsIn_of_wp_marks Tryz.func163 rfl trivial ?_
  simp only [Tryz.ntmps163, List.size_toArray, List.length_cons, List.length_nil, Nat.reduceAdd, Nat.reduceSub, Array.replicate_succ, Array.replicate_zero, List.push_toArray, List.append_toArray, List.nil_append, List.cons_append]
  have HOK := Lib.hid hok
  have HG := Lib.hid hg
  have HF := Lib.hid hf
  have HCF := Lib.hid hcf
  have hdn : d.bn ≤ 200 := hok.2.1
  clear hok hg hcf hf
  gi_wp2_with (gi_at_call 88; refine (callsIn_wide.2 (each_any _ _)).mono ?_; rintro e w' ⟨rfl, rfl⟩)
  refine range_list (ps := #[7]) (gf := 139) (lb := #[.pointer (some ⟨w.heap.size + 1 + 1 + 1, 0, none⟩)]) (enc := encN) (l := listS f) rfl enter_each _ (each_iterI f (w.heap.size + 1 + 1 + 1) (w.heap.size + 1)) (fun _ => rfl)
    (fun dn r W => Hid (dn = [] ∧ ToJ w d f W)) (fun c W => c = .ret ∧ W.heap[w.heap.size + 1 + 1]? = some (.cells #[.bool (togetherB ts f)] 4 (0, 0)) ∧ Below w.heap.size w W)
    (fun dn r => (Steady.pure _ _).and (ToJ.steady (by simp; omega))) (fun c => (Steady.pure _ _).and ((Steady.block _ _ rfl).and (Steady.below (Nat.le_refl _) (by simp; omega)))) (fun dn r W h => ⟨by rw [cell_of_row _ _ _ _ _ _ h.out.2.2.2.2.1]; rfl, h.out.2.2.1⟩) ?start ?round ?done ?stop
  case start =>
    refine ⟨rfl, ?_, ?_, ?_, ?_, ?_⟩
    · rw [Below.heap_alloc _ _ _ (by simp; omega), Below.heap_alloc _ _ _ (by simp; omega), Below.heap_alloc _ _ _ (by simp)]; exact heap_alloc_new _ _
    · rw [Below.heap_alloc _ _ _ (by simp), Below.heap_alloc _ _ _ (by simp)]; exact heap_at _ _ _ (by simp)
    · rw [Below.heap_alloc _ _ _ (by simp)]; exact heap_at _ _ _ (by simp)
    · exact heap_at _ _ _ (by simp)
    · exact (((ext_alloc _ _).alloc (by simp) _).alloc (by simp; omega) _).alloc (by simp; omega) _
  case round =>
    rintro lp dn x r W0 hd hJ
    unfold encN
    gi_wp2
    refine ⟨Keep.refl _, hJ, ?_⟩
    clear hJ lp W0
    rintro lp W0 hJ
    obtain ⟨rfl, j1, j2, j3, j4, jb⟩ := hJ.out
    have hxl : x < 200 := listS_lt f x (by rw [hd]; simp)
    have HXB : Hid (f x = true → x < d.bn) := fun _ => HF.out x r hd
    have HE : Hid (togetherB ts f = eqS (knotS ts x f) f) := by
      have : listS f = x :: r := hd
      simp only [Hid, togetherB, this]
    have HW := Lib.hid j1
    have HS := Lib.hid j2
    have HR := Lib.hid j3
    have HBW := Lib.hid jb
    clear hJ j1 j2 j3 j4 jb hd
    refine wpIn_block ?_
    refine wpIn_seq ?_
    refine round_free 6 [some 8, some 9, some 10, some 11, some 12, some 13] (by kernel_rfl) (by kernel_rfl) (by repeat (first | exact noOut_round | refine noOut_then ?_ | refine noOut_block ?_)) (by kernel_rfl) (specB [.val (walkV d), .val (.int .i64 (x : Int)), .val (.agg (setA f)), .val (.agg (setA (knotS ts x f))), .val (.agg (setA f)), .val (.bool (eqS (knotS ts x f) f))]) (specB_mono ?_) ?_ ?_
    · intro k hk
      simp only [List.mem_cons, List.not_mem_nil, or_false] at hk
      rcases hk with rfl | rfl | rfl | rfl | rfl | rfl
      · exact trivial
      · exact trivial
      · exact trivial
      · exact trivial
      · exact trivial
      · exact trivial
    · intro i hi ν lo hi' w1 K hB hD hK
      have hcase : i = 0 ∨ i = 1 ∨ i = 2 ∨ i = 3 ∨ i = 4 ∨ i = 5 := by omega
      clear hi
      rcases hcase with rfl | rfl | rfl | rfl | rfl | rfl
      · clear hD
        refine wpOp_atK rfl rfl ?_
        simp only [zA,zB,zC,zD,zE,zF,zJ,zK,zG,zH,zI] at hK ⊢
        refine wp_load_row 116 _ rfl w.heap.size rfl 116 _ (0, 0) _ (block_ext hB HW.out) Tryz.underlying116 rfl size_walk ?_
        exact hK _ _ (Below.refl _ _) rfl
      · clear hD
        refine wpOp_atK rfl rfl ?_
        simp only [zA,zB,zC,zD,zE,zF,zJ,zK,zG,zH,zI] at hK ⊢
        go_simp
        exact hK _ _ (Below.refl _ _) rfl
      · clear hD
        refine wpOp_atK rfl rfl ?_
        simp only [zA,zB,zC,zD,zE,zF,zJ,zK,zG,zH,zI] at hK ⊢
        refine wp_load_row 124 _ rfl (w.heap.size + 1) rfl 124 _ (0, 0) _ (block_ext hB HS.out) Tryz.underlying124 rfl (by rw [setA_size]; exact size_set) ?_
        exact hK _ _ (Below.refl _ _) rfl
      · have e0 := hD 0 (by kernel_rfl)
        replace e0 : ν 0 = (walkV d) := e0
        have e1 := hD 1 (by kernel_rfl)
        replace e1 : ν 1 = (.int .i64 (x : Int)) := e1
        have e2 := hD 2 (by kernel_rfl)
        replace e2 : ν 2 = (.agg (setA f)) := e2
        clear hD
        refine wpOp_atK rfl rfl ?_
        simp only [zA,zB,zC,zD,zE,zF,zJ,zK,zG,zH,zI, e0, e1, e2] at hK ⊢
        go_simp
        refine (knot_any d ts x f w1 (by omega) (HOK.out.ext (ext_trans HBW.out hB)) HG.out HCF.out HXB.out).mono ?_
        rintro e w3 ⟨rfl, hb3⟩
        exact hK _ _ hb3 rfl
      · clear hD
        refine wpOp_atK rfl rfl ?_
        simp only [zA,zB,zC,zD,zE,zF,zJ,zK,zG,zH,zI] at hK ⊢
        refine wp_load_row 124 _ rfl (w.heap.size + 1) rfl 124 _ (0, 0) _ (block_ext hB HS.out) Tryz.underlying124 rfl (by rw [setA_size]; exact size_set) ?_
        exact hK _ _ (Below.refl _ _) rfl
      · have e3 := hD 3 (by kernel_rfl)
        replace e3 : ν 3 = (.agg (setA (knotS ts x f))) := e3
        have e4 := hD 4 (by kernel_rfl)
        replace e4 : ν 4 = (.agg (setA f)) := e4
        clear hD
        refine wpOp_atK rfl rfl ?_
        simp only [zA,zB,zC,zD,zE,zF,zJ,zK,zG,zH,zI, e3, e4] at hK ⊢
        have heq := equal_set w1 (knotS ts x f) f
        go_simp
        exact hK _ _ (Below.refl _ _) rfl
    · intro ν lo hi w1 hB hS hI hD
      have e0 : ν 0 = (walkV d) := hS 0 (by omega)
      have e1 : ν 1 = (.int .i64 (x : Int)) := hS 1 (by omega)
      have e2 : ν 2 = (.agg (setA f)) := hS 2 (by omega)
      have e3 : ν 3 = (.agg (setA (knotS ts x f))) := hS 3 (by omega)
      have e4 : ν 4 = (.agg (setA f)) := hS 4 (by omega)
      have e5 : ν 5 = (.bool (eqS (knotS ts x f) f)) := hS 5 (by omega)
      clear hS
      simp only [List.drop_succ_cons, List.drop_zero, zA,zB,zC,zD,zE,zF,zJ,zK,zG,zH,zI, e0, e1, e2, e3, e4, e5]
      have HB1 := Lib.hid hB
      clear hI hD e0 e1 e2 e3 e4 e5
      have hr1 := block_ext HB1.out HR.out
      have hc1 : w1.cell? ⟨w.heap.size + 1 + 1, 0, none⟩ = some (.bool false) := by rw [cell_of_row _ _ _ _ _ _ hr1]; rfl
      have hf1 : w1.frozen? ⟨w.heap.size + 1 + 1, 0, none⟩ = false := frozen_of_row _ _ _ _ _ hr1
      have hl1 := lt_of_heap hr1
      have HR1 := Lib.hid hr1
      clear hr1 hB
      go_wp2
      refine wpIn_ret ?_
      have hst := heap_setCell_same w1 (w.heap.size + 1 + 1) 0 _ _ (.bool (eqS (knotS ts x f) f)) HR1.out
      exact ⟨(Keep.ext HB1.out).trans (Keep.setCell _ _ _), rfl, by rw [HE.out]; simpa using hst, (ext_trans HBW.out HB1.out).setCell (by simp; omega) _⟩
  case done =>
    rintro D W hD hJ hK
    obtain ⟨hl, j1, j2, j3, j4, jb⟩ := hJ.out
    have HE : Hid (togetherB ts f = true) := by simp only [Hid, togetherB, hl]
    have hc1 : W.cell? ⟨w.heap.size + 1 + 1, 0, none⟩ = some (.bool false) := by rw [cell_of_row _ _ _ _ _ _ j3]; rfl
    have hf1 : W.frozen? ⟨w.heap.size + 1 + 1, 0, none⟩ = false := frozen_of_row _ _ _ _ _ j3
    have hl1 := lt_of_heap j3
    have HB := Lib.hid jb
    have HJ3 := Lib.hid j3
    clear hJ j1 j2 j3 j4 jb hl
    gi_wp2
    have hDP : D ≠ w.heap.size + 1 + 1 := by simp at hD; omega
    have g := grown_setCell W (w.heap.size + 1 + 1) 0 (.bool true)
    have hK2 := grown_row g hK (by simp; omega)
    have hb2 : Below w.heap.size w (W.setCell ⟨w.heap.size + 1 + 1, 0, none⟩ (.bool true)) := HB.out.setCell (by simp; omega) _
    have hv2 : (W.setCell ⟨w.heap.size + 1 + 1, 0, none⟩ (.bool true)).heap[w.heap.size + 1 + 1]? = some (.cells #[.bool true] 4 (0, 0)) := by
      have := heap_setCell_same W (w.heap.size + 1 + 1) 0 _ _ (.bool true) HJ3.out
      simpa using this
    generalize W.setCell ⟨w.heap.size + 1 + 1, 0, none⟩ (.bool true) = W2 at *
    have hb3 := (Steady.below (n₀ := w.heap.size) (B := w.heap.size) (w₀ := w) (Nat.le_refl _) (Nat.le_refl _)).put (.deferred none) (l := D) hb2 (by simp at hD; omega) hK2 rfl
    have hv3 : (W2.putObj D (.deferred none)).heap[w.heap.size + 1 + 1]? = some (.cells #[.bool true] 4 (0, 0)) := (World.putObj_heap_other (by omega)).trans hv2
    have hc3 : (W2.putObj D (.deferred none)).cell? ⟨w.heap.size + 1 + 1, 0, none⟩ = some (.bool true) := by rw [cell_of_row _ _ _ _ _ _ hv3]; rfl
    refine ⟨by simp, .inl ⟨_, _, rfl, run_takeDeferred hK2, ?_⟩⟩
    exact ⟨.bool true, by simp [results, Tryz.results163, go_sem, hc3], by rw [HE.out], hb3⟩
  case stop =>
    rintro D c W hD ⟨rfl, hv, hb⟩ hK
    have hv2 : (W.putObj D (.deferred none)).heap[w.heap.size + 1 + 1]? = some (.cells #[.bool (togetherB ts f)] 4 (0, 0)) := (World.putObj_heap_other (by simp at hD; omega)).trans hv
    have hb2 := (Steady.below (n₀ := w.heap.size) (B := w.heap.size) (w₀ := w) (Nat.le_refl _) (Nat.le_refl _)).put (.deferred none) (l := D) hb (by simp at hD; omega) hK rfl
    have hc : (W.putObj D (.deferred none)).cell? ⟨w.heap.size + 1 + 1, 0, none⟩ = some (.bool (togetherB ts f)) := by rw [cell_of_row _ _ _ _ _ _ hv2]; rfl
    gi_wp2
    refine ⟨by simp, .inl ⟨_, _, rfl, run_takeDeferred hK, ?_⟩⟩
    exact ⟨.bool (togetherB ts f), by simp [results, Tryz.results163, go_sem, hc], rfl, hb2⟩
end
end Go.Proofs.YtblhmdhfhaencaaGreat
