/-
 TileParts: where a block may go; where ways lead to.
-/
import Derived.Test.YtblhmdhfhaencaaFlatBase
import Derived.Test.YtblhmdhfhaencaaTA
import Derived.Test.YtblhmdhfhaencaaTV
namespace Go.Proofs.Ytblhmdhfhaencaa
set_option linter.unusedSimpArgs false
set_option linter.unusedVariables false
set_option linter.unusedSectionVars false
set_option maxRecDepth 100000
set_option maxHeartbeats 40000000
section
open Go.RowKit
attribute [local go_sem] Oper.semAt_some wide_fn wide_depth wide_fnR wide_depthR

theorem toD_nxP {ts : List TermD} (hg : goodB ts = true) (k : Nat) : toD (ts.getD k zTerm) = intsN (nx ts k) := by
 rw [nx, intsN, List.map_map]
 by_cases hk : k < ts.length
 · have hm : ts.getD k zTerm ∈ ts := by rw [List.getD_eq_getElem?_getD, List.getElem?_eq_getElem hk]; exact List.getElem_mem _
   have h := ((goodB_iff ts).1 hg).2 _ hm
   conv => lhs; rw [← List.map_id (toD (ts.getD k zTerm))]
   refine List.map_congr_left fun x hx => ?_
   have := h.2 x hx
   simp only [id, Function.comp]
   omega
 · have : ts.getD k zTerm = zTerm := by rw [List.getD_eq_getElem?_getD, List.getElem?_eq_none (by omega)]; rfl
   rw [this]; rfl
theorem arms17_any (pa : Option Addr) (pn pc : Nat) (ba : Option Addr) (bn bc : Nat) (bs : List BlkH) (k : Nat) (w : World) (h : BlksOK w ba bn bs) (hg : goodB (tsOf bs) = true) (hk : k < bn) :
  Calls Try.prog 61 #[funcV pa pn pc ba bn bc, .int .i64 (k : Int)] w (IntsPost w (toD ((tsOf bs).getD k zTerm))) := by
 have hbn := h.1.2.1
 have hbl : (tsOf bs).length = bn := by rw [tsOf_len]; exact h.1.1
 obtain ⟨x, b, o, hx, ht, rfl, c0, c1, c2, c3, c4⟩ := (h.ext (ext_alloc w (funcO pa pn pc ba bn bc))).cells hk
 have htb : termB x.t = true := by
  have := ((goodB_iff _).1 hg).2 ((tsOf bs).getD k zTerm) (by rw [List.getD_eq_getElem?_getD, List.getElem?_eq_getElem (by omega)]; exact List.getElem_mem _)
  rw [tsOf_at _ _ _ hx] at this
  exact this.1
 rw [tsOf_at _ _ _ hx]
 have HO := Lib.hid (toD_ok x.t ht)
 have hk2 : (k : Int) < (bn : Int) := by omega
 have hf := heap_alloc_new w (funcO pa pn pc (some ⟨b, o, none⟩) bn bc)
 have k1 : (w.alloc (funcO pa pn pc (some ⟨b, o, none⟩) bn bc)).cell? ⟨w.heap.size, 1, none⟩ = some (.slice (some ⟨b, o, none⟩) bn bc) := by rw [cell_of_row _ _ _ _ _ _ hf]; rfl
 clear h hg hx ht c0 hf hbl
 obtain ⟨ia, ni, ci, ⟨kd, ar, x0, x1⟩⟩ := x
 dsimp only at *
 by_cases e1 : kd = 1
 · subst e1
   have HE : Hid (toD ⟨1, ar, x0, x1⟩ = [x0]) := by rw [Hid, toD, if_pos htb, if_pos rfl]
   clear htb
   go_enter Try.func61, Try.ntmps61
   go_wp2
   go_ret
   rw [HE.out]
   have hl := ownI_lit (W := (w.alloc (funcO pa pn pc (some ⟨b, o, none⟩) bn bc)).alloc (.cells #[.int .i64 1, .int .i64 ar, .int .i64 x0, .int .i64 x1] 112)) (g := w.heap.size + 1 + 1) (xs := [x0]) (by simp) w.heap.size (by omega) (by have := HO.out; rwa [HE.out] at this) (by simp)
   exact ⟨_, rfl, hl, ((ext_alloc _ _).alloc (by simp) _).alloc (by simp; omega) _⟩
 · by_cases e2 : kd = 2
   · subst e2
     have HE : Hid (toD ⟨2, ar, x0, x1⟩ = [x0, x1]) := by rw [Hid, toD, if_pos htb, if_neg (by simp), if_pos rfl]
     clear htb e1
     go_enter Try.func61, Try.ntmps61
     go_wp2
     go_ret
     rw [HE.out]
     have hl := ownI_lit (W := (w.alloc (funcO pa pn pc (some ⟨b, o, none⟩) bn bc)).alloc (.cells #[.int .i64 2, .int .i64 ar, .int .i64 x0, .int .i64 x1] 112)) (g := w.heap.size + 1 + 1) (xs := [x0, x1]) (by simp) w.heap.size (by omega) (by have := HO.out; rwa [HE.out] at this) (by simp)
     exact ⟨_, rfl, hl, ((ext_alloc _ _).alloc (by simp) _).alloc (by simp; omega) _⟩
   · have b1 : (kd == 1) = false := by simpa using e1
     have b2 : (kd == 2) = false := by simpa using e2
     have HE : Hid (toD ⟨kd, ar, x0, x1⟩ = []) := by rw [Hid, toD, if_pos htb, if_neg e1, if_neg e2]
     clear htb e1 e2
     go_enter Try.func61, Try.ntmps61
     go_wp2
     go_ret
     rw [HE.out]
     exact ⟨_, rfl, OwnI.nil _ _, (ext_alloc _ _).alloc (by simp) _⟩
/-- what stands at a round of walk: the queue, what has been found, both rows of the call's own -/
structure WkJ (fo : Obj) (next : Nat → List Nat) (f : Nat → Bool) (b : Nat) (w : World) (B : Nat) (st seen : List Nat) (x : Option (Nat × Nat)) (v vo : Value) (wr : World) : Prop where
 inv : WInv next f b st (fun y => seen.contains y) x
 nodup : seen.Nodup
 low : ∀ y ∈ seen, y < 200
 func : wr.heap[w.heap.size]? = some fo
 que : QueI wr B v (intsN st)
 out : OwnI wr B vo (intsN seen)
 sep : ∀ k, v.ownBlock = some k → vo.ownBlock ≠ some k
 ext : Below w.heap.size w wr
theorem WkJ.ext' {fo : Obj} {next : Nat → List Nat} {f : Nat → Bool} {b : Nat} {w : World} {B : Nat} {st seen : List Nat} {x : Option (Nat × Nat)} {v vo : Value} {wr w' : World} (h : WkJ fo next f b w B st seen x v vo wr) (hb : Below wr.heap.size wr w') : WkJ fo next f b w B st seen x v vo w' :=
 ⟨h.inv, h.nodup, h.low, block_ext hb h.func, h.que.ext hb, h.out.ext hb, h.sep, ext_trans h.ext hb⟩
theorem QueI.kept {w w' : World} {base : Nat} {v : Value} {xs : List Int} {row : Option Nat} (h : QueI w base v xs) (hg : w.grownBy w' row) (hne : ∀ k, v.ownBlock = some k → row ≠ some k) : QueI w' base v xs := by
 obtain ⟨g, o, cap, cur, rfl, h1, h2, h3, h4, h5⟩ := h
 exact ⟨g, o, cap, cur, rfl, h1, h2, h3, (hg.block g (Array.getElem?_eq_some_iff.1 h4).1 (fun e => hne g rfl e.symm)).trans h4, h5⟩
theorem WkJ.push {fo : Obj} {next : Nat → List Nat} {f : Nat → Bool} {b : Nat} {w : World} {B : Nat} {st seen : List Nat} {x j y : Nat} {v vo : Value} {wr w5 w6 : World} {v5 v6 : Value} (h : WkJ fo next f b w B st seen (some (x, j)) v vo wr) (hj : j < (next x).length) (hy : (next x).getD j 0 = y) (hfy : f y = true) (hns : y ∉ seen) (hy2 : y < 200)
  (ho5 : OwnI w5 B v5 (intsN seen ++ [(y : Int)])) (hg5 : wr.grownBy w5 vo.ownBlock) (h5 : v5.ownBlock = vo.ownBlock ∨ ∃ k, v5.ownBlock = some k ∧ wr.heap.size ≤ k) (hq6 : QueI w6 B v6 (intsN st ++ [(y : Int)])) (hg6 : w5.grownBy w6 v.ownBlock) (h6 : v6.ownBlock = v.ownBlock ∨ ∃ k, v6.ownBlock = some k ∧ w5.heap.size ≤ k) (hB : w.heap.size < B) :
  WkJ fo next f b w B (st ++ [y]) (seen ++ [y]) (some (x, j + 1)) v6 v5 w6 := by
 have e1 : intsN (seen ++ [y]) = intsN seen ++ [(y : Int)] := by simp [intsN]
 have e2 : intsN (st ++ [y]) = intsN st ++ [(y : Int)] := by simp [intsN]
 have hvo : ∀ k, vo.ownBlock = some k → B ≤ k ∧ k < wr.heap.size := fun k hk => h.out.low hk
 have hv : ∀ k, v.ownBlock = some k → B ≤ k ∧ k < wr.heap.size := fun k hk => h.que.low hk
 have hv5 : ∀ k, v5.ownBlock = some k → k < w5.heap.size := fun k hk => (ho5.low hk).2
 have hs5 := hg5.size
 have sep5 : ∀ k, v.ownBlock = some k → v5.ownBlock ≠ some k := fun k hk e => by
  rcases h5 with h5 | ⟨q, h5, hq⟩
  · exact h.sep k hk (h5 ▸ e)
  · rw [h5] at e; injection e with e; have := (hv k hk).2; omega
 refine ⟨?_, ?_, ?_, ?_, by rw [e2]; exact hq6, ?_, ?_, ?_⟩
 · exact h.inv.push hj (by rw [hy]; exact hfy) (st ++ [y]) (fun z => by rw [hy]; simp [or_comm]) (fun z => (seen ++ [y]).contains z) (fun z => by rw [hy]; simp [or_comm])
 · rw [List.nodup_append]
   refine ⟨h.nodup, by simp, fun a ha b hb => ?_⟩
   simp at hb
   subst hb
   exact fun e => hns (e ▸ ha)
 · intro z hz
   rcases List.mem_append.1 hz with hz | hz
   · exact h.low z hz
   · simp at hz; subst hz; exact hy2
 · exact grown_row hg6 (grown_row hg5 h.func fun e => by have := (hvo _ e).1; omega) fun e => by have := (hv _ e).1; omega
 · rw [e1]
   refine ho5.kept hg6 ?_
   cases e : v5.ownBlock with
   | none => exact .inl rfl
   | some k => exact .inr fun e3 => sep5 k e3.symm e
 · intro k hk
   rcases h6 with h6 | ⟨q, h6, hq⟩
   · exact sep5 k (h6 ▸ hk)
   · rw [h6] at hk; injection hk with hk; intro e; have := hv5 k e; omega
 · exact (h.ext.grown hg5 h.ext.size (fun k e => by have := (hvo k e).1; omega)).grown hg6 (Nat.le_trans h.ext.size hg5.size) (fun k e => by have := (hv k e).1; omega)
theorem intsN_has (l : List Nat) (y : Nat) : (intsN l).contains (y : Int) = l.contains y := by
 rw [Bool.eq_iff_iff, List.contains_iff_mem, List.contains_iff_mem, intsN, List.mem_map]
 constructor
 · rintro ⟨z, hz, e⟩
   have e' : z = y := by omega
   exact e' ▸ hz
 · intro h; exact ⟨y, h, rfl⟩
theorem OwnI.cellN {w : World} {base b o n c : Nat} {l : List Nat} (h : OwnI w base (.slice (some ⟨b, o, none⟩) n c) (intsN l)) {j y : Nat} (hj : j < l.length) (hy : y = l.getD j 0) : w.cell? ⟨b, o + j, none⟩ = some (.int .i64 (y : Int)) := by
 obtain ⟨a', c', e⟩ := h.form
 have h1 := h
 injection e with e1 e2 e3
 rw [e2] at h1
 obtain ⟨b', o', e4, hc, _⟩ := h1.ints.2.2 j (by simpa [intsN] using hj)
 injection e4 with e4
 injection e4 with e4 e5
 subst e4 e5
 rw [hc]
 simp [intsN, List.getD_eq_getElem?_getD, hj, hy]
def WalkPost (w : World) (g : Nat → Bool) (e : Ending) (w' : World) : Prop := ∃ (v : Value) (l : List Nat), e = .returned v ∧ OwnI w' w.heap.size v (intsN l) ∧ l.Nodup ∧ (∀ y, l.contains y = g y) ∧ Below w.heap.size w w'
theorem walk17_any (pa : Option Addr) (pn pc : Nat) (ba : Option Addr) (bn bc : Nat) (bs : List BlkH) (b : Nat) (ia : Option Addr) (iN ic : Nat) (xs : List Int) (nt : Int) (f : Nat → Bool) (w : World) (h : BlksOK w ba bn bs) (hg : goodB (tsOf bs) = true) (hb : b < bn) (hi : Ints w ia iN xs) (hcf : Canon f) (hff : ∀ y : Nat, f y = (xs.contains (y : Int) && decide ((y : Int) ≠ nt))) (hfb : f b = true) (hnt : I64 nt) :
  Calls Try.prog 27 #[funcV pa pn pc ba bn bc, .int .i64 (b : Int), .slice ia iN ic, .int .i64 nt] w (WalkPost w (walkF (nx (tsOf bs)) f b)) := by
 have hbl : (tsOf bs).length = bn := by rw [tsOf_len]; exact h.1.1
 have hbn : bn ≤ 200 := by have := ((goodB_iff _).1 hg).1.2; omega
 have H := Lib.hid h
 have HG := Lib.hid hg
 have HC := Lib.hid hcf
 have HFF := Lib.hid hff
 have HFB := Lib.hid hfb
 have HIN := Lib.hid hi
 obtain ⟨hnt1, hnt2⟩ := hnt
 have HX : Hid (∀ k y, y ∈ nx (tsOf bs) k → y < bn) := fun k y hy => by have := good_nx hg hy; omega
 clear h hg hcf hff hfb hi
 go_enter Try.func27, Try.ntmps27
 go_upto_region 2 with (fail)
 obtain ⟨W, hW⟩ : ∃ W, W = w.alloc (funcO pa pn pc ba bn bc) := ⟨_, rfl⟩
 rw [← hW]
 have ho : W.heap[w.heap.size]? = some (funcO pa pn pc ba bn bc) := by rw [hW]; exact heap_alloc_new _ _
 have hB : Below w.heap.size w W := by rw [hW]; exact ext_alloc _ _
 have hWs : W.heap.size = w.heap.size + 1 := by rw [hW]; simp
 have HWs := Lib.hid hWs
 have HO := Lib.hid ho
 have HB := Lib.hid hB
 clear hW hWs ho hB
 go_wp2
 go_loopg [9, 10, 11, 12] 201 (fun gg s9 v _ _ wr => ∃ (st seen : List Nat) (vo : Value), vo = s9 ∧ st.length + 200 ≤ gg + seen.length ∧ st.length ≤ seen.length + 1 ∧ Hid (WkJ (funcO pa pn pc ba bn bc) (nx (tsOf bs)) f b w (w.heap.size + 1) st seen none v vo wr))
 case atStart =>
  refine ⟨[b], [], _, rfl, by simp, by simp, by simpa using WInv.start (nx (tsOf bs)) f b, by simp, by simp, ?_, ?_, OwnI.nil _ _, fun k _ e => by simp [Value.ownBlock] at e, ?_⟩
  · exact (Below.heap_alloc _ _ _ (by rw [HWs.out]; omega)).trans HO.out
  · exact QueI.of_own (ownI_lit (xs := intsN [b]) rfl _ (by rw [HWs.out]; omega) (intsN_ok [b] (by simp; omega)) (by simp [intsN]))
  · exact HB.out.alloc (by rw [HWs.out]; omega) _
 case round =>
  obtain ⟨st, seen, vo, rfl, hm, hm2, HJ⟩ := hrel
  clear HO HB HWs
  rcases st with _ | ⟨x, st'⟩
  · have hj := HJ.out
    obtain ⟨g, o, cap, rfl, hl1, hl2, _⟩ := hj.que.form
    have HE : Hid ((fun y => seen.contains y) = walkF (nx (tsOf bs)) f b) := walkF_of HC.out HFB.out hj.inv
    clear hj hl2
    go_wp2
    go_ret
    exact ⟨_, seen, rfl, HJ.out.out.mono (by omega), HJ.out.nodup, fun y => congrFun HE.out y, HJ.out.ext⟩
  · have hj := HJ.out
    have hst : intsN (x :: st') = (x : Int) :: intsN st' := rfl
    have h8 := hj.que
    rw [hst] at h8
    obtain ⟨g, o, cap, rfl, hl1, hl2, hints⟩ := h8.form
    have hlen2 : (intsN st').length = st'.length := by simp [intsN]
    have hlen' : ((x : Int) :: intsN st').length = st'.length + 1 := by simp [intsN]
    have hpop := h8.tail
    obtain ⟨b1, o1, e1, hx0, _⟩ := hints.2.2 0 (by simp)
    injection e1 with e1
    injection e1 with e1 e2
    subst e1 e2
    rw [Nat.add_zero] at hx0
    have hx0' : wr.cell? ⟨g, o, none⟩ = some (.int .i64 (x : Int)) := hx0
    have hxf : f x = true := by
     rcases hj.inv.src x (by simp) with e | e
     · rw [e]; exact HFB.out
     · exact (hj.inv.sound x e).inn
    have hxr : x < bn := by
     rcases hj.inv.src x (by simp) with e | e
     · rw [e]; exact hb
     · cases hj.inv.sound x e with
       | one h _ => exact HX.out _ _ h
       | step _ h _ => exact HX.out _ _ h
    have hseen : seen.length ≤ 200 := nodup_len 200 seen hj.nodup hj.low
    have hstl := hm
    simp only [List.length_cons] at hstl hm2
    rw [hlen'] at hl1
    rw [hlen2] at hpop
    rw [hlen']
    have hcc : (cap = 1 ∧ st' = []) ∨ ∃ c2, cap = c2 + 2 := by
     by_cases e : cap = 1
     · exact .inl ⟨e, List.eq_nil_of_length_eq_zero (by omega)⟩
     · exact .inr ⟨cap - 2, by omega⟩
    have HK := Lib.hid hj.func
    have HBw := Lib.hid hj.ext
    unfold maxLen at hl2
    have hstn : st'.length ≤ 1000 := by omega
    have hwq : w.heap.size + 1 ≤ wr.heap.size := by have := lt_of_heap hj.func; omega
    have HX0 := Lib.hid hx0'
    have hpos : (0 : Int) < ((st'.length + 1 : Nat) : Int) := by omega
    clear hj h8 hst hlen' hlen2 hpop hxf hints hx0 hx0' hcc
    go_upto_region 4 with (fail)
    refine region_free 6 [some 18, some 19, some 20, some 21, some 22, some 11] (by kernel_rfl) (by kernel_rfl) (specB [.val (funcV pa pn pc ba bn bc), .val (.slice (some ⟨g, o, none⟩) (st'.length + 1) cap), .val (.pointer (some ⟨g, o, none⟩)), .val (.int .i64 (x : Int)), (.any fun v lo hi W => ∃ va vc, v = .slice va (intsN (nx (tsOf bs) x)).length vc ∧ OwnI W wr.heap.size v (intsN (nx (tsOf bs) x))), (.any fun v lo hi W => ∃ va vc, v = .slice va (intsN (nx (tsOf bs) x)).length vc ∧ OwnI W wr.heap.size v (intsN (nx (tsOf bs) x)))]) (specB_mono ?_) ?_ ?_
    · intro k hk
      simp only [List.mem_cons, List.not_mem_nil, or_false] at hk
      rcases hk with rfl | rfl | rfl | rfl | rfl | rfl
      · exact trivial
      · exact trivial
      · exact trivial
      · exact trivial
      · intro v lo hi w w' hb ⟨va, vc, e, hi9⟩; exact ⟨va, vc, e, hi9.ext hb⟩
      · intro v lo hi w w' hb ⟨va, vc, e, hi9⟩; exact ⟨va, vc, e, hi9.ext hb⟩
    · intro i hi ν lo hi' w1 K hB hD hK
      have hcase : i = 0 ∨ i = 1 ∨ i = 2 ∨ i = 3 ∨ i = 4 ∨ i = 5 := by omega
      clear hi
      rcases hcase with rfl | rfl | rfl | rfl | rfl | rfl
      · clear hD
        refine wpOp_atK rfl rfl ?_
        simp only [frameOf, frameGo, List.getD_cons_zero, List.getD_cons_succ, put_some, put_none, List.setIfInBounds_toArray, List.set_cons_succ, List.set_cons_zero] at hK ⊢
        refine wp_load_row 25 _ rfl w.heap.size rfl 25 _ (0, 0) _ (block_ext hB HK.out) Try.underlying25 rfl size_func ?_
        exact hK _ _ (Below.refl _ _) rfl
      · clear hD
        refine wpOp_atK rfl rfl ?_
        simp only [frameOf, frameGo, List.getD_cons_zero, List.getD_cons_succ, put_some, put_none, List.setIfInBounds_toArray, List.set_cons_succ, List.set_cons_zero] at hK ⊢
        go_simp
        exact hK _ _ (Below.refl _ _) rfl
      · have e1 := hD 1 (by kernel_rfl)
        replace e1 : ν 1 = (.slice (some ⟨g, o, none⟩) (st'.length + 1) cap) := e1
        clear hD
        refine wpOp_atK rfl rfl ?_
        simp only [frameOf, frameGo, List.getD_cons_zero, List.getD_cons_succ, put_some, put_none, List.setIfInBounds_toArray, List.set_cons_succ, List.set_cons_zero, e1] at hK ⊢
        go_simp
        exact hK _ _ (Below.refl _ _) rfl
      · have e2 := hD 2 (by kernel_rfl)
        replace e2 : ν 2 = (.pointer (some ⟨g, o, none⟩)) := e2
        clear hD
        refine wpOp_atK rfl rfl ?_
        simp only [frameOf, frameGo, List.getD_cons_zero, List.getD_cons_succ, put_some, put_none, List.setIfInBounds_toArray, List.set_cons_succ, List.set_cons_zero, e2] at hK ⊢
        have q := cell_ext hB HX0.out
        go_simp
        exact hK _ _ (Below.refl _ _) rfl
      · have e0 := hD 0 (by kernel_rfl)
        replace e0 : ν 0 = (funcV pa pn pc ba bn bc) := e0
        have e3 := hD 3 (by kernel_rfl)
        replace e3 : ν 3 = (.int .i64 (x : Int)) := e3
        clear hD
        refine wpOp_atK rfl rfl ?_
        simp only [frameOf, frameGo, List.getD_cons_zero, List.getD_cons_succ, put_some, put_none, List.setIfInBounds_toArray, List.set_cons_succ, List.set_cons_zero, e0, e3] at hK ⊢
        go_simp
        refine (arms17_any pa pn pc ba bn bc bs x w1 (H.out.ext (ext_trans HBw.out hB)) HG.out hxr).mono ?_
        rintro e w3 ⟨v, rfl, ho, hb3⟩
        rw [toD_nxP HG.out] at ho
        obtain ⟨va, vc, e9⟩ := ho.form
        exact hK _ _ hb3 ⟨va, vc, e9, ho.mono hB.size⟩
      · have e0 := hD 0 (by kernel_rfl)
        replace e0 : ν 0 = (funcV pa pn pc ba bn bc) := e0
        have e1 := hD 1 (by kernel_rfl)
        replace e1 : ν 1 = (.slice (some ⟨g, o, none⟩) (st'.length + 1) cap) := e1
        have e2 := hD 2 (by kernel_rfl)
        replace e2 : ν 2 = (.pointer (some ⟨g, o, none⟩)) := e2
        have e3 := hD 3 (by kernel_rfl)
        replace e3 : ν 3 = (.int .i64 (x : Int)) := e3
        have e4 := hD 4 (by kernel_rfl)
        unfold specB at e4
        simp only [List.getD_cons_zero, List.getD_cons_succ, specK] at e4
        clear hD
        refine wpOp_atK rfl rfl ?_
        simp only [frameOf, frameGo, List.getD_cons_zero, List.getD_cons_succ, put_some, put_none, List.setIfInBounds_toArray, List.set_cons_succ, List.set_cons_zero, e0, e1, e2, e3] at hK ⊢
        obtain ⟨va, vc, e4', ho4⟩ := e4
        simp only [e4'] at hK ⊢
        go_simp
        exact hK _ _ (Below.refl _ _) ⟨va, vc, rfl, by rw [← e4']; exact ho4⟩
    · intro ν lo hi w1 hB hS hI hD
      have e0 : ν 0 = (funcV pa pn pc ba bn bc) := hS 0 (by omega)
      have e1 : ν 1 = (.slice (some ⟨g, o, none⟩) (st'.length + 1) cap) := hS 1 (by omega)
      have e2 : ν 2 = (.pointer (some ⟨g, o, none⟩)) := hS 2 (by omega)
      have e3 : ν 3 = (.int .i64 (x : Int)) := hS 3 (by omega)
      have e4 := hS 4 (by omega)
      unfold specB at e4
      simp only [List.getD_cons_zero, List.getD_cons_succ, specK] at e4
      have e5 := hS 5 (by omega)
      unfold specB at e5
      simp only [List.getD_cons_zero, List.getD_cons_succ, specK] at e5
      clear hS
      simp only [List.drop_succ_cons, List.drop_zero, frameOf, frameGo, List.getD_cons_zero, List.getD_cons_succ, put_some, put_none, List.setIfInBounds_toArray, List.set_cons_succ, List.set_cons_zero, e0, e1, e2, e3]
      obtain ⟨va, vc, e5', ho5⟩ := e5
      simp only [e5']
      have hjx := HJ.out.ext' hB
      have hnl : (intsN (nx (tsOf bs) x)).length = (nx (tsOf bs) x).length := by simp [intsN]
      have hnl2 : (nx (tsOf bs) x).length ≤ 2 := by simp only [nx, List.length_map]; exact toD_len _
      rw [e5', hnl] at ho5
      rw [hnl]
      have HNX := Lib.hid (ho5.mono (show w.heap.size + 1 ≤ wr.heap.size from hwq))
      have HSP : Hid (∀ k, (Value.slice va (nx (tsOf bs) x).length vc).ownBlock = some k → wr.heap.size ≤ k) := fun k hk => (ho5.1.lt k hk).1
      have HVO : Hid (∀ k, vo.ownBlock = some k → k < wr.heap.size) := fun k hk => (HJ.out.out.low hk).2
      have HVQ : Hid (g < wr.heap.size) := (HJ.out.que.low (k := g) rfl).2
      obtain ⟨wo, hwo⟩ : ∃ W, W = w1 := ⟨_, rfl⟩
      rw [← hwo] at hjx HNX ⊢
      have HJX := Lib.hid hjx
      clear hI hD hB e0 e1 e2 e3 e4 e5' ho5 hnl hwo hjx HJ HX0 HK HBw hpos
      have hj2 : ∀ v2, QueI wo (w.heap.size + 1) v2 (intsN st') → (∀ k, v2.ownBlock = some k → vo.ownBlock ≠ some k) → WkJ (funcO pa pn pc ba bn bc) (nx (tsOf bs)) f b w (w.heap.size + 1) st' seen (some (x, 0)) v2 vo wo := fun v2 hp hs =>
       have hj := HJX.out
       ⟨hj.inv.take x st' (fun z => by simp), hj.nodup, hj.low, hj.func, hp, hj.out, hs, hj.ext⟩
      have hlen2 : (intsN st').length = st'.length := by simp [intsN]
      have hq := HJX.out.que
      rw [show intsN (x :: st') = (x : Int) :: intsN st' from rfl] at hq
      have hpop := hq.tail
      rw [hlen2] at hpop
      have hpop1 : cap = 1 → st' = [] → QueI wo (w.heap.size + 1) (.slice (some ⟨g, o, none⟩) 0 0) (intsN []) := fun e1 e2 => by
       obtain ⟨g', o', cap', cur, e, k1, k2, k3, k4, k5, k6, k7, k8⟩ := hq
       injection e with e1 e2 e3
       injection e1 with e1
       injection e1 with e1 e4 _
       subst e1 e3 e4
       exact ⟨g, o, 0, cur, rfl, k1, by simp [intsN], by simp [maxLen], k4, by omega, fun k hk => by simp [intsN] at hk, fun z hz => by simp [intsN] at hz, by simp [intsN]⟩
      have hsep : ∀ k, (some g : Option Nat) = some k → vo.ownBlock ≠ some k := fun k e => HJX.out.sep k e
      have hcc : (cap = 1 ∧ st' = []) ∨ ∃ c2, cap = c2 + 2 := by
       by_cases e : cap = 1
       · exact .inl ⟨e, List.eq_nil_of_length_eq_zero (by omega)⟩
       · exact .inr ⟨cap - 2, by omega⟩
      have HQL0 := HVQ.out
      rcases hcc with ⟨rfl, hs0⟩ | ⟨c2, rfl⟩
      case' inl => have HJ3 := Lib.hid (hj2 (.slice (some ⟨g, o, none⟩) 0 0) (by rw [hs0]; exact hpop1 rfl hs0) hsep); have HQL : Hid (∀ k, (Value.slice (some ⟨g, o, none⟩) 0 0).ownBlock = some k → k < wr.heap.size) := (fun k e => by injection e with e; subst e; exact HVQ.out); clear hs0
      case' inr => have HJ3 := Lib.hid (hj2 _ hpop hsep); have HQL : Hid (∀ k, (Value.slice (some ⟨g, o + 1, none⟩) st'.length (c2 + 2 - 1)).ownBlock = some k → k < wr.heap.size) := (fun k e => by injection e with e; subst e; exact HVQ.out)
      all_goals
       clear hj2 hlen2 hq hpop hpop1 hsep HQL0 HJX
       go_wp2
       obtain ⟨L, hL⟩ : ∃ L, L = (nx (tsOf bs) x).length := ⟨_, rfl⟩
       rw [← hL] at HNX HSP hnl2 ⊢
       have HLN := Lib.hid hL
       clear hL
       go_loopg [9, 10, 12] L (fun g2 s9 v2 jj wi => ∃ (j' : Nat) (st2 seen2 : List Nat) (vo2 : Value), vo2 = s9 ∧ jj = .int .i64 (j' : Int) ∧ j' ≤ L ∧ L ≤ g2 + j' ∧ st2.length + seen.length = st'.length + seen2.length ∧ Hid (OwnI wi (w.heap.size + 1) (.slice va L vc) (intsN (nx (tsOf bs) x))) ∧ Hid (∀ k, (v2.ownBlock = some k ∨ vo2.ownBlock = some k) → (Value.slice va L vc).ownBlock ≠ some k) ∧ Hid (WkJ (funcO pa pn pc ba bn bc) (nx (tsOf bs)) f b w (w.heap.size + 1) st2 seen2 (some (x, j')) v2 vo2 wi))
       case atStart => exact ⟨0, st', seen, vo, rfl, rfl, Nat.zero_le _, Nat.le_refl _, rfl, HNX, (by intro k hk e; have h1 := HSP.out k e; rcases hk with hk | hk <;> first | (have := HQL.out k hk; omega) | (have := HVO.out k hk; omega)), HJ3⟩
       case round =>
        obtain ⟨j', st2, seen2, vo2, rfl, rfl, hjl0, hg2, hcnt, HN, HSE, HJ⟩ := hrel
        clear HJ3 HNX HQL HSP HVO HVQ
        have hj := HJ.out
        have hst2 : (intsN st2).length = st2.length := by simp [intsN]
        have hse2 : (intsN seen2).length = seen2.length := by simp [intsN]
        obtain ⟨g3, o3, cap3, hqf, hl3, hl4, _⟩ := hj.que.form
        rw [hst2] at hqf hl3
        subst hqf
        have hseen2 : seen2.length ≤ 200 := nodup_len 200 seen2 hj.nodup hj.low
        unfold maxLen at hl4
        by_cases hjl : j' < L
        · have hjl2 : j' < (nx (tsOf bs) x).length := by rw [← HLN.out]; exact hjl
          have hyx : (nx (tsOf bs) x).getD j' 0 ∈ nx (tsOf bs) x := by rw [List.getD_eq_getElem?_getD, List.getElem?_eq_getElem hjl2]; exact List.getElem_mem _
          have hyb := HX.out x _ hyx
          obtain ⟨b3, o4, rfl, hcy, _⟩ := HN.out.ints.2.2 j' (by have := HN.out.ints.1; simp [intsN] at this; omega)
          have hey : (intsN (nx (tsOf bs) x)).getD j' 0 = (((nx (tsOf bs) x).getD j' 0 : Nat) : Int) := by simp [intsN, List.getD_eq_getElem?_getD, hjl2]
          rw [hey] at hcy
          obtain ⟨y, hyy⟩ : ∃ y, y = (nx (tsOf bs) x).getD j' 0 := ⟨_, rfl⟩
          rw [← hyy] at hcy hyb
          have HY := Lib.hid hyy
          have hy2 : y < 200 := by omega
          have hyI : I64 (y : Int) := by unfold I64; omega
          have hjl' : (j' : Int) < (L : Int) := by omega
          obtain ⟨oa, oc, hof⟩ := hj.out.form
          rw [hse2] at hof
          subst hof
          have HIO : Hid (Ints wr oa seen2.length (intsN seen2)) := by have h1 := hj.out; have h2 := h1.1.1; rw [← hse2] at h1 ⊢; exact h1.ints
          have HIW := Lib.hid (HIN.out.ext hj.ext)
          clear hey hyx hyy hj hst2 hse2
          obtain ⟨A, hA⟩ : ∃ A, A = xs.contains (y : Int) := ⟨_, rfl⟩
          obtain ⟨C, hC⟩ : ∃ C, C = seen2.contains y := ⟨_, rfl⟩
          have HA := Lib.hid hA
          have HCC := Lib.hid hC
          have HA1 := Lib.hid (among17_any ia iN ic xs (y : Int) wr HIW.out)
          have HA2 := Lib.hid (among17_any oa seen2.length oc (intsN seen2) (y : Int) wr HIO.out)
          have hfy := HFF.out y
          rw [← hA] at hfy
          clear hA hC
          cases A
          · have HJ4 : Hid (WkJ (funcO pa pn pc ba bn bc) (nx (tsOf bs)) f b w (w.heap.size + 1) st2 seen2 (some (x, j' + 1)) (.slice (some ⟨g3, o3, none⟩) st2.length cap3) (.slice oa seen2.length oc) wr) := by
             have hj := HJ.out
             exact ⟨hj.inv.skip hjl2 (fun hi => by rw [← HY.out, hfy] at hi; simp at hi), hj.nodup, hj.low, hj.func, hj.que, hj.out, hj.sep, hj.ext⟩
            clear hfy HJ
            go_wp2_with (go_at_call 23; with_reducible refine HA1.out.mono ?_; rintro e w8 ⟨rfl, rfl⟩; rw [← HA.out])
            go_roundg (L - (j' + 1))
            case measure => omega
            case rel => exact ⟨j' + 1, st2, seen2, _, rfl, by go_num, by omega, by omega, by omega, HN, HSE, HJ4⟩
          · cases C
            · by_cases hn : (y : Int) = nt
              · have hfy0 : f y = false := by rw [hfy, hn]; simp
                have HJ4 : Hid (WkJ (funcO pa pn pc ba bn bc) (nx (tsOf bs)) f b w (w.heap.size + 1) st2 seen2 (some (x, j' + 1)) (.slice (some ⟨g3, o3, none⟩) st2.length cap3) (.slice oa seen2.length oc) wr) := by
                 have hj := HJ.out
                 exact ⟨hj.inv.skip hjl2 (fun hi => by rw [← HY.out, hfy0] at hi; simp at hi), hj.nodup, hj.low, hj.func, hj.que, hj.out, hj.sep, hj.ext⟩
                clear hfy hfy0 HJ
                subst hn
                go_wp2_with (go_at_call 23; (first
                 | (with_reducible refine HA1.out.mono ?_; rintro e w8 ⟨rfl, rfl⟩; rw [← HA.out])
                 | (with_reducible refine HA2.out.mono ?_; rintro e w8 ⟨rfl, rfl⟩; rw [intsN_has, ← HCC.out])))
                go_roundg (L - (j' + 1))
                case measure => omega
                case rel => exact ⟨j' + 1, st2, seen2, _, rfl, by go_num, by omega, by omega, by omega, HN, HSE, HJ4⟩
              · have HFY : Hid (f y = true) := by rw [Hid, hfy]; simp [hn]
                have HNS : Hid (y ∉ seen2) := by have := HCC.out; rw [Hid, ← List.contains_iff_mem, ← this]; simp
                have hsl2 : (intsN st2).length ≤ 1000 := by simp [intsN]; omega
                have hse3 : (intsN seen2).length ≤ 1000 := by simp [intsN]; omega
                clear hfy
                have HCY : Hid (∀ W, OwnI W (w.heap.size + 1) (.slice (some ⟨b3, o4, none⟩) L vc) (intsN (nx (tsOf bs) x)) → W.cell? ⟨b3, o4 + j', none⟩ = some (.int .i64 (y : Int))) := fun W h => h.cellN hjl2 HY.out
                have hsz : w.heap.size + 1 ≤ wr.heap.size := by have := lt_of_heap HJ.out.func; omega
                go_wp2_with (first
                 | (go_at_call 23; (first
                     | (with_reducible refine HA1.out.mono ?_; rintro e w8 ⟨rfl, rfl⟩; rw [← HA.out])
                     | (with_reducible refine HA2.out.mono ?_; rintro e w8 ⟨rfl, rfl⟩; rw [intsN_has, ← HCC.out])))
                 | (at_builtin
                    first
                    | (refine wpList_append1I rfl wr (.tmp 54) (.tmp 59) 22 rfl (w.heap.size + 1) _ 8 Try.underlying22 infoI rfl (.slice oa seen2.length oc) (intsN seen2) rfl HJ.out.out (y : Int) hyI wr.heap.size rfl rfl (by omega) (by omega) hsz ?_
                       intro g9 cap9 w5 ho9 hg9 hat9
                       have HG5 := Lib.hid hg9
                       have HO5 := Lib.hid ho9
                       have HAT5 : Hid ((Value.slice (some ⟨g9, 0, none⟩) ((intsN seen2).length + 1) cap9).ownBlock = (Value.slice oa seen2.length oc).ownBlock ∨ ∃ k, (Value.slice (some ⟨g9, 0, none⟩) ((intsN seen2).length + 1) cap9).ownBlock = some k ∧ wr.heap.size ≤ k) := (by rcases hat9 with h | h; exact .inl h; exact .inr ⟨g9, rfl, by omega⟩)
                       have HN5 := Lib.hid (HN.out.kept hg9 (.inr (fun e => HSE.out b3 (.inr (by rw [← e]; rfl)) rfl)))
                       have HQ5 := Lib.hid (HJ.out.que.kept hg9 (fun k hk => HJ.out.sep k hk))
                       have hcy5 := HCY.out w5 HN5.out
                       have hsz5 : w.heap.size + 1 ≤ w5.heap.size := (by have := hg9.size; omega)
                       clear hg9 ho9 hat9 hcy)
                    | (refine wpList_append_que rfl w5 (.tmp 61) (.tmp 66) 22 rfl (w.heap.size + 1) _ 8 Try.underlying22 infoI rfl (.slice (some ⟨g3, o3, none⟩) st2.length cap3) (intsN st2) rfl HQ5.out (y : Int) hyI w5.heap.size rfl rfl (by omega) (by omega) hsz5 ?_
                       intro v6 w6 hq6 hg6 hb6
                       have HQ6 := Lib.hid hq6
                       have HG6 := Lib.hid hg6
                       have HB6 := Lib.hid hb6
                       clear hq6 hg6 hb6)))
                have HN6 := Lib.hid (HN5.out.kept HG6.out (.inr (fun e => HSE.out b3 (.inl (by rw [← e]; rfl)) rfl)))
                have hb3a := (HN.out.low (k := b3) rfl).2
                have hb3b := (HN5.out.low (k := b3) rfl).2
                have HSE6 : Hid (∀ k, (v6.ownBlock = some k ∨ (Value.slice (some ⟨g9, 0, none⟩) ((intsN seen2).length + 1) cap9).ownBlock = some k) → (Value.slice (some ⟨b3, o4, none⟩) L vc).ownBlock ≠ some k) := by
                 intro k hk e
                 have hkb : b3 = k := by injection e
                 subst hkb
                 rcases hk with hk | hk
                 · rcases HB6.out with h | ⟨q, h, hq⟩
                   · exact HSE.out b3 (.inl (h ▸ hk)) rfl
                   · rw [h] at hk; injection hk with hk; omega
                 · rcases HAT5.out with h | ⟨q, h, hq⟩
                   · exact HSE.out b3 (.inr (h ▸ hk)) rfl
                   · rw [h] at hk; injection hk with hk; omega
                have HJ7 := Lib.hid (HJ.out.push hjl2 HY.out.symm HFY.out HNS.out hy2 HO5.out HG5.out HAT5.out HQ6.out HG6.out HB6.out (by omega))
                go_roundg (L - (j' + 1))
                case measure => omega
                case rel => exact ⟨j' + 1, st2 ++ [y], seen2 ++ [y], _, rfl, by go_num, by omega, by omega, by simp; omega, HN6, HSE6, HJ7⟩
            · have HJ4 : Hid (WkJ (funcO pa pn pc ba bn bc) (nx (tsOf bs)) f b w (w.heap.size + 1) st2 seen2 (some (x, j' + 1)) (.slice (some ⟨g3, o3, none⟩) st2.length cap3) (.slice oa seen2.length oc) wr) := by
               have hj := HJ.out
               exact ⟨hj.inv.skip hjl2 (fun _ => by rw [← HY.out]; exact HCC.out.symm), hj.nodup, hj.low, hj.func, hj.que, hj.out, hj.sep, hj.ext⟩
              clear hfy HJ
              go_wp2_with (go_at_call 23; (first
               | (with_reducible refine HA1.out.mono ?_; rintro e w8 ⟨rfl, rfl⟩; rw [← HA.out])
               | (with_reducible refine HA2.out.mono ?_; rintro e w8 ⟨rfl, rfl⟩; rw [intsN_has, ← HCC.out])))
              go_roundg (L - (j' + 1))
              case measure => omega
              case rel => exact ⟨j' + 1, st2, seen2, _, rfl, by go_num, by omega, by omega, by omega, HN, HSE, HJ4⟩
        · obtain rfl : j' = L := by omega
          have HJ4 : Hid (WkJ (funcO pa pn pc ba bn bc) (nx (tsOf bs)) f b w (w.heap.size + 1) st2 seen2 none (.slice (some ⟨g3, o3, none⟩) st2.length cap3) vo2 wr) := by
           have hj := HJ.out
           exact ⟨hj.inv.fin (by rw [HLN.out]; exact Nat.le_refl _), hj.nodup, hj.low, hj.func, hj.que, hj.out, hj.sep, hj.ext⟩
          clear HJ hj hst2 hse2
          go_wp2
          go_roundg (st2.length + 200 - seen2.length)
          case measure => omega
          case rel => exact ⟨st2, seen2, _, rfl, by omega, by omega, HJ4⟩
end
end Go.Proofs.Ytblhmdhfhaencaa
