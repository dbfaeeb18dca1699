/-
 Edge: slices of edges; slices.Collect of edges; edge.All.
-/
import Derived.Test.YtblhmdhfhaencaaEA
import Derived.Test.YtblhmdhfhaencaaEQ
import Derived.Test.YtblhmdhfhaencaaMidR
import Derived.Test.YtblhmdhfhaencaaTD
import Derived.Test.YtblhmdhfhaencaaTV
import Derived.Test.YtblhmdhfhaencaaCP
namespace Go.Proofs.Ytblhmdhfhaencaa
set_option linter.unusedSimpArgs false
set_option linter.unusedVariables false
set_option linter.unusedSectionVars false
set_option maxRecDepth 100000
set_option maxHeartbeats 40000000
section
open Go.RowKit Go.Shelf
attribute [local go_sem] Oper.semAt_some wide_fn wide_depth wide_fnR wide_depthR

def csE (x : EdgeD) : List Value := [.int .i64 x.fr, .int .i64 x.arm, .int .i64 x.to]
theorem csE_len (x : EdgeD) : (csE x).length = 3 := rfl
abbrev OwnE (w : World) (base : Nat) (v : Value) (l : List EdgeD) : Prop := OwnR 39 3 csE w base v l
abbrev EdgS (w : World) (a : Option Addr) (n : Nat) (l : List EdgeD) : Prop := Recs 3 csE w a n l
theorem infoE : (Try.prog.info? 39).map (fun i => (i.zero, i.size, i.bytes)) = some (some (.agg #[.int .i64 0, .int .i64 0, .int .i64 0]), 3, 24) := by kernel_rfl
theorem csE_one (l : List EdgeD) : ∀ u ∈ l.flatMap csE, u.oneCell' = true := by
 intro u hu
 simp only [List.mem_flatMap, csE] at hu
 obtain ⟨x, _, hx⟩ := hu
 simp only [List.mem_cons, List.not_mem_nil, or_false] at hx
 rcases hx with rfl | rfl | rfl <;> rfl
/-- a list of edges as a result -/
def EdgesPost (w : World) (l : List EdgeD) (e : Ending) (w' : World) : Prop := ∃ v, e = .returned v ∧ OwnE w' w.heap.size v l ∧ Below w.heap.size w w'
/-- what lies where while edges are put together -/
def AJE (w : World) (B base : Nat) (xs : List EdgeD) (W : World) : Prop :=
 ∃ v, W.heap[B]? = some (.cells #[v] 36 (0, 0)) ∧ OwnE W base v xs ∧ v.ownBlock ≠ some B ∧ Below w.heap.size w W ∧ w.heap.size < W.heap.size
theorem AJE.steady {w : World} {B base : Nat} {xs : List EdgeD} {D : Nat} (hD : w.heap.size ≤ D) : Steady D (AJE w B base xs) := by
 unfold AJE
 exact Steady.ex fun v => (Steady.block _ _ rfl).and ((Steady.ownR _ _ _ _).and ((Steady.pure _ _).and ((Steady.below (Nat.le_refl _) hD).and (Steady.size _ _))))
theorem ownr_nobook {w : World} {base : Nat} {e : TypeId} {size : Nat} {v : Value} {n : Nat} {xs : List Value} (h : w.ownsRow base e size v n xs) : ∀ (j : Nat) (o : Obj), v.ownBlock = some j → w.heap[j]? = some o → isBook o = false := own_nobook h
theorem appendSeqE_any (gf : Nat) (lb : Array Value) (l : List EdgeD) (w : World) (eg : ∀ args w, (callFunc gf args).run Try.prog w = .ok (.enter gf args) w) (hit : IterTI Try.prog gf lb encE l (fun W => Below w.heap.size w W)) (hl : l.length ≤ 1000000) :
  Calls Try.prog 74 #[.slice none 0 0, .func (.func gf) #[] lb] w (EdgesPost w l) := by
 refine (callsIn_wide (n := 0)).1 ?_
 refine callsIn_of_wp_marks Try.func74 rfl trivial ?_
 simp only [Try.ntmps74, List.size_toArray, List.length_cons, List.length_nil, Nat.reduceAdd, Nat.reduceSub, Array.replicate_succ, Array.replicate_zero, List.push_toArray, List.append_toArray, List.nil_append, List.cons_append]
 have HIT := Lib.hid hit
 clear hit
 gi_wp2
 refine range_listTB (ps := #[7]) (gf := gf) (lb := lb) (enc := encE) (l := l) rfl eg (fun W => Below w.heap.size w W) HIT.out (fun _ => rfl)
  (fun d r W => Hid (AJE w w.heap.size w.heap.size d W))
  (fun _ _ => False)
  (fun d r => AJE.steady (by simp)) (fun c => Steady.pure _ _) (fun d r W h => by obtain ⟨v, _, _, _, hb, _⟩ := h.out; exact hb)
  (TV w.heap.size 36) ?t0 ?tg ?start ?round ?done ?stop
 case t0 =>
  intro d r W k h ht
  obtain ⟨v, hv, ho, _, _, h1⟩ := h.out
  rcases ht with rfl | ⟨u, hu, hk⟩
  · exact h1
  · rw [hv] at hu
    simp only [Option.some.injEq, Obj.cells.injEq, Array.mk.injEq, List.cons.injEq, and_true] at hu
    subst hu
    exact (ho.low hk).2
 case tg =>
  rintro W W' row hg hr ⟨d, r, h⟩ k ht
  obtain ⟨v, hv, _⟩ := h.out
  refine ht.ext (hg.block _ (Array.getElem?_eq_some_iff.1 hv).1 fun e => ?_)
  obtain ⟨_, o, ho, hb⟩ := hr _ e.symm
  rw [hv] at ho
  cases ho
  cases hb
 case start => exact ⟨_, heap_alloc_new _ _, OwnR.nil _ _ _ _ _, by simp [Value.ownBlock], (Below.refl _ w).alloc (Nat.le_refl _) _, by simp⟩
 case round =>
  rintro lp d x r W hd hJ
  unfold encE
  gi_wp2
  obtain ⟨v1, hv1, ho1, hne1, hb1, hlt1⟩ := hJ.out
  have hbW : Below W.heap.size W (W.alloc (.cells #[.int .i64 x.fr, .int .i64 x.arm, .int .i64 x.to] 39)) := ext_alloc _ _
  refine ⟨Keep.ext hbW, (AJE.steady (Nat.le_refl _)).ext hJ hbW, tch_below hlt1 hbW, fun W2 => W2.heap[W.heap.size]? = some (.cells #[.int .i64 x.fr, .int .i64 x.arm, .int .i64 x.to] 39 (0, 0)), Steady.block _ _ rfl, heap_alloc_new _ _, ?_⟩
  generalize W.heap.size = g at *
  clear hv1 ho1 hne1 hb1 hlt1 hbW hJ lp
  rintro lp W2 hJ hG
  obtain ⟨v, hv, ho, hne, hb, hlt0⟩ := hJ.out
  obtain ⟨av, cv, rfl⟩ := ho.form
  have hc0 : W2.cell? ⟨w.heap.size, 0, none⟩ = some (.slice av d.length cv) := by rw [cell_of_row _ _ _ _ _ _ hv]; rfl
  have hf0 : W2.frozen? ⟨w.heap.size, 0, none⟩ = false := frozen_of_row _ _ _ _ _ hv
  have hg0 : W2.cell? ⟨g, 0, none⟩ = some (.int .i64 x.fr) := by rw [cell_of_row _ _ _ _ _ _ hG]; rfl
  have hg1 : W2.cell? ⟨g, 1, none⟩ = some (.int .i64 x.arm) := by rw [cell_of_row _ _ _ _ _ _ hG]; rfl
  have hg2 : W2.cell? ⟨g, 2, none⟩ = some (.int .i64 x.to) := by rw [cell_of_row _ _ _ _ _ _ hG]; rfl
  have HO := Lib.hid ho
  have HV := Lib.hid hv
  have HB := Lib.hid hb
  have HNE := Lib.hid hne
  have hlen : d.length ≤ 1000000 := by rw [hd] at hl; simp at hl; omega
  clear hv ho hb hJ hne hG
  gi_wp2_with (
   (gi_at_builtin
    refine listIn_of (by repeat (first | exact noOut_round | refine noOut_then ?_ | refine noOut_block ?_)) _ _ _ rfl ?_
    refine wpList_append1 rfl W2 (.tmp 8) (.tmp 10) 36 39 rfl w.heap.size _ 3 24 Try.underlying36 infoE rfl (by omega) (.slice av d.length cv) d.length _ (csE x) rfl HO.out.1 W2.heap.size rfl rfl rfl (by simp [csE, Value.oneCell']) (by simp only [maxLen]; omega) (by omega) (by omega) ?_
    intro g2 cap w2 hown2 hgr2 hat2
    have HO2 := Lib.hid hown2
    have HG2 := Lib.hid hgr2
    have HA2 := Lib.hid hat2
    have hv2 := grown_row hgr2 HV.out HNE.out
    have hc2 : w2.cell? ⟨w.heap.size, 0, none⟩ = some (.slice av d.length cv) := (by rw [cell_of_row _ _ _ _ _ _ hv2]; rfl)
    have hf2 : w2.frozen? ⟨w.heap.size, 0, none⟩ = false := frozen_of_row _ _ _ _ _ hv2
    have hlt2 : w.heap.size < w2.heap.size := (Array.getElem?_eq_some_iff.1 hv2).1
    have HV2 := Lib.hid hv2
    clear hown2 hgr2 hat2 hv2 hc0 hf0))
  go_wp2
  have hb2 : Below w.heap.size w w2 := HB.out.grown HG2.out HB.out.size (fun k e => (HO.out.low e).1)
  have hgne : g2 ≠ w.heap.size := by
   rcases HA2.out with h | h
   · exact fun e => HNE.out (by rw [← h, e])
   · omega
  have hB2 := heap_setCell_same w2 w.heap.size 0 _ _ (.slice (some ⟨g2, 0, none⟩) (d.length + 1) cap) HV2.out
  simp only [List.setIfInBounds_toArray, List.set_cons_zero] at hB2
  refine ⟨(Keep.grown HG2.out (own_nobook HO.out.1)).trans (Keep.setCell _ _ _), ⟨_, hB2, ?_, by simpa [Value.ownBlock] using hgne, ?_⟩, ?_⟩
  · refine OwnR.kept (row := some w.heap.size) (w := w2) ⟨?_, by simp; omega⟩ (grown_setCell w2 w.heap.size 0 _) (.inr (by simp [Value.ownBlock]; omega))
    have := HO2.out
    simpa [List.flatMap_append] using this
  · exact ⟨hb2.setCell (Nat.le_refl _) _, by simpa using hlt2⟩
  · refine tch_var HV.out hB2 (by simpa using HG2.out.size) (fun k hk hkB hkv => ?_) (fun k hk => ?_)
    · rw [Below.heap_setCell _ _ _ _ (fun e => hkB e), HG2.out.block k hk (fun e => hkv e.symm)]
    · simp only [Value.ownBlock, Option.some.injEq] at hk
      subst hk
      rcases HA2.out with h | h
      · exact .inl h.symm
      · exact .inr (by omega)
 case done =>
  rintro D W hD hJ hK
  obtain ⟨v, hv, ho, hne, hb, hlt0⟩ := hJ.out
  obtain ⟨av, cv, rfl⟩ := ho.form
  have hc0 : W.cell? ⟨w.heap.size, 0, none⟩ = some (.slice av l.length cv) := by rw [cell_of_row _ _ _ _ _ _ hv]; rfl
  have HO := Lib.hid ho
  have HB := Lib.hid hb
  have HJ := hJ
  clear hv ho hb hJ hne
  gi_wp2
  obtain ⟨v2, hv2, ho2, _, hb2, _⟩ := (AJE.steady (w := w) (B := w.heap.size) (base := w.heap.size) (xs := l) (D := w.heap.size) (Nat.le_refl _)).put (.deferred none) (l := D) HJ.out (by simp at hD; omega) hK rfl
  refine ⟨by simp, .inl ⟨_, _, rfl, run_takeDeferred hK, ?_⟩⟩
  have ho3 : OwnE (W.putObj D (.deferred none)) w.heap.size (.slice av l.length cv) l := (Steady.ownR w.heap.size w.heap.size (.slice av l.length cv) l).put (.deferred none) (l := D) HO.out (by simp at hD; omega) hK rfl
  exact ⟨.slice av l.length cv, by simp [results, Try.results74, go_sem], _, rfl, ho3, hb2⟩
 case stop => rintro D c W hD h; exact h.elim
theorem collectE_any (gf : Nat) (lb : Array Value) (l : List EdgeD) (w : World) (eg : ∀ args w, (callFunc gf args).run Try.prog w = .ok (.enter gf args) w) (hit : IterTI Try.prog gf lb encE l (fun W => Below w.heap.size w W)) (hl : l.length ≤ 1000000) :
  Calls Try.prog 39 #[.func (.func gf) #[] lb] w (EdgesPost w l) := by
 have HIT := Lib.hid hit
 have EG := Lib.hid eg
 clear hit eg
 go_enter Try.func39, Try.ntmps39
 go_wp2_with (go_at_call 74; refine (appendSeqE_any gf lb l w EG.out HIT.out hl).mono ?_; rintro e w' ⟨v, rfl, ho, hb⟩; have HO := Lib.hid ho; have HB := Lib.hid hb; clear ho hb)
 go_ret
 exact ⟨_, rfl, HO.out, HB.out⟩
theorem enter_eachE (args : Array Value) (w : World) : (callFunc 75 args).run Try.prog w = .ok (.enter 75 args) w := enters_of Try.func75 (by kernel_rfl) rfl args w
/-- THE WALK: edge.All -/
theorem allE_any (pa : Option Addr) (pn pc : Nat) (ba : Option Addr) (bn bc : Nat) (bs : List BlkH) (w : World) (h : BlksOK w ba bn bs) :
  Calls Try.prog 13 #[funcV pa pn pc ba bn bc] w (EdgesPost w (allE (tsOf bs))) := by
 have H := Lib.hid h
 clear h
 go_enter Try.func13, Try.ntmps13
 go_upto_region 1 with (fail)
 obtain ⟨W, hW⟩ : ∃ W, W = w.alloc (funcO pa pn pc ba bn bc) := ⟨_, rfl⟩
 rw [← hW]
 have hk0 : W.heap[w.heap.size]? = some (funcO pa pn pc ba bn bc) := by rw [hW]; exact heap_alloc_new _ _
 have hB : Below w.heap.size w W := by rw [hW]; exact ext_alloc _ _
 have HK := Lib.hid hk0
 have HB := Lib.hid hB
 clear hW hk0 hB
 cases hf : fitsB (tsOf bs) with
 | false =>
   have HF := Lib.hid hf
   clear hf
   go_wp2_with (first
    | (refine wpList_load_row (o := ⟨some 3, .load 25 _, _, _, _, _⟩) rfl 25 _ rfl w.heap.size rfl 25 _ (0, 0) _ HK.out Try.underlying25 rfl size_func ?_)
    | (go_at_call 11
       refine (tfits_any pa pn pc ba bn bc bs W (H.out.ext HB.out)).mono ?_
       rintro e w2 ⟨rfl, hb⟩
       rw [HF.out]
       have HB2 := Lib.hid (ext_trans HB.out hb)
       clear hb))
   go_ret
   exact ⟨_, rfl, by rw [allE, HF.out]; exact OwnR.nil _ _ _ _ _, HB2.out⟩
 | true =>
   have HF := Lib.hid hf
   have hbn : (tsOf bs).length ≤ 200 := ((goodB_iff _).1 (fits_good hf)).1.2
   clear hf
   go_wp2_with (first
    | (refine wpList_load_row (o := ⟨some 3, .load 25 _, _, _, _, _⟩) rfl 25 _ rfl w.heap.size rfl 25 _ (0, 0) _ HK.out Try.underlying25 rfl size_func ?_)
    | (go_at_call 39
       refine (collectE_any _ _ (edgesL (tsOf bs)) _ enter_eachE ((eachE_iterTI pa pn pc ba bn bc bs w2.heap.size).mono fun W' hb' => ⟨block_ext hb' (heap_alloc_new _ _), (H.out.ext (ext_trans HB2.out (ext_alloc w2 _))).ext hb'⟩) (by have := edgesL_len (tsOf bs); omega)).mono ?_
       rintro e w3 ⟨v, rfl, ho, hb⟩
       have hsz := HB2.out.size
       have HO := Lib.hid (ho.mono (base' := w.heap.size) (by simp; omega))
       have HB3 := Lib.hid (ext_trans HB2.out (ext_trans (ext_alloc w2 _) hb))
       clear ho hb hsz)
    | (go_at_call 40
       refine (each40_any pa pn pc ba bn bc w2).mono ?_
       rintro e w3 ⟨rfl, rfl⟩)
    | (refine wpList_load_row (o := ⟨some 6, .load 25 _, _, _, _, _⟩) rfl 25 _ rfl w.heap.size rfl 25 _ (0, 0) _ HK2.out Try.underlying25 rfl size_func ?_)
    | (go_at_call 11
       refine (tfits_any pa pn pc ba bn bc bs W (H.out.ext HB.out)).mono ?_
       rintro e w2 ⟨rfl, hb⟩
       rw [HF.out]
       have HK2 := Lib.hid (block_ext hb HK.out)
       have HB2 := Lib.hid (ext_trans HB.out hb)
       clear hb))
   go_ret
   exact ⟨_, rfl, by rw [allE, HF.out]; exact HO.out, HB3.out⟩
end

section
open Go.RowKit

theorem part_int (cs : Array Value) (o : Nat) (v : Value) (w : World) (h : cs[o]? = some v) : (part 3 cs o).run Try.prog w = .ok v w := by
 have hu : (underlying 3).run Try.prog w = .ok (.int .i64) w := run_underlying Try.underlying3 w
 simp [part, isAgg, hu, h]
theorem under_edge : Try.prog.underlying 39 = some (.struct (Try.prog.fieldsOf 39)) := by kernel_rfl
theorem stood_edge : Try.prog.stoodInHeld 39 = false := by kernel_rfl
theorem fields_edge : (Try.prog.fieldsOf 39).toList.map (fun f => (f.name, f.type, f.offset)) = [("From", 3, 0), ("Arm", 3, 1), ("To", 3, 2)] := by kernel_rfl
/-- three fields, compared -/
theorem eqFields3 (w : World) (d : Nat) (xs ys : Array Value) (fs : List Field) (n0 n1 n2 : String) (t0 t1 t2 : TypeId) (o0 o1 o2 : Nat) (hf : fs.map (fun f => (f.name, f.type, f.offset)) = [(n0, t0, o0), (n1, t1, o1), (n2, t2, o2)]) (h0 : n0 ≠ "_") (h1 : n1 ≠ "_") (h2 : n2 ≠ "_")
  (x0 y0 x1 y1 x2 y2 : Value) (b0 b1 b2 : Bool) (px0 : (part t0 xs o0).run Try.prog w = .ok x0 w) (py0 : (part t0 ys o0).run Try.prog w = .ok y0 w) (px1 : (part t1 xs o1).run Try.prog w = .ok x1 w) (py1 : (part t1 ys o1).run Try.prog w = .ok y1 w) (px2 : (part t2 xs o2).run Try.prog w = .ok x2 w) (py2 : (part t2 ys o2).run Try.prog w = .ok y2 w)
  (e0 : (Op.equalIn d t0 x0 y0).run Try.prog w = .ok b0 w) (e1 : (Op.equalIn d t1 x1 y1).run Try.prog w = .ok b1 w) (e2 : (Op.equalIn d t2 x2 y2).run Try.prog w = .ok b2 w) : (Op.eqFields d xs ys fs).run Try.prog w = .ok (b0 && (b1 && b2)) w := by
 match fs, hf with
 | [f, g, h], hf =>
   simp only [List.map_cons, List.map_nil, List.cons.injEq, Prod.mk.injEq, and_true] at hf
   obtain ⟨⟨rfl, rfl, rfl⟩, ⟨rfl, rfl, rfl⟩, ⟨rfl, rfl, rfl⟩⟩ := hf
   simp only [Op.eqFields, Sem.run_bind, Sem.run_ite, h0, h1, h2, ne_eq, not_false_eq_true, if_true, px0, py0, e0, Result.andThen_ok]
   cases b0 with
   | false => simp
   | true =>
     simp only [Sem.run_bind, px1, py1, e1, Result.andThen_ok, Sem.run_ite]
     cases b1 with
     | false => simp [h1, h2, px1, py1, e1]
     | true => cases b2 <;> simp [h1, h2, px1, py1, e1, px2, py2, e2]
def sameE (x y : EdgeD) : Bool := x.fr == y.fr && (x.arm == y.arm && x.to == y.to)
theorem sameE_iff (x y : EdgeD) : sameE x y = true ↔ y = x := by
 cases x; cases y
 simp only [sameE, Bool.and_eq_true, beq_iff_eq, EdgeD.mk.injEq]
 constructor
 · rintro ⟨h1, h2, h3⟩; exact ⟨h1.symm, h2.symm, h3.symm⟩
 · rintro ⟨h1, h2, h3⟩; exact ⟨h1.symm, h2.symm, h3.symm⟩
abbrev edgeV (x : EdgeD) : Value := .agg #[.int .i64 x.fr, .int .i64 x.arm, .int .i64 x.to]
abbrev edgeO (x : EdgeD) : Obj := .cells #[.int .i64 x.fr, .int .i64 x.arm, .int .i64 x.to] 39
theorem equal_edge (w : World) (x y : EdgeD) : (Op.equalIn 10000 39 (edgeV x) (edgeV y)).run Try.prog w = .ok (sameE x y) w := by
 rw [run_equalIn_struct w 9999 _ _ _ under_edge stood_edge]
 exact eqFields3 w 9999 _ _ _ _ _ _ _ _ _ _ _ _ fields_edge (by decide) (by decide) (by decide) (.int .i64 x.fr) (.int .i64 y.fr) (.int .i64 x.arm) (.int .i64 y.arm) (.int .i64 x.to) (.int .i64 y.to) _ _ _ (part_int _ _ _ w rfl) (part_int _ _ _ w rfl) (part_int _ _ _ w rfl) (part_int _ _ _ w rfl) (part_int _ _ _ w rfl) (part_int _ _ _ w rfl)
  (run_equalIn_int w 9998 _ .i64 .i64 _ _ Try.underlying3) (run_equalIn_int w 9998 _ .i64 .i64 _ _ Try.underlying3) (run_equalIn_int w 9998 _ .i64 .i64 _ _ Try.underlying3)
theorem eql_edge (w : World) (x y : EdgeD) : (binOp .eql 39 (edgeV x) (edgeV y)).run Try.prog w = .ok (.bool (sameE x y)) w := by
 rw [run_eql_struct, equal_edge w]
 rfl
theorem neq_edge (w : World) (x y : EdgeD) : (binOp .neq 39 (edgeV x) (edgeV y)).run Try.prog w = .ok (.bool (!sameE x y)) w := by
 rw [run_neq_struct, equal_edge w]
 rfl
theorem edges_cells {w : World} {a : Option Addr} {n : Nat} {ls : List EdgeD} (h : EdgS w a n ls) {k : Nat} (hk : k < n) : ∃ r b o, ls[k]? = some r ∧ a = some ⟨b, o, none⟩ ∧ w.cell? ⟨b, o + k * 3, none⟩ = some (.int .i64 r.fr) ∧ w.cell? ⟨b, o + k * 3 + 1, none⟩ = some (.int .i64 r.arm) ∧ w.cell? ⟨b, o + k * 3 + 2, none⟩ = some (.int .i64 r.to) := by
 have hk' : k < ls.length := by rw [h.1]; exact hk
 obtain ⟨r, hr⟩ : ∃ r, ls[k]? = some r := ⟨ls[k], List.getElem?_eq_getElem hk'⟩
 obtain ⟨b, o, e, hc⟩ := h.2.2 k r hr
 exact ⟨r, b, o, hr, e, hc 0 (by omega), hc 1 (by omega), hc 2 (by omega)⟩
theorem indexE_any (a : Option Addr) (n c : Nat) (ls : List EdgeD) (x : EdgeD) (w : World) (h : EdgS w a n ls) :
  Calls Try.prog 98 #[.slice a n c, edgeV x] w fun e w' => e = .returned (.int .i64 (idxF (sameE x) ls)) ∧ Below w.heap.size w w' := by
 have HL := Lib.hid h.1
 have hn := h.2.1
 have H := Lib.hid h
 clear h
 have hq := fun w y => eql_edge w x y
 go_enter Try.func98, Try.ntmps98
 go_wp2
 go_loopw [5, 8] (fun _ i wr => ∃ (k : Nat), k ≤ n ∧ i = .int .i64 k ∧ Hid (∀ j y, j < k → ls[j]? = some y → sameE x y = false) ∧ Hid (Below (w.alloc (edgeO x)).heap.size (w.alloc (edgeO x)) wr)) (fun _ i _ => n - (intOf i).toNat)
 case atStart => exact ⟨0, by omega, rfl, fun j y hj => absurd hj (by omega), Below.refl _ _⟩
 case round =>
  obtain ⟨k, hk, rfl, HR, HB⟩ := hrel
  have HBw : Hid (Below w.heap.size w wr) := ext_trans (ext_alloc _ _) HB.out
  have hx := block_ext HB.out (heap_alloc_new w _)
  have x0 : wr.cell? ⟨w.heap.size, 0, none⟩ = some (.int .i64 x.fr) := by rw [cell_of_row _ _ _ _ _ _ hx]; rfl
  have x1 : wr.cell? ⟨w.heap.size, 1, none⟩ = some (.int .i64 x.arm) := by rw [cell_of_row _ _ _ _ _ _ hx]; rfl
  have x2 : wr.cell? ⟨w.heap.size, 2, none⟩ = some (.int .i64 x.to) := by rw [cell_of_row _ _ _ _ _ _ hx]; rfl
  clear hx
  by_cases hlt : k < n
  · obtain ⟨r, b, o, hr, rfl, c0, c1, c2⟩ := edges_cells (H.out.ext csE_len HBw.out) hlt
    have HG := Lib.hid hr
    clear hr
    have hk0 : (0 : Int) ≤ (k : Int) := by omega
    have hk1 : (k : Int) < (n : Int) := by omega
    have hq2 : ∀ w, (binOp .eql 39 (edgeV x) (edgeV r)).run Try.prog w = .ok (.bool (sameE x r)) w := fun w => hq w r
    by_cases hy : sameE x r = true
    · have HE : Hid (idxF (sameE x) ls = k) := idxF_found _ ls k r HG.out hy HR.out
      go_wp2
      go_quiet (fail)
      go_wp2
      go_ret
      exact ⟨by rw [HE.out]; rfl, ext_drewN HBw.out _⟩
    · have hy' : sameE x r = false := by simpa using hy
      have HE : Hid (∀ j z, j < k + 1 → ls[j]? = some z → sameE x z = false) := fun j z hj hz => by
       by_cases e : j = k
       · subst e
         rw [HG.out] at hz
         injection hz with hz
         subst hz
         exact hy'
       · exact HR.out j z (by omega) hz
      go_wp2
      go_quiet (fail)
      go_wp2
      go_roundw
      case rel => exact ⟨k + 1, by omega, by go_num, HE, ext_drewN HB.out _⟩
      case measure => simp [intOf]; omega
  · obtain rfl : k = n := by omega
    have HE : Hid (idxF (sameE x) ls = -1) := idxF_none _ ls (fun z hz => by
     obtain ⟨j, hj, e⟩ := List.mem_iff_getElem.1 hz
     exact HR.out j z (by rw [HL.out] at hj; exact hj) (by rw [List.getElem?_eq_getElem hj, e]))
    go_wp2
    go_ret
    exact ⟨by rw [HE.out]; rfl, HBw.out⟩
theorem containsE_any (a : Option Addr) (n c : Nat) (ls : List EdgeD) (x : EdgeD) (w : World) (h : EdgS w a n ls) :
  Calls Try.prog 76 #[.slice a n c, edgeV x] w fun e w' => e = .returned (.bool (decide (x ∈ ls))) ∧ Below w.heap.size w w' := by
 have HA : Hid (decide (0 ≤ idxF (sameE x) ls) = decide (x ∈ ls)) := by
  rw [Hid, idxF_any, Bool.eq_iff_iff, List.any_eq_true, decide_eq_true_iff]
  constructor
  · rintro ⟨y, h1, h2⟩; rw [sameE_iff] at h2; subst h2; exact h1
  · exact fun h => ⟨x, h, (sameE_iff _ _).2 rfl⟩
 have hg := idxF_ge (sameE x) ls
 have H := Lib.hid h
 clear h
 go_enter Try.func76, Try.ntmps76
 go_wp2_with (go_at_call 98; refine (indexE_any a n c ls x _ (H.out.ext csE_len (ext_alloc _ _))).mono ?_; rintro e w' ⟨rfl, hb'⟩; have HB' := Lib.hid (ext_trans (ext_alloc _ _) hb'); clear hb')
 go_ret
 exact ⟨ret_bool HA.out, HB'.out⟩
end
end Go.Proofs.Ytblhmdhfhaencaa
