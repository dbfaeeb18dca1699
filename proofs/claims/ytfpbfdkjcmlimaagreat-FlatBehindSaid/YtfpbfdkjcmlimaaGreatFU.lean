/-
  Flat: the events of a block.
-/
import Derived.Test.YtfpbfdkjcmlimaaGreatFT
namespace Go.Proofs.YtfpbfdkjcmlimaaGreat
set_option linter.unusedSimpArgs false
set_option linter.unusedVariables false
set_option linter.unusedSectionVars false
set_option maxRecDepth 100000
set_option maxHeartbeats 40000000
section
open Go.RowKit
theorem evGo_end (m : MachD) (tl : List InsR) : evGo m [] tl = (tl.takeWhile isInserted).map (insEv m) ++ [.ended] := rfl
theorem evGo_copy (m : MachD) (i : InsR) (sl tl : List InsR) (h : isCopy i = true) : evGo m (i :: sl) tl = .copied i.d.dst i.d.a :: evGo m sl tl := by rw [evGo, if_pos h]
theorem evGo_done (m : MachD) (i u : InsR) (sl tl tl' : List InsR) (h : isCopy i = false) (hd : tl.dropWhile isInserted = u :: tl') : evGo m (i :: sl) tl = (tl.takeWhile isInserted).map (insEv m) ++ .done i u (i.d.op == 13) :: evGo m sl tl' := by
  rw [evGo, if_neg (by rw [h]; simp), hd]
theorem dropWhile_eq {α : Type} (p : α → Bool) (l : List α) : l.dropWhile p = l.drop (l.takeWhile p).length := by
  induction l with
  | nil => rfl
  | cons x l ih =>
    cases h : p x with
    | true => simp [List.dropWhile_cons, List.takeWhile_cons, h, ih]
    | false => simp [List.dropWhile_cons, List.takeWhile_cons, h]
theorem filter_dropWhile {α : Type} (p : α → Bool) (l : List α) : (l.dropWhile p).filter (fun x => !p x) = l.filter (fun x => !p x) := by
  induction l with
  | nil => rfl
  | cons x l ih =>
    cases h : p x with
    | true => simp [List.dropWhile_cons, List.filter_cons, h, ih]
    | false => simp [List.dropWhile_cons, h]
def Even (sl tl : List InsR) : Prop := (sl.filter fun x => !isCopy x).length = (tl.filter fun x => !isInserted x).length
theorem Even.copy {i : InsR} {sl tl : List InsR} (h : Even (i :: sl) tl) (hc : isCopy i = true) : Even sl tl := by
  unfold Even at h ⊢
  simpa [List.filter_cons, hc] using h
theorem Even.next {i : InsR} {sl tl : List InsR} (h : Even (i :: sl) tl) (hc : isCopy i = false) : ∃ u tl', tl.dropWhile isInserted = u :: tl' ∧ Even sl tl' := by
  unfold Even at h ⊢
  rw [← filter_dropWhile isInserted tl] at h
  cases hd : tl.dropWhile isInserted with
  | nil => rw [hd] at h; simp [List.filter_cons, hc] at h
  | cons u tl' =>
    have hu : isInserted u = false := by
      have := List.head?_dropWhile_not isInserted tl
      rw [hd] at this
      simpa using this
    rw [hd] at h
    refine ⟨u, tl', rfl, ?_⟩
    simp [List.filter_cons, hc, hu] at h
    exact h
def EventsPost (w : World) (es : List EvD) (e : Ending) (w' : World) : Prop := ∃ a c, e = .returned (.slice a es.length c) ∧ es.length ≤ c ∧ Evs w' a es.length es ∧ (∀ x ∈ es, EvOK w' x) ∧ Below w.heap.size w w'
theorem flatMap_ev (es : List EvD) : es.flatMap evC = es.map evV := by
  induction es with
  | nil => rfl
  | cons e es ih => rw [List.flatMap_cons, List.map_cons, ih]; rfl
theorem evs_post {w : World} {base : Nat} {v : Value} {es : List EvD} (h : w.ownsRow base 20 1 v es.length (es.map evV)) (hn : es.length ≤ 17592186044416) : ∃ a c, v = .slice a es.length c ∧ es.length ≤ c ∧ Evs w a es.length es := by
  have h' : w.ownsRow base 20 1 v es.length (es.flatMap evC) := by rw [flatMap_ev]; exact h
  obtain ⟨a, c, e, hr, _⟩ := recs_of_own evC_len h' hn
  refine ⟨a, c, e, ?_, hr⟩
  rcases h.2 with ⟨hv, h0⟩ | ⟨g, cap, cur, hv, _, _, hnc, _⟩
  · omega
  · rw [hv] at e
    simp only [Value.slice.injEq] at e
    omega
theorem insEv_ok (m : MachD) (w : World) (r : InsR) (h : InsOK w r) (hi : isInserted r = true) : EvOK w (insEv m r) := by
  obtain ⟨_, _, _, hd, ha, _, himm, _, _⟩ := h
  rcases ins_kinds r hi with h | h | h
  · have e1 : readsL m r.d = [(false, r.d.a)] := by unfold readsL; rw [h]; rfl
    have e2 : writesL m r.d = [(false, r.d.dst)] := by unfold writesL; rw [h]; rfl
    rw [insEv, e1, e2]; exact ⟨ha, hd⟩
  · have e1 : readsL m r.d = [(false, r.d.a)] := by unfold readsL; rw [h]; rfl
    have e2 : writesL m r.d = [(true, r.d.imm)] := by unfold writesL; rw [h]; rfl
    rw [insEv, e1, e2]; exact ⟨ha, himm⟩
  · have e1 : readsL m r.d = [(true, r.d.imm)] := by unfold readsL; rw [h]; rfl
    have e2 : writesL m r.d = [(false, r.d.dst)] := by unfold writesL; rw [h]; rfl
    rw [insEv, e1, e2]; exact ⟨himm, hd⟩
theorem skip_ok (m : MachD) (w : World) (tl : List InsR) (h : ∀ r ∈ tl, InsOK w r) : ∀ e ∈ (tl.takeWhile isInserted).map (insEv m), EvOK w e := by
  intro e he
  obtain ⟨r, hr, rfl⟩ := List.mem_map.1 he
  exact insEv_ok m w r (h r (List.takeWhile_subset _ hr)) (List.all_eq_true.1 List.all_takeWhile r hr)
theorem evGo_ok (m : MachD) (w : World) : ∀ (sl tl : List InsR), (∀ r ∈ sl, InsOK w r) → (∀ r ∈ tl, InsOK w r) → ∀ e ∈ evGo m sl tl, EvOK w e
  | [], tl, _, ht => by
    intro e he
    rw [evGo_end, List.mem_append] at he
    rcases he with he | he
    · exact skip_ok m w tl ht e he
    · rw [List.mem_singleton] at he; subst he; trivial
  | i :: sl, tl, hs, ht => by
    intro e he
    have hi := hs i (by simp)
    cases hc : isCopy i with
    | true =>
      rw [evGo_copy m i sl tl hc, List.mem_cons] at he
      rcases he with rfl | he
      · exact ⟨hi.2.2.2.1, hi.2.2.2.2.1⟩
      · exact evGo_ok m w sl tl (fun r hr => hs r (by simp [hr])) ht e he
    | false =>
      cases hd : tl.dropWhile isInserted with
      | nil =>
        rw [evGo, if_neg (by rw [hc]; simp), hd, List.append_nil] at he
        exact skip_ok m w tl ht e he
      | cons u tl' =>
        have hsub : ∀ r ∈ u :: tl', r ∈ tl := fun r hr => by rw [← hd] at hr; exact List.dropWhile_subset _ hr
        rw [evGo_done m i u sl tl tl' hc hd, List.mem_append, List.mem_cons] at he
        rcases he with he | rfl | he
        · exact skip_ok m w tl ht e he
        · exact ⟨hi, ht u (hsub u (by simp))⟩
        · exact evGo_ok m w sl tl' (fun r hr => hs r (by simp [hr])) (fun r hr => ht r (hsub r (by simp [hr]))) e he
theorem evGo_len (m : MachD) : ∀ (sl tl : List InsR), (evGo m sl tl).length ≤ sl.length + tl.length + 1
  | [], tl => by
    have := (List.takeWhile_prefix (p := isInserted) (l := tl)).length_le
    rw [evGo_end]; simp; omega
  | i :: sl, tl => by
    cases hc : isCopy i with
    | true => have := evGo_len m sl tl; rw [evGo_copy m i sl tl hc]; simp; omega
    | false =>
      have h2 := List.takeWhile_append_dropWhile (p := isInserted) (l := tl)
      have h3 := congrArg List.length h2
      rw [List.length_append] at h3
      cases hd : tl.dropWhile isInserted with
      | nil =>
        rw [evGo, if_neg (by rw [hc]; simp), hd]
        rw [hd] at h3
        simp at h3 ⊢; omega
      | cons u tl' =>
        have := evGo_len m sl tl'
        rw [evGo_done m i u sl tl tl' hc hd]
        rw [hd] at h3
        simp at h3 ⊢; omega
theorem events_any (m : MachD) (a1 a2 : Option Addr) (n1 c1 n2 c2 : Nat) (s t : BlkD) (sa ta : Option Addr) (ns cs nt ct : Nat) (w : World) (hm : MachOK w m a1 n1 c1 a2 n2 c2) (hs : BlkOK w s sa ns cs) (ht : BlkOK w t ta nt ct) (hev : Even s.ins t.ins) :
    Calls Tryz.prog 17 #[machV m a1 n1 c1 a2 n2 c2, blkV s sa ns cs, blkV t ta nt ct] w (EventsPost w (evGo m s.ins t.ins)) := by
  have HM := Lib.hid hm
  have HS := Lib.hid hs
  have HT := Lib.hid ht
  have HEv := Lib.hid hev
  have q1 := hm.2.2.2.2.1
  have q2 := hs.2.1
  have q3 := ht.2.1
  have HLs := Lib.hid hs.1.1.1
  have HLt := Lib.hid ht.1.1.1
  clear hm hs ht hev
  go_enter Tryz.func17, Tryz.ntmps17
  go_wp2
  have H0 : Hid (EvJ w (machO m a1 n1 c1 a2 n2 c2) (blkO s sa ns cs) (blkO t ta nt ct) 0 (.slice none 0 0) [] (((((w.alloc (machO m a1 n1 c1 a2 n2 c2)).alloc (blkO s sa ns cs)).alloc (blkO t ta nt ct)).alloc (.cells #[.slice none 0 0] 64)).alloc (.cells #[.int .i64 0] 3))) := by
    obtain ⟨b1, b2, b3, b4⟩ := box4 w (machO m a1 n1 c1 a2 n2 c2) (blkO s sa ns cs) (blkO t ta nt ct) (.cells #[.slice none 0 0] 64)
    have b5 := heap_alloc_new ((((w.alloc (machO m a1 n1 c1 a2 n2 c2)).alloc (blkO s sa ns cs)).alloc (blkO t ta nt ct)).alloc (.cells #[.slice none 0 0] 64)) (.cells #[.int .i64 0] 3)
    simp only [World.size_alloc] at b5
    exact ⟨block_ext (ext_alloc _ _) b1, block_ext (ext_alloc _ _) b2, block_ext (ext_alloc _ _) b3, block_ext (ext_alloc _ _) b4, b5, World.ownsRow_nil _ _ _ _, ext_trans (ext_trans (ext_trans (ext_trans (ext_alloc _ _) (ext_alloc _ _)) (ext_alloc _ _)) (ext_alloc _ _)) (ext_alloc _ _)⟩
  generalize (((((w.alloc (machO m a1 n1 c1 a2 n2 c2)).alloc (blkO s sa ns cs)).alloc (blkO t ta nt ct)).alloc (.cells #[.slice none 0 0] 64)).alloc (.cells #[.int .i64 0] 3)) = W0 at *
  obtain ⟨total, htot⟩ : ∃ total, evGo m s.ins t.ins = total := ⟨_, rfl⟩
  have HTot := Lib.hid htot
  have htl := evGo_len m s.ins t.ins
  rw [HLs.out, HLt.out, htot] at htl
  rw [htot]
  clear htot
  go_loopg [10, 15] ns (fun gg _ s15 wr => ∃ (i k : Nat) (v : Value) (es : List EvD), s15 = .int .i64 i ∧ i ≤ ns ∧ ns - i ≤ gg ∧ k ≤ nt ∧ Hid (EvJ w (machO m a1 n1 c1 a2 n2 c2) (blkO s sa ns cs) (blkO t ta nt ct) k v es wr) ∧ Hid (es ++ evGo m (s.ins.drop i) (t.ins.drop k) = total) ∧ Hid (Even (s.ins.drop i) (t.ins.drop k)))
  case atStart => exact ⟨0, 0, .slice none 0 0, [], rfl, by omega, by omega, by omega, H0, by rw [Hid, List.drop_zero, List.drop_zero, List.nil_append]; exact HTot.out, by rw [Hid, List.drop_zero, List.drop_zero]; exact HEv.out⟩
  case round =>
    obtain ⟨i, k, v, es, rfl, hi, hgg, hk, HE, HGo, HEv⟩ := hrel
    have hesl : es.length ≤ 2000001 := by
      have := congrArg List.length HGo.out
      rw [List.length_append] at this
      omega
    by_cases hlt : i < ns
    · have HB7 := Lib.hid HE.out.2.2.2.2.2.2
      obtain ⟨r, b, o, hr, hok, rfl, g0, g1, g2, g3, g4, g5, g6, g7⟩ := ((HS.out.ext HB7.out).1).cells hlt
      have hdr := drop_cons hr
      have hgo := HGo.out
      have hevn := HEv.out
      rw [hdr] at hgo hevn
      have HOK := Lib.hid hok
      clear hok hdr hr HGo HEv
      cases hq : isCopy r with
      | true =>
        have hop : (r.d.op == 14) = true := hq
        rw [evGo_copy m r _ _ hq] at hgo
        have HGo := Lib.hid hgo
        have HEv := Lib.hid (hevn.copy hq)
        clear hgo hevn
        obtain ⟨b1, b2, b3, b4, b5, b6, b7⟩ := HE.out
        have o1 : wr.cell? ⟨w.heap.size + 1 + 1 + 1, 0, none⟩ = some v := by rw [cell_of_row _ _ _ _ _ _ b4]; rfl
        have hO : w.heap.size + 1 + 1 + 1 < wr.heap.size := (Array.getElem?_eq_some_iff.1 b4).1
        clear b1 b2 b3 b4 b5 b6 b7
        go_wp2_with (first
          | (at_builtin
             refine wpList_append1 rfl (wr.alloc (insO r.d r.aa r.na r.ca)) (.tmp 22) (.tmp 29) 64 20 rfl (w.heap.size + 1 + 1 + 1 + 1 + 1) _ 1 16 Tryz.underlying64 info_any rfl (by omega) v es.length (es.map evV) [evV (.copied r.d.dst r.d.a)] rfl (HE.out.ext (ext_alloc _ _)).2.2.2.2.2.1 (wr.heap.size + 1) (by simp) rfl rfl (by simp [evV_one]) (by simp only [maxLen]; omega) (by omega) (HE.out.ext (ext_alloc _ _)).size ?_
             intro gA capA w3 ho3 hg3 hat3
             have HE2 := Lib.hid (HE.out.ext (ext_alloc wr (insO r.d r.aa r.na r.ca)))
             have hO3 : w3.heap[w.heap.size + 1 + 1 + 1]? = some (.cells #[v] 64 (0, 0)) := (hg3.block _ (Array.getElem?_eq_some_iff.1 HE2.out.2.2.2.1).1 (fun e => by have := (HE2.out.2.2.2.2.2.1.lt _ e.symm).1; omega)).trans HE2.out.2.2.2.1
             have HE3 := Lib.hid (HE2.out.append (e := .copied r.d.dst r.d.a) (n' := es.length + 1) (by simp) (by simp) ho3 hg3)
             have o3 : w3.cell? ⟨w.heap.size + 1 + 1 + 1, 0, none⟩ = some v := by rw [cell_of_row _ _ _ _ _ _ hO3]; rfl
             have o4 : w3.frozen? ⟨w.heap.size + 1 + 1 + 1, 0, none⟩ = false := frozen_of_row _ _ _ _ _ hO3
             clear hO3 ho3 hg3 hat3 o1))
        go_roundg (ns - (i + 1))
        case measure => omega
        case rel => exact ⟨i + 1, k, _, es ++ [.copied r.d.dst r.d.a], by go_num, by omega, Nat.le_refl _, hk, HE3, by rw [Hid, List.append_assoc]; exact HGo.out, HEv⟩
      | false =>
        have hop : (r.d.op == 14) = false := hq
        obtain ⟨u, tl', hdw, hev2⟩ := hevn.next hq
        rw [evGo_done m r u _ _ _ hq hdw] at hgo
        rw [dropWhile_eq, List.drop_drop] at hdw
        obtain ⟨k', hk'⟩ : ∃ k', k + ((t.ins.drop k).takeWhile isInserted).length = k' := ⟨_, rfl⟩
        rw [hk'] at hdw
        have hu : t.ins[k']? = some u := by
          have : (t.ins.drop k')[0]? = some u := by rw [hdw]; rfl
          rwa [List.getElem?_drop, Nat.add_zero] at this
        have hkn : k' < nt := by have := (List.getElem?_eq_some_iff.1 hu).1; rw [HLt.out] at this; exact this
        have htl2 : tl' = t.ins.drop (k' + 1) := by
          have := drop_cons hu
          rw [hdw] at this
          simpa using this
        subst htl2
        have hkk : k ≤ k' := by omega
        have HK := Lib.hid hk'
        have HGo := Lib.hid hgo
        have HEv := Lib.hid hev2
        have HU := Lib.hid hu
        clear hgo hevn hdw hk' hu hev2
        have hvl := HE.out.2.2.2.2.2.1.lt
        have HVL : Hid (v.ownBlock ≠ some wr.heap.size) := fun e => by have := (hvl _ e).2; omega
        have hsz := HE.out.size
        clear hvl
        go_wp2_with (first
          | (go_at_call 39
             refine (skip_any w m a1 a2 n1 c1 n2 c2 (blkO s (some ⟨b, o, none⟩) ns cs) t ta nt ct HM.out HT.out k hk v es (by omega) _ (HE.out.ext (ext_alloc _ _))).mono ?_
             rw [HK.out]
             rintro e w2 ⟨rfl, v2, hE2, hC2, hO2⟩
             have HE2 := Lib.hid hE2
             have hbox : w2.heap[wr.heap.size]? = some (insO r.d r.aa r.na r.ca) := chg_block hC2 (heap_alloc_new wr _) (fun h => by
               rcases h with h | h | h
               · omega
               · omega
               · exact HVL.out h)
             have HBox := Lib.hid hbox
             clear hE2 hC2 hO2 hbox))
        obtain ⟨b1, b2, b3, b4, b5, b6, b7⟩ := HE2.out
        have HB2 := Lib.hid b7
        obtain ⟨u', tb, to_, hu', hok', rfl, h0, h1, h2, h3, h4, h5, h6, h7⟩ := ((HT.out.ext HB2.out).1).cells hkn
        obtain rfl : u = u' := by have := HU.out; rw [hu'] at this; exact (Option.some.inj this).symm
        have kt0 : ∀ n : ExtW w2, n.val.cell? ⟨w.heap.size + 1 + 1, 0, none⟩ = some (.slice (some ⟨tb, to_, none⟩) nt ct) := fun n => by rw [cell_of_row _ _ _ _ _ _ (block_ext n.ext b3)]; rfl
        have ko0 : ∀ n : ExtW w2, n.val.cell? ⟨w.heap.size + 1 + 1 + 1, 0, none⟩ = some v2 := fun n => by rw [cell_of_row _ _ _ _ _ _ (block_ext n.ext b4)]; rfl
        have kx0 : ∀ n : ExtW w2, n.val.cell? ⟨w.heap.size + 1 + 1 + 1 + 1, 0, none⟩ = some (.int .i64 (k' : Int)) := fun n => by rw [cell_of_row _ _ _ _ _ _ (block_ext n.ext b5)]; rfl
        have kb0 : ∀ n : ExtW w2, n.val.cell? ⟨wr.heap.size, 0, none⟩ = some (.int .i64 r.d.op) := fun n => by rw [cell_of_row _ _ _ _ _ _ (block_ext n.ext HBox.out)]; rfl
        have kb1 : ∀ n : ExtW w2, n.val.cell? ⟨wr.heap.size, 1, none⟩ = some (.int .i64 r.d.dst) := fun n => by rw [cell_of_row _ _ _ _ _ _ (block_ext n.ext HBox.out)]; rfl
        have kb2 : ∀ n : ExtW w2, n.val.cell? ⟨wr.heap.size, 2, none⟩ = some (.int .i64 r.d.a) := fun n => by rw [cell_of_row _ _ _ _ _ _ (block_ext n.ext HBox.out)]; rfl
        have kb3 : ∀ n : ExtW w2, n.val.cell? ⟨wr.heap.size, 3, none⟩ = some (.int .i64 r.d.b) := fun n => by rw [cell_of_row _ _ _ _ _ _ (block_ext n.ext HBox.out)]; rfl
        have kb4 : ∀ n : ExtW w2, n.val.cell? ⟨wr.heap.size, 4, none⟩ = some (.int .i64 r.d.imm) := fun n => by rw [cell_of_row _ _ _ _ _ _ (block_ext n.ext HBox.out)]; rfl
        have kb5 : ∀ n : ExtW w2, n.val.cell? ⟨wr.heap.size, 5, none⟩ = some (.int .i64 r.d.callee) := fun n => by rw [cell_of_row _ _ _ _ _ _ (block_ext n.ext HBox.out)]; rfl
        have kb6 : ∀ n : ExtW w2, n.val.cell? ⟨wr.heap.size, 6, none⟩ = some (.slice r.aa r.na r.ca) := fun n => by rw [cell_of_row _ _ _ _ _ _ (block_ext n.ext HBox.out)]; rfl
        have kb7 : ∀ n : ExtW w2, n.val.cell? ⟨wr.heap.size, 7, none⟩ = some (.int .i64 r.d.many) := fun n => by rw [cell_of_row _ _ _ _ _ _ (block_ext n.ext HBox.out)]; rfl
        have ku0 : ∀ n : ExtW w2, n.val.cell? ⟨tb, to_ + k' * 8, none⟩ = some (.int .i64 u.d.op) := fun n => cell_ext n.ext h0
        have ku1 : ∀ n : ExtW w2, n.val.cell? ⟨tb, to_ + k' * 8 + 1, none⟩ = some (.int .i64 u.d.dst) := fun n => cell_ext n.ext h1
        have ku2 : ∀ n : ExtW w2, n.val.cell? ⟨tb, to_ + k' * 8 + 2, none⟩ = some (.int .i64 u.d.a) := fun n => cell_ext n.ext h2
        have ku3 : ∀ n : ExtW w2, n.val.cell? ⟨tb, to_ + k' * 8 + 3, none⟩ = some (.int .i64 u.d.b) := fun n => cell_ext n.ext h3
        have ku4 : ∀ n : ExtW w2, n.val.cell? ⟨tb, to_ + k' * 8 + 4, none⟩ = some (.int .i64 u.d.imm) := fun n => cell_ext n.ext h4
        have ku5 : ∀ n : ExtW w2, n.val.cell? ⟨tb, to_ + k' * 8 + 5, none⟩ = some (.int .i64 u.d.callee) := fun n => cell_ext n.ext h5
        have ku6 : ∀ n : ExtW w2, n.val.cell? ⟨tb, to_ + k' * 8 + 6, none⟩ = some (.slice u.aa u.na u.ca) := fun n => cell_ext n.ext h6
        have ku7 : ∀ n : ExtW w2, n.val.cell? ⟨tb, to_ + k' * 8 + 7, none⟩ = some (.int .i64 u.d.many) := fun n => cell_ext n.ext h7
        have hi0 : (0 : Int) ≤ (k' : Int) := by omega
        have hi1 : (k' : Int) < (nt : Int) := by omega
        have hesl2 : (es ++ ((t.ins.drop k).takeWhile isInserted).map (insEv m)).length ≤ 2000001 := by
          have := congrArg List.length HGo.out
          rw [← List.append_assoc, List.length_append] at this
          omega
        clear b1 b2 b3 b4 b5 b6 b7 hu' hok' h0 h1 h2 h3 h4 h5 h6 h7 g0 g1 g2 g3 g4 g5 g6 g7
        have HGo2 : Hid ((es ++ ((t.ins.drop k).takeWhile isInserted).map (insEv m)) ++ (.done r u (r.d.op == 13) :: evGo m (s.ins.drop (i + 1)) (t.ins.drop (k' + 1))) = total) := by rw [Hid, List.append_assoc]; exact HGo.out
        generalize es ++ ((t.ins.drop k).takeWhile isInserted).map (insEv m) = es2 at *
        refine z_start (fun w' => ∃ n : ExtW w2, w' = n.val) (by kernel_rfl) ?_
        obtain ⟨w0, E0, hw0⟩ : ∃ w0, Below w2.heap.size w2 w0 ∧ w2.drew = w0 := ⟨_, ext_drewN (Below.refl _ _) 1, rfl⟩
        rw [hw0]
        clear hw0
        refine z_reads 0 12 (by kernel_rfl) ⟨⟨_, E0⟩, rfl⟩ ?_
        simp only [List.take_succ_cons, List.take_zero, List.drop_succ_cons, List.drop_zero]
        repeat (go_big_quiet_step (fail))
        refine wpQuiet_nil ?_
        clear kt0 ko0 kx0 kb0 ku0 kb1 ku1 kb2 ku2 kb3 ku3 kb4 ku4 kb5 ku5 kb6 ku6 kb7 ku7
        have HE4 := Lib.hid (HE2.out.ext E0)
        generalize hl13 : (r.d.op == 13) = l13 at *
        refine z_one 12 (by kernel_rfl) ?_
        refine wpOp_at rfl rfl ?_
        go_simp
        refine ⟨Or.inr ⟨⟨_, ext_trans E0 (ext_alloc _ _)⟩, rfl⟩, ?_⟩
        try simp only [Act.put, List.setIfInBounds_toArray, List.set_cons_succ, List.set_cons_zero]
        refine z_one 13 (by kernel_rfl) ?_
        refine wpOp_at rfl rfl ?_
        refine op_append1 w0 (.tmp 33) (.tmp 45) 64 20 rfl (w.heap.size + 1 + 1 + 1 + 1 + 1) _ 1 16 Tryz.underlying64 info_any rfl (by omega) v2 es2.length (es2.map evV) [evV (.done r u l13)] rfl HE4.out.2.2.2.2.2.1 w0.heap.size rfl rfl rfl (by simp [evV_one]) (by simp only [maxLen]; omega) (by omega) HE4.out.size ?_
        intro gA capA w3 ho3 hg3 hat3
        have hO3 : w3.heap[w.heap.size + 1 + 1 + 1]? = some (.cells #[v2] 64 (0, 0)) := (hg3.block _ (Array.getElem?_eq_some_iff.1 HE4.out.2.2.2.1).1 (fun e => by have := (HE4.out.2.2.2.2.2.1.lt _ e.symm).1; omega)).trans HE4.out.2.2.2.1
        have HE3 := Lib.hid (HE4.out.append (e := .done r u l13) (n' := es2.length + 1) (by simp) (by simp) ho3 hg3)
        have o3 : w3.cell? ⟨w.heap.size + 1 + 1 + 1, 0, none⟩ = some v2 := by rw [cell_of_row _ _ _ _ _ _ hO3]; rfl
        have o4 : w3.frozen? ⟨w.heap.size + 1 + 1 + 1, 0, none⟩ = false := frozen_of_row _ _ _ _ _ hO3
        refine ⟨Or.inl (by kernel_rfl), ?_⟩
        try simp only [Act.put, List.setIfInBounds_toArray, List.set_cons_succ, List.set_cons_zero]
        clear hO3 ho3 hg3 hat3
        refine z_one 14 (by kernel_rfl) ?_
        refine wpOp_at rfl rfl ?_
        go_simp
        refine ⟨Or.inl (by kernel_rfl), ?_⟩
        refine z_done (by kernel_rfl) ?_
        clear o3 o4
        generalize w3.setCell ⟨w.heap.size + 1 + 1 + 1, 0, none⟩ (.slice (some ⟨gA, 0, none⟩) (es2.length + 1) capA) = w4 at *
        obtain ⟨b1, b2, b3, b4, b5, b6, b7⟩ := HE3.out
        have x4 : w4.cell? ⟨w.heap.size + 1 + 1 + 1 + 1, 0, none⟩ = some (.int .i64 (k' : Int)) := by rw [cell_of_row _ _ _ _ _ _ b5]; rfl
        have x5 : w4.frozen? ⟨w.heap.size + 1 + 1 + 1 + 1, 0, none⟩ = false := frozen_of_row _ _ _ _ _ b5
        clear b1 b2 b3 b4 b5 b6 b7
        go_wp2
        go_roundg (ns - (i + 1))
        case measure => omega
        case rel =>
          have hat := HE3.out.at_ (k' + 1)
          rw [show ((k' + 1 : Nat) : Int) = (k' : Int) + 1 by omega] at hat
          exact ⟨i + 1, k' + 1, .slice (some ⟨gA, 0, none⟩) (es2.length + 1) capA, es2 ++ [EvD.done r u l13], by go_num, by omega, Nat.le_refl _, by omega, hat, by rw [Hid, List.append_assoc]; exact HGo2.out, HEv⟩
    · obtain rfl : i = ns := by omega
      have hgo := HGo.out
      rw [List.drop_of_length_le (by rw [HLs.out]; omega), evGo_end] at hgo
      have HGo := Lib.hid hgo
      obtain ⟨k', hk'⟩ : ∃ k', k + ((t.ins.drop k).takeWhile isInserted).length = k' := ⟨_, rfl⟩
      have HK := Lib.hid hk'
      clear hgo hk'
      go_wp2_with (first
        | (go_at_call 39
           refine (skip_any w m a1 a2 n1 c1 n2 c2 (blkO s sa i cs) t ta nt ct HM.out HT.out k hk v es (by omega) _ HE.out).mono ?_
           rw [HK.out]
           rintro e w2 ⟨rfl, v2, hE2, hC2, hO2⟩
           have HE2 := Lib.hid hE2
           have HG2 : Hid ((es ++ ((t.ins.drop k).takeWhile isInserted).map (insEv m)) ++ [.ended] = total) := by rw [Hid, List.append_assoc]; exact HGo.out
           clear hE2 hC2 hO2
           generalize es ++ ((t.ins.drop k).takeWhile isInserted).map (insEv m) = es2 at *
           have hesl2 : es2.length ≤ 2000001 := by
             have := congrArg List.length HG2.out
             rw [List.length_append] at this
             omega
           obtain ⟨b1, b2, b3, b4, b5, b6, b7⟩ := HE2.out
           have o1 : w2.cell? ⟨w.heap.size + 1 + 1 + 1, 0, none⟩ = some v2 := by rw [cell_of_row _ _ _ _ _ _ b4]; rfl
           clear b1 b2 b3 b4 b5 b6 b7)
        | (at_builtin
           refine wpList_append1 rfl w2 (.tmp 52) (.tmp 55) 64 20 rfl (w.heap.size + 1 + 1 + 1 + 1 + 1) _ 1 16 Tryz.underlying64 info_any rfl (by omega) v2 es2.length (es2.map evV) [evV .ended] rfl HE2.out.2.2.2.2.2.1 w2.heap.size rfl rfl rfl (by simp [evV_one]) (by simp only [maxLen]; omega) (by omega) HE2.out.size ?_
           intro gA capA w3 ho3 hg3 hat3
           have hO3 : w3.heap[w.heap.size + 1 + 1 + 1]? = some (.cells #[v2] 64 (0, 0)) := (hg3.block _ (Array.getElem?_eq_some_iff.1 HE2.out.2.2.2.1).1 (fun e => by have := (HE2.out.2.2.2.2.2.1.lt _ e.symm).1; omega)).trans HE2.out.2.2.2.1
           have HE3 := Lib.hid (HE2.out.append (e := .ended) (n' := es2.length + 1) (by simp) (by simp) ho3 hg3)
           have o3 : w3.cell? ⟨w.heap.size + 1 + 1 + 1, 0, none⟩ = some v2 := by rw [cell_of_row _ _ _ _ _ _ hO3]; rfl
           have o4 : w3.frozen? ⟨w.heap.size + 1 + 1 + 1, 0, none⟩ = false := frozen_of_row _ _ _ _ _ hO3
           clear hO3 ho3 hg3 hat3 o1))
      generalize w3.setCell ⟨w.heap.size + 1 + 1 + 1, 0, none⟩ (.slice (some ⟨gA, 0, none⟩) (es2.length + 1) capA) = w4 at *
      obtain ⟨b1, b2, b3, b4, b5, b6, b7⟩ := HE3.out
      have o5 : w4.cell? ⟨w.heap.size + 1 + 1 + 1, 0, none⟩ = some (.slice (some ⟨gA, 0, none⟩) (es2.length + 1) capA) := by rw [cell_of_row _ _ _ _ _ _ b4]; rfl
      have hok := evGo_ok m w s.ins t.ins (fun r hr => HS.out.1.2 r hr) (fun r hr => HT.out.1.2 r hr)
      rw [HTot.out] at hok
      have hG2 := HG2.out
      rw [hG2] at b6
      have hlen : es2.length + 1 = total.length := by rw [← hG2]; simp
      rw [hlen] at o5 b6
      obtain ⟨ra, rc, e1, h1, h2⟩ := evs_post b6 (by omega)
      rw [hlen]
      refine bodyPost_ret (v := .slice (some ⟨gA, 0, none⟩) total.length capA) (by simp [results, Tryz.results17, go_sem, o5]) rfl ?_
      rw [EventsPost, HTot.out]
      exact ⟨ra, rc, by rw [e1], h1, h2, fun x hx => (hok x hx).ext b7, b7⟩
end
end Go.Proofs.YtfpbfdkjcmlimaaGreat
