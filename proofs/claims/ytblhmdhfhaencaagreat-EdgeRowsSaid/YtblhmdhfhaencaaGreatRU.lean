/-
  Rows compared with the document's; rows written over.
-/
import Derived.Test.YtblhmdhfhaencaaGreatRR
import Derived.Test.YtblhmdhfhaencaaGreatMark
import Derived.Test.YtblhmdhfhaencaaGreatSameI
import Derived.Test.YtblhmdhfhaencaaGreatRF
import Derived.Test.YtblhmdhfhaencaaGreatLT
namespace Go.Proofs.YtblhmdhfhaencaaGreat
set_option linter.unusedSimpArgs false
set_option linter.unusedVariables false
open Go.RowKit Go.Shelf

/-- rows of cells keep their size -/
def RoomK (w w' : World) : Prop := ∀ (g : Nat) (cur : Array Value) (ty : TypeId), w.heap[g]? = some (.cells cur ty (0, 0)) → ∃ cur', w'.heap[g]? = some (.cells cur' ty (0, 0)) ∧ cur'.size = cur.size
theorem RoomK.refl (w : World) : RoomK w w := fun _ cur _ h => ⟨cur, h, rfl⟩
theorem RoomK.trans {a b c : World} (h : RoomK a b) (k : RoomK b c) : RoomK a c := fun g cur ty hg => by
  obtain ⟨c1, h1, e1⟩ := h g cur ty hg
  obtain ⟨c2, h2, e2⟩ := k g c1 ty h1
  exact ⟨c2, h2, e2.trans e1⟩
theorem RoomK.set (w : World) (g j : Nat) (v : Value) : RoomK w (w.setCell ⟨g, j, none⟩ v) := fun k cur ty hk => by
  by_cases e : k = g
  · subst e
    exact ⟨_, heap_setCell_same _ _ _ _ _ _ hk, by simp⟩
  · exact ⟨cur, (Below.heap_setCell _ _ _ _ (fun h => e h)).trans hk, rfl⟩
/-- a slice of ints with all its room there -/
def RoomV (w : World) (v : Value) : Prop := v = .slice none 0 0 ∨ ∃ g n c cur, v = .slice (some ⟨g, 0, none⟩) n c ∧ w.heap[g]? = some (.cells cur 3 (0, 0)) ∧ cur.size = c ∧ n ≤ c ∧ c ≤ maxLen ∧ n ≤ 17592186044416
theorem RoomV.keep {w w' : World} {v : Value} (h : RoomV w v) (k : RoomK w w') : RoomV w' v := by
  rcases h with h | ⟨g, n, c, cur, e, hg, h1, h2, h3, h4⟩
  · exact .inl h
  · obtain ⟨cur', hg', e'⟩ := k g cur _ hg
    exact .inr ⟨g, n, c, cur', e, hg', e'.trans h1, h2, h3, h4⟩
theorem OwnI.room {w : World} {base : Nat} {v : Value} {xs : List Int} (h : OwnI w base v xs) : RoomV w v := by
  rcases h.1.2 with ⟨h1, _⟩ | ⟨g, cap, cur, hv, _, hg, h2, h3, h4, _⟩
  · exact .inl h1
  · exact .inr ⟨g, _, cap, cur, hv, hg, by omega, h2, h3, h.2.2⟩
set_option maxRecDepth 100000 in
set_option maxHeartbeats 1000000 in
theorem overInts_any (v : Value) (w : World) (h : RoomV w v) : Calls Tryz.prog 61 #[v] w fun e w' => e = .returned (.tuple #[]) ∧ RoomK w w' ∧ Chg (fun k => v.ownBlock = some k) w w' := by
  rcases h with rfl | ⟨g, n, c, cur, rfl, hg, h1, h2, h3, h4⟩
  · go_enter Tryz.func61, Tryz.ntmps61
    go_wp2
    go_loopw [3] (fun s3 wr => s3 = .int .i64 0 ∧ wr = w) (fun _ _ => 0)
    case atStart => exact ⟨by go_num, rfl⟩
    case round =>
      obtain ⟨rfl, rfl⟩ := hrel
      go_wp2
      go_end0
      exact ⟨rfl, RoomK.refl _, Chg.refl _ _⟩
  · have HG := Lib.hid hg
    have HC1 := Lib.hid h1
    unfold maxLen at h3
    clear hg h1
    obtain ⟨m, hm, hmc⟩ : ∃ m : Nat, (m : Int) = min (c : Int) ((n : Int) + 12) ∧ m ≤ c := ⟨min c (n + 12), by omega, by omega⟩
    have hmin : min (c : Int) ((n : Int) + 12) = (m : Int) := hm.symm
    clear hm
    go_enter Tryz.func61, Tryz.ntmps61
    go_wp2
    go_loopw [3] (fun s3 wr => ∃ i : Nat, i ≤ m ∧ s3 = .int .i64 (i : Int) ∧ Hid (RoomK w wr) ∧ Hid (Chg (fun k => (Value.slice (some ⟨g, 0, none⟩) n c).ownBlock = some k) w wr)) (fun s3 _ => m - (intOf s3).toNat)
    case atStart => exact ⟨0, by omega, by go_num, RoomK.refl _, Chg.refl _ _⟩
    case round =>
      obtain ⟨i, hi, rfl, HRK, HCH⟩ := hrel
      by_cases hlt : i < m
      · have hlt' : (i : Int) < (m : Int) := by omega
        obtain ⟨cur', hg', hs'⟩ := HRK.out g cur _ HG.out
        have hsz : i < cur'.size := by rw [hs', HC1.out]; omega
        have hcell : wr.cell? ⟨g, i, none⟩ = some cur'[i] := by rw [cell_of_row _ _ _ _ _ _ hg', Array.getElem?_eq_getElem hsz]
        have hfr : wr.frozen? ⟨g, i, none⟩ = false := frozen_of_row _ _ _ _ _ hg'
        have HRK2 : Hid (RoomK w (wr.setCell ⟨g, i, none⟩ (.int .i64 (markV 2 (i : Int))))) := HRK.out.trans (RoomK.set wr g i _)
        have HCH2 : Hid (Chg (fun k => (Value.slice (some ⟨g, 0, none⟩) n c).ownBlock = some k) w (wr.setCell ⟨g, i, none⟩ (.int .i64 (markV 2 (i : Int))))) := HCH.out.setCell (p := ⟨g, i, none⟩) (.inl rfl) _
        generalize cur'[i] = oldv at *
        clear hg' hs' hsz
        go_wp2_with (
          (go_at_call 112
           refine (mark_any 2 (i : Int) wr (by omega) (by omega)).mono ?_
           rintro e w2 ⟨rfl, rfl⟩))
        go_roundw
        case rel => exact ⟨i + 1, by omega, by go_num, HRK2, HCH2⟩
        case measure => simp [intOf]; omega
      · obtain rfl : i = m := by omega
        go_wp2
        go_end0
        exact ⟨rfl, HRK.out, HCH.out⟩
/-- the blocks of rows' own slices -/
def RowBl (hs : List RowH) (k : Nat) : Prop := ∃ h ∈ hs, h.lv.ownBlock = some k ∨ h.en.ownBlock = some k
set_option maxRecDepth 100000 in
set_option maxHeartbeats 1000000 in
theorem over18_any (base : Nat) (v : Value) (hs : List RowH) (w : World) (h : RowsIn w base v hs) : Calls Tryz.prog 20 #[v] w fun e w' => e = .returned (.tuple #[]) ∧ Chg (RowBl hs) w w' := by
  obtain ⟨a, c, rfl⟩ := RowsT.form h.t
  have HOR := Lib.hid h.1
  have HAP : Hid (∀ k, RowBl hs k → (Value.slice a hs.length c).ownBlock ≠ some k) := fun k ⟨x, hx, hk⟩ => by
    obtain ⟨_, _, h3, h4⟩ := h.2 x hx
    rcases hk with hk | hk
    · exact h3 k hk
    · exact h4 k hk
  have HRM : Hid (∀ x ∈ hs, RoomV w x.lv ∧ RoomV w x.en) := fun x hx => by
    obtain ⟨h1, h2, _⟩ := h.2 x hx
    exact ⟨h1.room, h2.room⟩
  have hln := h.1.2
  clear h
  go_enter Tryz.func20, Tryz.ntmps20
  go_wp2
  go_loopw [2] (fun s2 wr => ∃ i : Nat, i ≤ hs.length ∧ s2 = .int .i64 (i : Int) ∧ Hid (RoomK w wr) ∧ Hid (Chg (RowBl hs) w wr)) (fun s2 _ => hs.length - (intOf s2).toNat)
  case atStart => exact ⟨0, by omega, by go_num, RoomK.refl _, Chg.refl _ _⟩
  case round =>
    obtain ⟨i, hi, rfl, HRK, HCH⟩ := hrel
    by_cases hlt : i < hs.length
    · have hlt' : (i : Int) < (hs.length : Int) := by omega
      obtain ⟨x, hx⟩ : ∃ x, hs[i]? = some x := ⟨_, List.getElem?_eq_getElem hlt⟩
      have hmem := List.mem_of_getElem? hx
      have key : ∀ W, Chg (RowBl hs) w W → ∃ b o, a = some ⟨b, o, none⟩ ∧ W.cell? ⟨b, o + i * 5 + 3, none⟩ = some x.lv ∧ W.cell? ⟨b, o + i * 5 + 4, none⟩ = some x.en := fun W hc => by
        obtain ⟨b, o, ea, hcc⟩ := ((HOR.out.chg hc fun g hg hS => HAP.out g hS hg).recs csR_len).2.2 i x hx
        have c3 := hcc 3 (by omega)
        have c4 := hcc 4 (by omega)
        simp only [csR, List.getElem?_cons_zero, List.getElem?_cons_succ] at c3 c4
        exact ⟨b, o, ea, c3, c4⟩
      have HKEY := Lib.hid key
      obtain ⟨b, o, rfl, c3, _⟩ := key wr HCH.out
      have HR1 := Lib.hid ((HRM.out x hmem).1.keep HRK.out)
      have HR2 := Lib.hid ((HRM.out x hmem).2.keep HRK.out)
      have HML : Hid (∀ k, x.lv.ownBlock = some k → RowBl hs k) := fun k hk => ⟨x, hmem, .inl hk⟩
      have HME : Hid (∀ k, x.en.ownBlock = some k → RowBl hs k) := fun k hk => ⟨x, hmem, .inr hk⟩
      clear hx hmem key
      generalize x.lv = lv at *
      generalize x.en = en at *
      go_upto_region 4 with (
        (go_at_call 61
         refine (overInts_any lv wr HR1.out).mono ?_
         rintro e w2 ⟨rfl, hk, hc⟩
         have hc2 : Chg (RowBl hs) w w2 := HCH.out.trans (hc.mono HML.out)
         obtain ⟨b', o', eb, _, c4⟩ := HKEY.out w2 hc2
         injection eb with eb
         injection eb with eb1 eb2 _
         subst eb1 eb2
         have HRK2 := Lib.hid (HRK.out.trans hk)
         have HR22 := Lib.hid (HR2.out.keep hk)
         have HCH2 := Lib.hid hc2
         clear hk hc hc2 c3))
      go_wp2_with (
        (go_at_call 61
         refine (overInts_any en w2 HR22.out).mono ?_
         rintro e w3 ⟨rfl, hk, hc⟩
         have HRK3 := Lib.hid (HRK2.out.trans hk)
         have HCH3 : Hid (Chg (RowBl hs) w w3) := HCH2.out.trans (hc.mono HME.out)
         clear hk hc))
      go_roundw
      case rel => exact ⟨i + 1, by omega, by go_num, HRK3, HCH3⟩
      case measure => simp [intOf]; omega
    · obtain rfl : i = hs.length := by omega
      go_wp2
      go_end0
      exact ⟨rfl, HCH.out⟩

open Go.RowKit Go.Shelf

theorem neq_edge_same (w : World) (x : EdgeD) : (binOp .neq 46 (edgeV x) (edgeV x)).run Tryz.prog w = .ok (.bool false) w := by
  rw [run_neq_struct, equal_edge, (sameE_iff x x).2 rfl]
  rfl
set_option maxRecDepth 100000 in
set_option maxHeartbeats 4000000 in
theorem same18_any (tyA tyB : TypeId) (ba bb : Nat) (va vb : Value) (A B : List RowH) (w : World) (hA : RowsT tyA w ba va A) (hB : RowsT tyB w bb vb B) (he : A.map (·.r) = B.map (·.r)) :
    Calls Tryz.prog 19 #[va, vb] w fun e w' => e = .returned (.bool true) ∧ Below w.heap.size w w' := by
  have hl : A.length = B.length := by have := congrArg List.length he; simpa using this
  obtain ⟨a, c, rfl⟩ := hA.form
  obtain ⟨b, d, rfl⟩ := hB.form
  rw [← hl]
  have HA := Lib.hid hA
  have HB : Hid (RowsT tyB w bb (.slice b A.length d) B) := by rw [Hid, hl]; exact hB
  have HE := Lib.hid he
  have HL := Lib.hid hl
  have hln := hA.1.2
  clear hA hB he hl
  go_enter Tryz.func19, Tryz.ntmps19
  go_wp2
  go_loopw [5] (fun s5 wr => ∃ i : Nat, i ≤ A.length ∧ s5 = .int .i64 (i : Int) ∧ Hid (Below w.heap.size w wr)) (fun s5 _ => A.length - (intOf s5).toNat)
  case atStart => exact ⟨0, by omega, by go_num, Below.refl _ _⟩
  case round =>
    obtain ⟨i, hi, rfl, HBr⟩ := hrel
    by_cases hlt : i < A.length
    · have hlt' : (i : Int) < (A.length : Int) := by omega
      obtain ⟨r, p, o, la, lc, ea, ec, hri, rfl, elv, een, ho1, ho2, c0, c1, c2, c3, c4⟩ := RowsT.at (HA.out.ext HBr.out) hlt
      obtain ⟨r', p', o', la', lc', ea', ec', hri', rfl, elv', een', ho1', ho2', d0, d1, d2, d3, d4⟩ := RowsT.at (HB.out.ext HBr.out) hlt
      have her : r'.r = r.r := by
        have h1 : (A.map (·.r))[i]? = some r.r := by rw [List.getElem?_map, hri]; rfl
        have h2 : (B.map (·.r))[i]? = some r'.r := by rw [List.getElem?_map, hri']; rfl
        rw [HE.out, h2] at h1
        injection h1
      rw [her] at d0 d1 d2 d3 d4 elv' een' ho1' ho2'
      rw [elv] at ho1
      rw [een] at ho2
      rw [elv'] at ho1'
      rw [een'] at ho2'
      have qa0 : ∀ n' : ExtW wr, n'.val.cell? ⟨p, o + i * 5, none⟩ = some (.int .i64 r.r.e.fr) := fun n' => cell_ext n'.ext c0
      have qa1 : ∀ n' : ExtW wr, n'.val.cell? ⟨p, o + i * 5 + 1, none⟩ = some (.int .i64 r.r.e.arm) := fun n' => cell_ext n'.ext c1
      have qa2 : ∀ n' : ExtW wr, n'.val.cell? ⟨p, o + i * 5 + 2, none⟩ = some (.int .i64 r.r.e.to) := fun n' => cell_ext n'.ext c2
      have qa3 : ∀ n' : ExtW wr, n'.val.cell? ⟨p, o + i * 5 + 3, none⟩ = some (.slice la r.r.lv.length lc) := fun n' => cell_ext n'.ext c3
      have qa4 : ∀ n' : ExtW wr, n'.val.cell? ⟨p, o + i * 5 + 4, none⟩ = some (.slice ea r.r.en.length ec) := fun n' => cell_ext n'.ext c4
      have qb0 : ∀ n' : ExtW wr, n'.val.cell? ⟨p', o' + i * 5, none⟩ = some (.int .i64 r.r.e.fr) := fun n' => cell_ext n'.ext d0
      have qb1 : ∀ n' : ExtW wr, n'.val.cell? ⟨p', o' + i * 5 + 1, none⟩ = some (.int .i64 r.r.e.arm) := fun n' => cell_ext n'.ext d1
      have qb2 : ∀ n' : ExtW wr, n'.val.cell? ⟨p', o' + i * 5 + 2, none⟩ = some (.int .i64 r.r.e.to) := fun n' => cell_ext n'.ext d2
      have qb3 : ∀ n' : ExtW wr, n'.val.cell? ⟨p', o' + i * 5 + 3, none⟩ = some (.slice la' r.r.lv.length lc') := fun n' => cell_ext n'.ext d3
      have qb4 : ∀ n' : ExtW wr, n'.val.cell? ⟨p', o' + i * 5 + 4, none⟩ = some (.slice ea' r.r.en.length ec') := fun n' => cell_ext n'.ext d4
      have S1 : Hid (∀ n' : ExtW wr, Calls Tryz.prog 44 #[.slice la r.r.lv.length lc, .slice la' r.r.lv.length lc'] n'.val fun e w'' => e = .returned (.bool true) ∧ ∃ m : ExtW wr, w'' = m.val) := fun n' => by
        have := sameInts_any la la' _ _ lc lc' r.r.lv r.r.lv n'.val (ho1.ints.ext n'.ext) (ho1'.ints.ext n'.ext)
        rw [decide_eq_true (rfl : r.r.lv = r.r.lv)] at this
        exact quiet_ext_drew this
      have S2 : Hid (∀ n' : ExtW wr, Calls Tryz.prog 44 #[.slice ea r.r.en.length ec, .slice ea' r.r.en.length ec'] n'.val fun e w'' => e = .returned (.bool true) ∧ ∃ m : ExtW wr, w'' = m.val) := fun n' => by
        have := sameInts_any ea ea' _ _ ec ec' r.r.en r.r.en n'.val (ho2.ints.ext n'.ext) (ho2'.ints.ext n'.ext)
        rw [decide_eq_true (rfl : r.r.en = r.r.en)] at this
        exact quiet_ext_drew this
      have hne := fun w => neq_edge_same w r.r.e
      clear hri hri' her elv een elv' een' ho1 ho2 ho1' ho2' c0 c1 c2 c3 c4 d0 d1 d2 d3 d4
      go_wp2
      refine region_ext (by kernel_rfl) (by kernel_rfl) ?_
      iterate 22 (first
        | go_big_quiet_skip
        | go_big_quiet_step (fail))
      go_big_quiet_step (first | (go_at_call 44; exact S1.out _))
      iterate 13 (first
        | go_big_quiet_skip
        | go_big_quiet_step (fail))
      go_big_quiet_step (first | (go_at_call 44; exact S2.out _))
      repeat (first
        | go_big_quiet_skip
        | go_big_quiet_step (fail))
      refine wpQuiet_nil ?_
      intro _ hw'
      obtain ⟨n', rfl⟩ := hw'
      have HB8 : Hid (Below w.heap.size w n'.val) := ext_trans HBr.out n'.ext
      generalize n'.val = W8 at *
      clear qa0 qa1 qa2 qa3 qa4 qb0 qb1 qb2 qb3 qb4 S1 S2 hne
      go_wp2
      go_roundw
      case rel => exact ⟨i + 1, by omega, by go_num, HB8⟩
      case measure => simp [intOf]; omega
    · obtain rfl : i = A.length := by omega
      go_wp2
      go_ret
      exact ⟨rfl, HBr.out⟩

open Go.RowKit Go.Shelf

theorem lent_td {w : World} {base : Nat} {rs rs' : List TileR} (h : LentEs LentT w base rs rs') : tdOf rs' = tdOf rs := by
  apply List.ext_getElem?
  intro k
  simp only [tdOf, List.getElem?_map]
  by_cases hk : k < rs.length
  · have hk2 : k < rs'.length := by rw [h.1]; exact hk
    have := (h.2 k rs[k] rs'[k] (List.getElem?_eq_getElem hk) (List.getElem?_eq_getElem hk2)).1
    rw [List.getElem?_eq_getElem hk, List.getElem?_eq_getElem hk2]
    simp [this]
  · rw [List.getElem?_eq_none (l := rs') (by rw [h.1]; omega), List.getElem?_eq_none (l := rs) (by omega)]
theorem bn_le_tot (ls : List TileR) : ∀ r ∈ ls, r.d.blocks.length ≤ totL (tdOf ls) := by
  induction ls with
  | nil => intro r hr; cases hr
  | cons x l ih =>
    intro r hr
    simp only [tdOf, List.map_cons, totL, List.sum_cons]
    rcases List.mem_cons.1 hr with rfl | hr
    · omega
    · have := ih r hr
      simp only [tdOf, totL] at this
      omega
/-- one tells the rows, or none -/
def RowsG (ty : TypeId) (ts : List TermD) (l : List TileD) (ask : EdgeD → Bool) (W : World) (base : Nat) (v : Value) : Prop := ∃ hs, RowsT ty W base v hs ∧ hs.map (·.r) = (if rightB ts l then rowsL ts l ask else [])
theorem RowsPost.g {ts : List TermD} {l : List TileD} {ask : EdgeD → Bool} {w : World} {e : Ending} {w' : World} (h : RowsPost ts l ask w e w') : ∃ v, e = .returned (.tuple #[v, .int .i64 (overErr ts l)]) ∧ Below w.heap.size w w' ∧ RowsG 79 ts l ask w' w.heap.size v := by
  obtain ⟨v, e1, hb, hno, hyes⟩ := h
  refine ⟨v, e1, hb, ?_⟩
  cases hr : rightB ts l with
  | false =>
    obtain rfl := hno hr
    exact ⟨[], RowsT.nil _ _ _, by rw [hr]; rfl⟩
  | true =>
    obtain ⟨hs, h1, h2⟩ := hyes hr
    exact ⟨hs, h1.t, by rw [hr, if_pos rfl]; exact h2⟩
theorem R18Post.g {ty : TypeId} {ts : List TermD} {l : List TileD} {ask : EdgeD → Bool} {w : World} {e : Ending} {w' : World} (h : R18Post ty ts l ask w e w') : ∃ v, e = .returned (.tuple #[v, .int .i64 (overErr ts l)]) ∧ Below w.heap.size w w' ∧ RowsG ty ts l ask w' w.heap.size v := by
  obtain ⟨v, e1, hb, hno, hyes⟩ := h
  refine ⟨v, e1, hb, ?_⟩
  cases hr : rightB ts l with
  | false =>
    obtain rfl := hno hr
    exact ⟨[], RowsT.nil _ _ _, by rw [hr]; rfl⟩
  | true =>
    obtain ⟨hs, h1, h2⟩ := hyes hr
    exact ⟨hs, h1, by rw [hr, if_pos rfl]; exact h2⟩
theorem RowsT.bl {ty : TypeId} {W : World} {base : Nat} {v : Value} {hs : List RowH} (h : RowsT ty W base v hs) {k : Nat} (hk : RowBl hs k) : base ≤ k ∧ k < W.heap.size := by
  obtain ⟨x, hx, hk⟩ := hk
  obtain ⟨h1, h2, _⟩ := h.2 x hx
  rcases hk with hk | hk
  · exact h1.low hk
  · exact h2.low hk
set_option maxRecDepth 100000 in
set_option maxHeartbeats 16000000 in
theorem edgeRows_walk (f : FuncR) (hpn : f.pn ≤ 17592186044416) (a : Option Addr) (n c : Nat) (ls : List TileR) (k : Int) (w : World) (h : FuncOK w f) (ht : TilesOK w a n ls) :
    Calls Tryz.prog 3 #[funcVR f, .slice a n c, .int .i64 k] w fun e w' => e = .returned (.bool true) ∧ Below w.heap.size w w' := by
  have H := Lib.hid h
  have HT := Lib.hid ht
  have HLB : Hid (f.bs.length = f.bn) := h.2.1.1
  clear h ht
  go_enter Tryz.func3, Tryz.ntmps3
  go_upto_region 1 with (fail)
  obtain ⟨W, hW⟩ : ∃ W, W = w.alloc (funcO f.pa f.pn f.pc f.ba f.bn f.bc) := ⟨_, rfl⟩
  rw [← hW]
  have hk0 : W.heap[w.heap.size]? = some (funcO f.pa f.pn f.pc f.ba f.bn f.bc) := by rw [hW]; exact heap_alloc_new _ _
  have hB : Below w.heap.size w W := by rw [hW]; exact ext_alloc _ _
  have HK := Lib.hid hk0
  have HB := Lib.hid hB
  clear hW hk0 hB
  go_upto_region 3 with (first
    | (refine wpList_load_row (o := ⟨some 23, .load 25 _, _, _, _, _⟩) rfl 25 _ rfl w.heap.size rfl 25 _ (0, 0) _ HK.out Tryz.underlying25 rfl size_func ?_)
    | (go_at_call 9
       refine (great18_any2 f.pa f.pn f.pc hpn f.ba f.bn f.bc f.bs a n c ls W (H.out.2.ext HB.out) (HT.out.ext HB.out)).mono ?_
       rintro e w1 ⟨gb, rfl, hb, hgr⟩
       have HK1 := Lib.hid (block_ext hb HK.out)
       have HB1 := Lib.hid (ext_trans HB.out hb)
       have HGR := Lib.hid hgr
       clear hb hgr
       cases gb)
    | (go_at_call 10
       refine (awake18_any w1).mono ?_
       rintro e w2 ⟨rfl, hb⟩
       have HB2 := Lib.hid (ext_trans HB1.out hb)
       clear hb))
  all_goals first | (go_ret; exact ⟨rfl, HB2.out⟩) | skip
  clear HK HB
  obtain ⟨_, g0, g1, g2, g3⟩ := HGR.out (by trivial)
  have HNA : Hid (FuncNA f) := great_na (bn := f.bn) rfl rfl HLB.out g1 g2 g3
  have HTOT : Hid (totL (tdOf ls) ≤ 1000000) := by rw [Hid]; omega
  have hn90 : n ≤ 1000000 := by omega
  have HTNA : Hid (∀ r ∈ ls, TileNA r) := fun r hr => by
    have h1 := bn_le_tot ls r hr
    have h2 := (HT.out.2 r hr).1.1
    have h3 := HTOT.out
    unfold TileNA
    omega
  clear HGR g0 g1 g2 g3
  obtain ⟨w0, rfl⟩ : ∃ w0 : World, w0 = w1 := ⟨_, rfl⟩
  go_upto_region 4 with (first
    | (refine wpList_load_row (o := ⟨some 27, .load 25 _, _, _, _, _⟩) rfl 25 _ rfl w.heap.size rfl 25 _ (0, 0) _ HK1.out Tryz.underlying25 rfl size_func ?_)
    | (go_at_call 11
       refine (lentFunc_any f w0 (H.out.ext HB1.out) HNA.out).mono ?_
       rintro e w2 ⟨r, rfl, hl, hb⟩
       have HLF0 := Lib.hid hl
       have HRO0 := Lib.hid (hl.ok (H.out.ext (ext_trans HB1.out hb)) HNA.out)
       have HK2 := Lib.hid (block_ext hb HK1.out)
       have HB2 := Lib.hid (ext_trans HB1.out hb)
       clear hl hb)
    | (go_at_call 12
       refine (lentTiles_any a n c ls w2 (HT.out.ext HB2.out) hn90 HTNA.out).mono ?_
       rintro e w2b ⟨tv, rs, rfl, hl, hb⟩
       obtain ⟨tg, tc, rfl, hl2⟩ : ∃ tg tc, tv = .slice (some ⟨tg, 0, none⟩) n tc ∧ LentTiles w2b w2.heap.size (.slice (some ⟨tg, 0, none⟩) n tc) ls rs := (by
         obtain ⟨tg, tc, e1, h2, h3⟩ := hl
         rw [HT.out.1.1] at e1
         refine ⟨tg, tc, e1, tg, tc, ?_, h2, h3⟩
         rw [HT.out.1.1])
       have HLT0 := Lib.hid hl2
       have HLFb := Lib.hid (LentFn_law.ext HLF0.out hb)
       have HROb := Lib.hid (HRO0.out.ext hb)
       have HKb := Lib.hid (block_ext hb HK2.out)
       have HBb := Lib.hid (ext_trans HB2.out hb)
       clear hl hl2 hb HLF0 HRO0 HK2)
    | (refine wpList_store_rowB rfl 25 _ _ rfl w2b.heap.size #[.slice r.pa r.pn r.pc, .slice r.ba r.bn r.bc] rfl rfl 25 _ (heap_alloc_new w2b _) size_func rfl (by simp [Value.oneCell']) w2b.heap.size w2b (ext_alloc w2b _) (Nat.le_refl _) ?_
       intro w3 hb3 hx3
       have HKI3 := Lib.hid hx3
       have HB23 := Lib.hid hb3
       have HB3 := Lib.hid (ext_trans HBb.out hb3)
       have HK3 := Lib.hid (block_ext hb3 HKb.out)
       clear hb3 hx3))
  have hokS := HLT0.out.okS (HT.out.ext HBb.out) hn90 HTNA.out
  have HTS : Hid (tsOf (hOf r.bs) = tsOf (hOf f.bs)) := lent_ts HLFb.out.sd.2.2
  have HTD : Hid (tdOf rs = tdOf ls) := lent_td hokS.2.2.2.2.2
  have HT3 : Hid (TilesOK w3 (some ⟨tg, 0, none⟩) n rs) := hokS.2.1.ext HB23.out
  have HF3 : Hid (BlksOK w3 r.ba r.bn (hOf r.bs)) := (HROb.out.ext HB23.out).2.x.1
  have HFF3 := Lib.hid (H.out.ext HB3.out)
  have HFB3 : Hid (BlksOK w3 f.ba f.bn (hOf f.bs)) := HFF3.out.2.x.1
  have HTT3 := Lib.hid (HT.out.ext HB3.out)
  have HLF3 := Lib.hid (LentFn_law.ext HLFb.out HB23.out)
  have HLT3 : Hid (LentTiles w3 w2.heap.size (.slice (some ⟨tg, 0, none⟩) n tc) ls rs) := LentL.ext LentT_law HLT0.out HB23.out
  have HTOT2 : Hid (totL (tdOf rs) ≤ 1000000) := by rw [Hid, HTD.out]; exact HTOT.out
  clear hokS HK1 HB1 HB2 HLT0 HLFb HROb HKb HBb HB23
  have HE3 : Hid (Below w3.heap.size w3 w3) := Below.refl _ _
  go_upto_region 5 with (first
    | (refine wpList_load_row (o := ⟨some 32, .load 25 _, _, _, _, _⟩) rfl 25 _ rfl w2b.heap.size rfl 25 _ (0, 0) _ HKI3.out Tryz.underlying25 rfl size_func ?_)
    | (go_at_call 13
       refine (between_any r.pa r.pn r.pc r.ba r.bn r.bc (hOf r.bs) (some ⟨tg, 0, none⟩) n tc rs w3 (HF3.out.ext HE3.out) (HT3.out.ext HE3.out) HTOT2.out).mono ?_
       intro e w4a hpost
       obtain ⟨va, rfl, hb, hg⟩ := hpost.g
       rw [HTS.out, HTD.out] at hg
       rw [HTS.out, HTD.out]
       have HKI4a := Lib.hid (block_ext hb HKI3.out)
       have HK4a := Lib.hid (block_ext hb HK3.out)
       have HE4a : Hid (Below w3.heap.size w3 w4a) := ext_trans HE3.out hb
       have HSa := Lib.hid hb
       have HGa := Lib.hid hg
       clear hpost hb hg))
  go_upto_region 6 with (first
    | (refine wpList_load_row (o := ⟨some 38, .load 25 _, _, _, _, _⟩) rfl 25 _ rfl w.heap.size rfl 25 _ (0, 0) _ HK4a.out Tryz.underlying25 rfl size_func ?_)
    | (go_at_call 14
       refine (between18_any f.pa f.pn f.pc f.ba f.bn f.bc (hOf f.bs) a n c ls w4a (HFB3.out.ext HE4a.out) (HTT3.out.ext HE4a.out) HTOT.out).mono ?_
       intro e w4b hpost
       obtain ⟨vb, rfl, hb, hg⟩ := hpost.g
       skip
       skip
       have HKI4b := Lib.hid (block_ext hb HKI4a.out)
       have HK4b := Lib.hid (block_ext hb HK4a.out)
       have HE4b : Hid (Below w3.heap.size w3 w4b) := ext_trans HE4a.out hb
       have HSb := Lib.hid hb
       have HGb := Lib.hid hg
       clear hpost hb hg HKI4a HK4a))
  go_upto_region 7 with (first
    | (refine wpList_load_row (o := ⟨some 44, .load 25 _, _, _, _, _⟩) rfl 25 _ rfl w2b.heap.size rfl 25 _ (0, 0) _ HKI4b.out Tryz.underlying25 rfl size_func ?_)
    | (go_at_call 15
       refine (eInto_any r.pa r.pn r.pc r.ba r.bn r.bc (hOf r.bs) (some ⟨tg, 0, none⟩) n tc rs k w4b (HF3.out.ext HE4b.out) (HT3.out.ext HE4b.out) HTOT2.out).mono ?_
       intro e w4c hpost
       obtain ⟨vc, rfl, hb, hg⟩ := hpost.g
       rw [HTS.out, HTD.out] at hg
       rw [HTS.out, HTD.out]
       have HKI4c := Lib.hid (block_ext hb HKI4b.out)
       have HK4c := Lib.hid (block_ext hb HK4b.out)
       have HE4c : Hid (Below w3.heap.size w3 w4c) := ext_trans HE4b.out hb
       have HSc := Lib.hid hb
       have HGc := Lib.hid hg
       clear hpost hb hg HKI4b HK4b))
  go_upto_region 8 with (first
    | (refine wpList_load_row (o := ⟨some 51, .load 25 _, _, _, _, _⟩) rfl 25 _ rfl w.heap.size rfl 25 _ (0, 0) _ HK4c.out Tryz.underlying25 rfl size_func ?_)
    | (go_at_call 16
       refine (into18_any f.pa f.pn f.pc f.ba f.bn f.bc (hOf f.bs) a n c ls k w4c (HFB3.out.ext HE4c.out) (HTT3.out.ext HE4c.out) HTOT.out).mono ?_
       intro e w4d hpost
       obtain ⟨vd, rfl, hb, hg⟩ := hpost.g
       skip
       skip
       have HKI4d := Lib.hid (block_ext hb HKI4c.out)
       have HK4d := Lib.hid (block_ext hb HK4c.out)
       have HE4d : Hid (Below w3.heap.size w3 w4d) := ext_trans HE4c.out hb
       have HSd := Lib.hid hb
       have HGd := Lib.hid hg
       clear hpost hb hg HKI4c HK4c))
  go_upto_region 9 with (first
    | (refine wpList_load_row (o := ⟨some 58, .load 25 _, _, _, _, _⟩) rfl 25 _ rfl w2b.heap.size rfl 25 _ (0, 0) _ HKI4d.out Tryz.underlying25 rfl size_func ?_)
    | (go_at_call 17
       refine (eOut_any r.pa r.pn r.pc r.ba r.bn r.bc (hOf r.bs) (some ⟨tg, 0, none⟩) n tc rs k w4d (HF3.out.ext HE4d.out) (HT3.out.ext HE4d.out) HTOT2.out).mono ?_
       intro e w4m hpost
       obtain ⟨vm, rfl, hb, hg⟩ := hpost.g
       rw [HTS.out, HTD.out] at hg
       rw [HTS.out, HTD.out]
       have HKI4m := Lib.hid (block_ext hb HKI4d.out)
       have HK4m := Lib.hid (block_ext hb HK4d.out)
       have HE4m : Hid (Below w3.heap.size w3 w4m) := ext_trans HE4d.out hb
       have HSm := Lib.hid hb
       have HGm := Lib.hid hg
       clear hpost hb hg HKI4d HK4d))
  go_upto_region 10 with (first
    | (refine wpList_load_row (o := ⟨some 65, .load 25 _, _, _, _, _⟩) rfl 25 _ rfl w.heap.size rfl 25 _ (0, 0) _ HK4m.out Tryz.underlying25 rfl size_func ?_)
    | (go_at_call 18
       refine (out18_any f.pa f.pn f.pc f.ba f.bn f.bc (hOf f.bs) a n c ls k w4m (HFB3.out.ext HE4m.out) (HTT3.out.ext HE4m.out) HTOT.out).mono ?_
       intro e w4n hpost
       obtain ⟨vn, rfl, hb, hg⟩ := hpost.g
       skip
       skip
       have HKI4n := Lib.hid (block_ext hb HKI4m.out)
       have HK4n := Lib.hid (block_ext hb HK4m.out)
       have HE4n : Hid (Below w3.heap.size w3 w4n) := ext_trans HE4m.out hb
       have HSn := Lib.hid hb
       have HGn := Lib.hid hg
       clear hpost hb hg HKI4m HK4m))
  obtain ⟨rowsA, hA, mA⟩ := HGa.out
  obtain ⟨rowsB, hB, mB⟩ := HGb.out
  obtain ⟨rowsC, hC, mC⟩ := HGc.out
  obtain ⟨rowsD, hD, mD⟩ := HGd.out
  obtain ⟨rowsM, hM, mM⟩ := HGm.out
  obtain ⟨rowsN, hN, mN⟩ := HGn.out
  have HA := Lib.hid hA
  have HBB := Lib.hid hB
  have HC := Lib.hid hC
  have HD := Lib.hid hD
  have HM := Lib.hid hM
  have HN := Lib.hid hN
  have EAB : Hid (rowsA.map (·.r) = rowsB.map (·.r)) := mA.trans mB.symm
  have ECD : Hid (rowsC.map (·.r) = rowsD.map (·.r)) := mC.trans mD.symm
  have EMN : Hid (rowsM.map (·.r) = rowsN.map (·.r)) := mM.trans mN.symm
  have MB := Lib.hid mB
  have bAn : Hid (Below w4a.heap.size w4a w4n) := ext_trans HSb.out (ext_trans HSc.out (ext_trans HSd.out (ext_trans HSm.out HSn.out)))
  have bBn : Hid (Below w4b.heap.size w4b w4n) := ext_trans HSc.out (ext_trans HSd.out (ext_trans HSm.out HSn.out))
  have bCn : Hid (Below w4c.heap.size w4c w4n) := ext_trans HSd.out (ext_trans HSm.out HSn.out)
  have bDn : Hid (Below w4d.heap.size w4d w4n) := ext_trans HSm.out HSn.out
  have bMn : Hid (Below w4m.heap.size w4m w4n) := HSn.out
  have z1 : w3.heap.size ≤ w4a.heap.size := HSa.out.size
  have z2 : w4a.heap.size ≤ w4b.heap.size := HSb.out.size
  have z3 : w4b.heap.size ≤ w4c.heap.size := HSc.out.size
  have z4 : w4c.heap.size ≤ w4d.heap.size := HSd.out.size
  have z5 : w4d.heap.size ≤ w4m.heap.size := HSm.out.size
  have z6 : w4m.heap.size ≤ w4n.heap.size := HSn.out.size
  clear hA hB hC hD hM hN mA mB mC mD mM mN HGa HGb HGc HGd HGm HGn HSa HSb HSc HSd HSm HSn HE4a HE4b HE4c HE4d HE4m HE3
  go_upto_region 12 with (
    (go_at_call 19
     first
       | (refine (same18_any _ _ w4d.heap.size w4m.heap.size vm vn rowsM rowsN w6 (HM.out.ext (ext_trans bMn.out HS6.out)) (HN.out.ext HS6.out) EMN.out).mono ?_
          rintro e w7 ⟨rfl, hb⟩
          have HS7 := Lib.hid (ext_trans HS6.out hb)
          clear hb)
       | (refine (same18_any _ _ w4b.heap.size w4c.heap.size vc vd rowsC rowsD w5 (HC.out.ext (ext_trans bCn.out HS5.out)) (HD.out.ext (ext_trans bDn.out HS5.out)) ECD.out).mono ?_
          rintro e w6 ⟨rfl, hb⟩
          have HS6 := Lib.hid (ext_trans HS5.out hb)
          clear hb)
       | (refine (same18_any _ _ w3.heap.size w4a.heap.size va vb rowsA rowsB w4n (HA.out.ext bAn.out) (HBB.out.ext bBn.out) EAB.out).mono ?_
          rintro e w5 ⟨rfl, hb⟩
          have HS5 := Lib.hid hb
          clear hb)))
  have HA7 := Lib.hid (HA.out.ext (ext_trans bAn.out HS7.out))
  have HC7 := Lib.hid (HC.out.ext (ext_trans bCn.out HS7.out))
  have blA : Hid (∀ k, RowBl rowsA k → w3.heap.size ≤ k ∧ k < w4a.heap.size) := fun k hk => HA.out.bl hk
  have blC : Hid (∀ k, RowBl rowsC k → w4b.heap.size ≤ k ∧ k < w4c.heap.size) := fun k hk => HC.out.bl hk
  clear HS5 HS6
  go_upto_region 13 with (
    (go_at_call 20
     refine (over18_any w3.heap.size va rowsA w7 HA7.out).mono ?_
     rintro e w8 ⟨rfl, hc⟩
     have HC8 := Lib.hid (HC7.out.chg hc (fun k hk => .inl (by have := (blA.out k hk).2; omega)))
     have HCH8 := Lib.hid hc
     clear hc))
  go_upto_region 14 with (
    (go_at_call 20
     refine (over18_any w4b.heap.size vc rowsC w8 HC8.out).mono ?_
     rintro e w9 ⟨rfl, hc⟩
     have HCH9 : Hid (Chg (fun k => RowBl rowsA k ∨ RowBl rowsC k) w7 w9) := (HCH8.out.mono fun k hk => .inl hk).trans (hc.mono fun k hk => .inr hk)
     clear hc))
  have chg7 : ∀ {u : World}, Below u.heap.size u w4n → Chg (fun k => RowBl rowsA k ∨ RowBl rowsC k) u w9 := fun hb => ((chg_below (ext_trans hb HS7.out)).mono fun k hk => hk.elim).trans HCH9.out
  have HB9 : Hid (RowsT 89 w9 w4a.heap.size vb rowsB) := HBB.out.chg (chg7 bBn.out) (fun k hk => by
    rcases hk with hk | hk
    · exact .inl (blA.out k hk).2
    · exact .inr (blC.out k hk).1)
  have HM9 : Hid (RowsT 79 w9 w4d.heap.size vm rowsM) := HM.out.chg (chg7 bMn.out) (fun k hk => .inl (by
    rcases hk with hk | hk
    · have := (blA.out k hk).2; omega
    · have := (blC.out k hk).2; omega))
  have HN9 : Hid (RowsT 89 w9 w4m.heap.size vn rowsN) := HN.out.chg (chg7 (Below.refl _ _)) (fun k hk => .inl (by
    rcases hk with hk | hk
    · have := (blA.out k hk).2; omega
    · have := (blC.out k hk).2; omega))
  have HE9 : Hid (Below w3.heap.size w3 w9) := (chg7 HE4n.out).below (Nat.le_refl _) (fun k hk => by
    rcases hk with hk | hk
    · exact (blA.out k hk).1
    · have := (blC.out k hk).1; omega)
  have HKI9 := Lib.hid (block_ext HE9.out HKI3.out)
  have HK9 := Lib.hid (block_ext HE9.out HK3.out)
  clear HA HC HD HA7 HC7 HC8 HCH8 HCH9 chg7 HM HN HBB HKI4n HK4n HS7 HE4n EAB ECD
  go_upto_region 15 with (first
    | (refine wpList_load_row (o := ⟨some 107, .load 25 _, _, _, _, _⟩) rfl 25 _ rfl w2b.heap.size rfl 25 _ (0, 0) _ HKI9.out Tryz.underlying25 rfl size_func ?_)
    | (go_at_call 13
       refine (between_any r.pa r.pn r.pc r.ba r.bn r.bc (hOf r.bs) (some ⟨tg, 0, none⟩) n tc rs w9 (HF3.out.ext HE9.out) (HT3.out.ext HE9.out) HTOT2.out).mono ?_
       intro e w10 hpost
       obtain ⟨vx, rfl, hb, hg⟩ := hpost.g
       rw [HTS.out, HTD.out] at hg
       rw [HTS.out, HTD.out]
       have HKI10 := Lib.hid (block_ext hb HKI9.out)
       have HK10 := Lib.hid (block_ext hb HK9.out)
       have HE10 : Hid (Below w3.heap.size w3 w10) := ext_trans HE9.out hb
       have HS10 := Lib.hid hb
       have HGX := Lib.hid hg
       clear hpost hb hg HKI9 HK9))
  obtain ⟨rowsX, hX, mX⟩ := HGX.out
  have HX := Lib.hid hX
  have EXB : Hid (rowsX.map (·.r) = rowsB.map (·.r)) := mX.trans MB.out.symm
  clear hX mX HGX
  go_wp2_with (first
    | (refine wpList_load_rowW (o := ⟨some 121, .load 25 _, _, _, _, _⟩) (by rfl) 25 _ rfl w2b.heap.size rfl 25 _ (0, 0) _ HKI12.out Tryz.underlying25 rfl size_func ?_)
    | (refine wpList_load_rowW (o := ⟨some 122, .load 25 _, _, _, _, _⟩) (by rfl) 25 _ rfl w.heap.size rfl 25 _ (0, 0) _ HK12.out Tryz.underlying25 rfl size_func ?_)
    | (go_at_call 10
       refine (awake18_any w14).mono ?_
       rintro e w15 ⟨rfl, hb⟩
       have HE15 : Hid (Below w3.heap.size w3 w15) := ext_trans HE14.out hb
       clear hb)
    | (go_at_call 22
       refine (keptTiles_any w2.heap.size tg tc a n c ls rs w13 (LentL.ext LentT_law HLT3.out HE13.out) (HTT3.out.ext HE13.out) hn90 HTNA.out).mono ?_
       rintro e w14 ⟨rfl, hb⟩
       have HE14 : Hid (Below w3.heap.size w3 w14) := ext_trans HE13.out hb
       clear hb)
    | (go_at_call 21
       refine (keptFunc_any r f w0.heap.size w12 (LentFn_law.ext HLF3.out HE12.out) (HFF3.out.ext HE12.out) HNA.out).mono ?_
       rintro e w13 ⟨rfl, hb⟩
       have HE13 : Hid (Below w3.heap.size w3 w13) := ext_trans HE12.out hb
       clear hb)
    | (go_at_call 19
       first
         | (refine (same18_any _ _ w4d.heap.size w4m.heap.size vm vn rowsM rowsN w11 (HM9.out.ext (ext_trans HS10.out HS11.out)) (HN9.out.ext (ext_trans HS10.out HS11.out)) EMN.out).mono ?_
            rintro e w12 ⟨rfl, hb⟩
            have HE12 : Hid (Below w3.heap.size w3 w12) := ext_trans (ext_trans HE10.out HS11.out) hb
            have HKI12 := Lib.hid (block_ext hb (block_ext HS11.out HKI10.out))
            have HK12 := Lib.hid (block_ext hb (block_ext HS11.out HK10.out))
            clear hb)
         | (refine (same18_any _ _ w9.heap.size w4a.heap.size vx vb rowsX rowsB w10 HX.out (HB9.out.ext HS10.out) EXB.out).mono ?_
            rintro e w11 ⟨rfl, hb⟩
            have HS11 := Lib.hid hb
            clear hb)))
  go_ret
  exact ⟨rfl, ext_trans HB3.out HE15.out⟩
end Go.Proofs.YtblhmdhfhaencaaGreat
