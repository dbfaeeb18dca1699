/-
  append of a whole slice of records (nil let in) onto a row of the call's own. No program in sight.
-/
import Derived.Test.YtfpbfdkjcmlimaaGreatMix
import Derived.Test.YtfpbfdkjcmlimaaGreatRecs
import Derived.Test.YtfpbfdkjcmlimaaGreatFJ
import Derived.WalkSpells
namespace Go.Proofs.YtfpbfdkjcmlimaaGreat
set_option linter.unusedSimpArgs false
set_option linter.unusedVariables false
set_option linter.unusedSectionVars false
set_option maxRecDepth 100000
set_option maxHeartbeats 40000000
section
open Go.RowKit
theorem addr_add (b o m : Nat) : (⟨b, o, none⟩ : Addr).add m = ⟨b, o + m, none⟩ := by
  unfold Addr.add
  split <;> simp_all
section
variable {P : Program} {Q : Exit → Act → World → Prop}
theorem run_append_rows (w : World) (base : Nat) (t ty e : TypeId) (z : Value) (size bytes : Nat) (ht : P.underlying t = some (.slice e)) (hinfo : (P.info? e).map (fun i => (i.zero, i.size, i.bytes)) = some (some z, size, bytes)) (hzs : z.cells.size = size) (hsz : 0 < size)
    (v : Value) (n : Nat) (xs : List Value) (hown : w.ownsRow base e size v n xs) (A : Option Addr) (m c : Nat) (news : List Value) (hl : news.length = m * size)
    (hr : ∀ j u, news[j]? = some u → ∃ ad, A = some ad ∧ w.cell? (ad.add j) = some u) (h1 : ∀ u ∈ news, u.oneCell' = true)
    (h63 : n + m ≤ maxLen) (hbytes : (n + m) * bytes ≤ 140737488355328) (hbase : base ≤ w.heap.size) :
    ∃ v' w', (Builtin.append_ #[t, t] ty #[v, .slice A m c]).run P w = .ok v' w' ∧ w'.ownsRow base e size v' (n + m) (xs ++ news) ∧ w.grownBy w' v.ownBlock ∧ (v'.ownBlock = v.ownBlock ∨ v'.ownBlock = some w.heap.size) := by
  obtain ⟨i, hi, hz, hsize, hby⟩ := info_parts hinfo
  rcases A with _ | ad
  · have hm : news = [] := by
      cases news with
      | nil => rfl
      | cons u l => obtain ⟨ad, h, _⟩ := hr 0 u rfl; cases h
    subst hm
    obtain rfl : m = 0 := by
      simp only [List.length_nil] at hl
      rcases Nat.mul_eq_zero.1 hl.symm with h | h <;> omega
    refine ⟨v, w, ?_, by simpa using hown, ⟨rfl, rfl, rfl, Nat.le_refl _, fun _ _ _ => rfl⟩, Or.inl rfl⟩
    rcases hown.2 with ⟨rfl, rfl⟩ | ⟨g, cap, cur, rfl, _, _, hnc, _⟩
    · simp [Builtin.append_, run_underlying ht, sizeOf, typeInfo, hi, Builtin.lenOf, Builtin.firstCells]
    · simp [Builtin.append_, run_underlying ht, sizeOf, typeInfo, hi, Builtin.lenOf, Builtin.firstCells, hnc, storeCells]
  · obtain ⟨v', w', hrun, h2, h3, _, h5⟩ := run_append_own_at (P := P) w base t ty e i z size bytes ht hi hz hsize hby hzs hsz v n xs hown ad m c news hl
      (fun j u hu => by obtain ⟨ad', h, hc⟩ := hr j u hu; cases h; exact hc) h1 h63 hbytes hbase
    exact ⟨v', w', hrun, h2, h3, h5⟩
theorem wpList_appendR {ops : Array Oper} {rest : List Oper} {o : Oper} {a : Act} (w : World) (hgd : o.guard = none) (s x : Operand) (t e : TypeId) (ho : o.op = .call { callee := .builtin .append, args := #[s, x], argTypes := #[t, t] })
    (base : Nat) (z : Value) (size bytes : Nat) (ht : P.underlying t = some (.slice e)) (hinfo : (P.info? e).map (fun i => (i.zero, i.size, i.bytes)) = some (some z, size, bytes)) (hzs : z.cells.size = size) (hsz : 0 < size)
    (v : Value) (n : Nat) (xs : List Value) (hs : a.eval s = v) (hown : w.ownsRow base e size v n xs) (A : Option Addr) (m c : Nat) (hx : a.eval x = .slice A m c) (news : List Value) (hl : news.length = m * size)
    (hr : ∀ j u, news[j]? = some u → ∃ ad, A = some ad ∧ w.cell? (ad.add j) = some u) (h1 : ∀ u ∈ news, u.oneCell' = true)
    (h63 : n + m ≤ maxLen) (hbytes : (n + m) * bytes ≤ 140737488355328) (hbase : base ≤ w.heap.size)
    (h : ∀ v' w', w'.ownsRow base e size v' (n + m) (xs ++ news) → w.grownBy w' v.ownBlock → (v'.ownBlock = v.ownBlock ∨ v'.ownBlock = some w.heap.size) → wpList P ops Q rest (a.put o.dst v') w') :
    wpList P ops Q (o :: rest) a w := by
  refine wpList_plain hgd fun K hK => ?_
  obtain ⟨v', w', hrun, h2, h3, h4⟩ := run_append_rows (P := P) w base t o.type e z size bytes ht hinfo hzs hsz v n xs hown A m c news hl hr h1 h63 hbytes hbase
  unfold Oper.wp execOp
  simp only [ho, resolve, invoke, builtin, Sem.run_bind, Sem.run_pure, Result.andThen_ok, List.map_toArray, List.map_cons, List.map_nil, hs, hx, hrun]
  exact hK _ _ (h v' w' h2 h3 h4)
theorem op_appendR {o : Oper} {a : Act} {K : Act → World → Prop} (w : World) (s x : Operand) (t e : TypeId) (ho : o.op = .call { callee := .builtin .append, args := #[s, x], argTypes := #[t, t] })
    (base : Nat) (z : Value) (size bytes : Nat) (ht : P.underlying t = some (.slice e)) (hinfo : (P.info? e).map (fun i => (i.zero, i.size, i.bytes)) = some (some z, size, bytes)) (hzs : z.cells.size = size) (hsz : 0 < size)
    (v : Value) (n : Nat) (xs : List Value) (hs : a.eval s = v) (hown : w.ownsRow base e size v n xs) (A : Option Addr) (m c : Nat) (hx : a.eval x = .slice A m c) (news : List Value) (hl : news.length = m * size)
    (hr : ∀ j u, news[j]? = some u → ∃ ad, A = some ad ∧ w.cell? (ad.add j) = some u) (h1 : ∀ u ∈ news, u.oneCell' = true)
    (h63 : n + m ≤ maxLen) (hbytes : (n + m) * bytes ≤ 140737488355328) (hbase : base ≤ w.heap.size)
    (h : ∀ v' w', w'.ownsRow base e size v' (n + m) (xs ++ news) → w.grownBy w' v.ownBlock → (v'.ownBlock = v.ownBlock ∨ v'.ownBlock = some w.heap.size) → (∀ w0, Below base w0 w → Below base w0 w') → K (a.put o.dst v') w') :
    o.wp P a w K Q := by
  obtain ⟨v', w', hrun, h2, h3, h4⟩ := run_append_rows (P := P) w base t o.type e z size bytes ht hinfo hzs hsz v n xs hown A m c news hl hr h1 h63 hbytes hbase
  unfold Oper.wp execOp
  simp only [ho, resolve, invoke, builtin, Sem.run_bind, Sem.run_pure, Result.andThen_ok, List.map_toArray, List.map_cons, List.map_nil, hs, hx, hrun]
  exact h v' w' h2 h3 h4 (fun w0 hb => hb.grown h3 hbase (fun k hk => (hown.lt k hk).1))
end
theorem Ints.news {w : World} {a : Option Addr} {n : Nat} {xs : List Int} (h : Ints w a n xs) : ∀ j u, (xs.map (Value.int .i64))[j]? = some u → ∃ ad, a = some ad ∧ w.cell? (ad.add j) = some u := by
  intro j u hu
  rw [List.getElem?_map, Option.map_eq_some_iff] at hu
  obtain ⟨x, hx, rfl⟩ := hu
  have hlt := (List.getElem?_eq_some_iff.1 hx).1
  obtain ⟨b, o, e, hc, _⟩ := h.2.2 j (by rw [← h.1]; exact hlt)
  refine ⟨_, e, ?_⟩
  rw [addr_add, hc]
  simp [List.getD_eq_getElem?_getD, hx]
theorem Recs.news {α : Type} {size : Nat} {cs : α → List Value} {w : World} {a : Option Addr} {n : Nat} {ls : List α} (h : Recs size cs w a n ls) (hs : ∀ x, (cs x).length = size) (hpos : 0 < size) : ∀ j u, (ls.flatMap cs)[j]? = some u → ∃ ad, a = some ad ∧ w.cell? (ad.add j) = some u := by
  intro j u hu
  have hlt := (List.getElem?_eq_some_iff.1 hu).1
  rw [flatMap_len cs size hs] at hlt
  have hk : j / size < ls.length := Nat.div_lt_of_lt_mul (by rw [Nat.mul_comm]; exact hlt)
  have hj : j % size < size := Nat.mod_lt _ hpos
  have em : j = j / size * size + j % size := by rw [Nat.mul_comm]; exact (Nat.div_add_mod j size).symm
  obtain ⟨b, o, e, hc⟩ := h.2.2 (j / size) ls[j / size] (List.getElem?_eq_getElem hk)
  refine ⟨_, e, ?_⟩
  rw [addr_add, show o + j = o + j / size * size + j % size by omega, hc _ hj, ← flatMap_at cs size hs ls _ _ hj _ (List.getElem?_eq_getElem hk), ← em]
  exact hu
end

section
open Go.RowKit
theorem deleteIns_nil (B : Nat) (F : Nat) (caps : Array Value) (eF : ∀ args w, (callFunc F args).run Tryz.prog w = .ok (.enter F args) w) (p : InsR → Bool) (w : World) :
    Calls Tryz.prog 22 #[.slice none 0 0, .func (.func F) #[] caps] w (DelPost B [] p (.slice none 0 0) w) := by
  have HI := Lib.hid (indexIns_any F caps eF p none 0 0 [] w (fun r W hr hb => by cases hr) ⟨Recs.nil _ _ _, fun r hr => by cases hr⟩)
  have HX : Hid (idxF p [] = -1) := rfl
  go_enter Tryz.func22, Tryz.ntmps22
  go_wp2_with (go_at_call 44; refine HI.out.mono ?_; rw [HX.out]; rintro e w1 ⟨rfl, hb1⟩; have HB1 := Lib.hid hb1; clear hb1)
  go_ret
  exact ⟨_, rfl, rfl, World.ownsRow_nil _ _ _ _, (Chg.refl _ _).of_ext HB1.out⟩
theorem deleteIns_any (B : Nat) (F : Nat) (caps : Array Value) (eF : ∀ args w, (callFunc F args).run Tryz.prog w = .ok (.enter F args) w) (p : InsR → Bool) (v : Value) (rs : List InsR) (w : World)
    (hown : InsRow w B v rs) (hn : rs.length ≤ 1000000) (hok : ∀ r ∈ rs, InsOK w r) (hB : B ≤ w.heap.size)
    (hp : ∀ (r : InsR) (W : World), r ∈ rs → Below B w W → Calls Tryz.prog F (#[insVR r] ++ caps) W fun e W' => e = .returned (.bool (p r)) ∧ Below W.heap.size W W') :
    Calls Tryz.prog 22 #[v, .func (.func F) #[] caps] w (DelPost B rs p v w) := by
  rcases id hown.2 with ⟨rfl, h0⟩ | ⟨g, cap, cur, rfl, _⟩
  · obtain rfl : rs = [] := List.eq_nil_of_length_eq_zero h0
    exact deleteIns_nil B F caps eF p w
  · exact deleteIns_some B F caps eF p g cap rs w hown hn hok hB hp
theorem info_ins : (Tryz.prog.info? 52).map (fun i => (i.zero, i.size, i.bytes)) = some (some (.agg #[.int .i64 0, .int .i64 0, .int .i64 0, .int .i64 0, .int .i64 0, .int .i64 0, .slice none 0 0, .int .i64 0]), 8, 80) := by kernel_rfl
theorem insC_one (r : InsR) : ∀ u ∈ insC r, u.oneCell' = true := by
  intro u hu
  simp only [insC, List.mem_cons, List.not_mem_nil, or_false] at hu
  rcases hu with rfl | rfl | rfl | rfl | rfl | rfl | rfl | rfl <;> rfl
def ClonePost (w : World) (rs : List InsR) (e : Ending) (w' : World) : Prop := ∃ v, e = .returned v ∧ InsRow w' w.heap.size v rs ∧ Below w.heap.size w w'
theorem cloneIns_any (a : Option Addr) (n c : Nat) (rs : List InsR) (w : World) (h : InsS w a n rs) (hn : n ≤ 1000000) :
    Calls Tryz.prog 23 #[.slice a n c] w (ClonePost w rs) := by
  have HL := Lib.hid h.1.1
  have H := Lib.hid h
  clear h
  cases a with
  | none =>
    have hq := fun w n c n' c' => Lib.run_eql_slice_nil (P := Tryz.prog) w 25 52 none n c n' c' Tryz.underlying25
    go_enter Tryz.func23, Tryz.ntmps23
    go_wp2
    go_ret
    have h0 : rs = [] := by
      cases rs with
      | nil => rfl
      | cons r l => obtain ⟨b, o, e, _⟩ := H.out.1.2.2 0 r rfl; cases e
    subst h0
    exact ⟨_, rfl, World.ownsRow_nil _ _ _ _, Below.refl _ _⟩
  | some ad =>
    have hq := fun w n c n' c' => Lib.run_eql_slice_nil (P := Tryz.prog) w 25 52 (some ad) n c n' c' Tryz.underlying25
    go_enter Tryz.func23, Tryz.ntmps23
    go_wp2_with (at_builtin; go_loud (refine wpList_appendR (w.alloc (.cells #[] 52)) rfl (.tmp 5) (.tmp 6) 25 52 rfl w.heap.size _ 8 80 Tryz.underlying25 info_ins rfl (by omega) (.slice (some ⟨w.heap.size, 0, none⟩) 0 0) 0 [] rfl (World.ownsRow_lit w #[] 0 (by omega) (by unfold maxLen; omega) rfl) (some ad) n c rfl (rs.flatMap insC) (by rw [flatMap_len insC 8 insC_len, HL.out]) ((H.out.1.ext insC_len (ext_alloc _ _)).news insC_len (by omega)) (fun u hu => by obtain ⟨r, _, hr⟩ := List.mem_flatMap.1 hu; exact insC_one r u hr) (by unfold maxLen; omega) (by omega) (by simp) ?_); intro v' w1 ho1 hg1 hv1; have HO1 := Lib.hid ho1; have HG1 := Lib.hid hg1; clear ho1 hg1 hv1)
    go_ret
    have ho := HO1.out
    rw [Nat.zero_add, List.nil_append, ← HL.out] at ho
    exact ⟨_, rfl, ho, ((Below.refl _ w).alloc (Nat.le_refl _) _).grown HG1.out (by simp) (fun k hk => by simp [Value.ownBlock] at hk; omega)⟩
def eqFB {α : Type} (q : α → α → Bool) : List α → List α → Bool
  | [], [] => true
  | x :: l, y :: m => q x y && eqFB q l m
  | _, _ => false
theorem eqFB_len {α : Type} (q : α → α → Bool) (l m : List α) (h : l.length ≠ m.length) : eqFB q l m = false := by
  induction l generalizing m with
  | nil => cases m with
    | nil => exact absurd rfl h
    | cons y m => rfl
  | cons x l ih => cases m with
    | nil => rfl
    | cons y m => simp only [eqFB, ih m (fun e => h (by simp [e])), Bool.and_false]
theorem eqFB_all {α : Type} (q : α → α → Bool) (l m : List α) (h : l.length = m.length) (hq : ∀ (j : Nat) x y, l[j]? = some x → m[j]? = some y → q x y = true) : eqFB q l m = true := by
  induction l generalizing m with
  | nil => cases m with
    | nil => rfl
    | cons y m => simp at h
  | cons x l ih => cases m with
    | nil => simp at h
    | cons y m =>
      simp only [eqFB, Bool.and_eq_true]
      exact ⟨hq 0 x y rfl rfl, ih m (by simpa using h) (fun j a b ha hb => hq (j + 1) a b (by simpa using ha) (by simpa using hb))⟩
theorem eqFB_not {α : Type} (q : α → α → Bool) (l m : List α) (j : Nat) (x y : α) (hx : l[j]? = some x) (hy : m[j]? = some y) (hq : q x y = false) : eqFB q l m = false := by
  induction l generalizing m j with
  | nil => simp at hx
  | cons a l ih => cases m with
    | nil => rfl
    | cons b m =>
      simp only [eqFB, Bool.and_eq_false_iff]
      cases j with
      | zero => simp at hx hy; subst hx; subst hy; exact Or.inl hq
      | succ j => exact Or.inr (ih m j (by simpa using hx) (by simpa using hy))
abbrev alikeR (r s : InsR) : Bool := alikeB r.d s.d
theorem equalIns_any (a1 a2 : Option Addr) (n1 c1 n2 c2 : Nat) (rs1 rs2 : List InsR) (w : World) (h1 : InsS w a1 n1 rs1) (h2 : InsS w a2 n2 rs2) :
    Calls Tryz.prog 26 #[.slice a1 n1 c1, .slice a2 n2 c2, .func (.func 27) #[] #[]] w fun e w' => e = .returned (.bool (eqFB alikeR rs1 rs2)) ∧ Below w.heap.size w w' := by
  have HL1 := Lib.hid h1.1.1
  have HL2 := Lib.hid h2.1.1
  have q1 := h1.1.2.1
  have q2 := h2.1.2.1
  have H1 := Lib.hid h1
  have H2 := Lib.hid h2
  clear h1 h2
  by_cases hne : n1 = n2
  · subst hne
    have hb : ((n1 : Int) != (n1 : Int)) = false := by simp
    go_enter Tryz.func26, Tryz.ntmps26
    go_wp2
    go_loopw [7, 8, 9, 17] (fun _ _ _ i wr => ∃ (k : Nat), k ≤ n1 ∧ i = .int .i64 k ∧ Hid (∀ j x y, j < k → rs1[j]? = some x → rs2[j]? = some y → alikeR x y = true) ∧ Hid (Below w.heap.size w wr)) (fun _ _ _ i _ => n1 - (intOf i).toNat)
    case atStart => exact ⟨0, by omega, rfl, fun j x y hj => absurd hj (by omega), Below.refl _ _⟩
    case round =>
      obtain ⟨k, hk, rfl, HR, HB⟩ := hrel
      by_cases hlt : k < n1
      · obtain ⟨r, b, o, hr, hok, rfl, c0, c1, c2, c3, c4, c5, c6, c7⟩ := (H1.out.ext HB.out).cells hlt
        obtain ⟨s, b', o', hs, hok', rfl, d0, d1, d2, d3, d4, d5, d6, d7⟩ := (H2.out.ext HB.out).cells hlt
        have HG := Lib.hid hr
        have HG' := Lib.hid hs
        have HOK := Lib.hid hok
        have nb : b < wr.heap.size := World.block_lt_of_cell? wr _ c0
        have nb' : b' < wr.heap.size := World.block_lt_of_cell? wr _ d0
        clear hr hok hs hok'
        cases hq : alikeR r s with
        | true =>
          have HE : Hid (∀ j x y, j < k + 1 → rs1[j]? = some x → rs2[j]? = some y → alikeR x y = true) := fun j x y hj hx hy => by
            by_cases e : j = k
            · subst e
              rw [HG.out] at hx
              rw [HG'.out] at hy
              injection hx with hx
              injection hy with hy
              subst hx
              subst hy
              exact hq
            · exact HR.out j x y (by omega) hx hy
          go_wp2_with (go_at_call 27; refine (alike_any r.d s.d r.aa s.aa r.na r.ca s.na s.ca _ HOK.out.1.1 HOK.out.1.2.1).mono ?_; rw [show alikeB r.d s.d = true from hq]; rintro e w' ⟨rfl, hb'⟩; have HB' := Lib.hid (ext_trans HB.out (ext_trans (ext_trans (ext_alloc _ _) (ext_alloc _ _)) hb')); clear hb')
          go_roundw
          case rel => exact ⟨k + 1, by omega, by go_num, HE, HB'⟩
          case measure => simp [intOf]; omega
        | false =>
          have HE : Hid (eqFB alikeR rs1 rs2 = false) := eqFB_not alikeR rs1 rs2 k r s HG.out HG'.out hq
          go_wp2_with (go_at_call 27; refine (alike_any r.d s.d r.aa s.aa r.na r.ca s.na s.ca _ HOK.out.1.1 HOK.out.1.2.1).mono ?_; rw [show alikeB r.d s.d = false from hq]; rintro e w' ⟨rfl, hb'⟩; have HB' := Lib.hid (ext_trans HB.out (ext_trans (ext_trans (ext_alloc _ _) (ext_alloc _ _)) hb')); clear hb')
          go_ret
          exact ⟨by rw [HE.out]; rfl, HB'.out⟩
      · obtain rfl : k = n1 := by omega
        have HE : Hid (eqFB alikeR rs1 rs2 = true) := eqFB_all alikeR rs1 rs2 (by rw [HL1.out, HL2.out]) (fun j x y hx hy => HR.out j x y (by have := (List.getElem?_eq_some_iff.1 hx).1; rw [HL1.out] at this; exact this) hx hy)
        go_wp2
        go_ret
        exact ⟨by rw [HE.out]; rfl, HB.out⟩
  · have hb : ((n1 : Int) != (n2 : Int)) = true := by simpa using (by omega : ¬ (n1 : Int) = (n2 : Int))
    have HE : Hid (eqFB alikeR rs1 rs2 = false) := eqFB_len _ _ _ (by rw [HL1.out, HL2.out]; exact hne)
    go_enter Tryz.func26, Tryz.ntmps26
    go_wp2
    go_ret
    exact ⟨by rw [HE.out]; rfl, Below.refl _ _⟩
end
end Go.Proofs.YtfpbfdkjcmlimaaGreat
