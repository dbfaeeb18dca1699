/-
 append of a whole slice of records (nil let in) onto a row of the call's own. No program in sight.
-/
import Derived.Test.YtblhmdhfhaencaaRecs
import Derived.Test.YtblhmdhfhaencaaRows
import Derived.ChangeKeysEq
import Derived.WalkSpells
import Derived.Test.YtblhmdhfhaencaaCP
import Derived.Deep.DeepAppendRoom
import Derived.Maps.AppendAt
namespace Go.Proofs.Ytblhmdhfhaencaa
set_option linter.unusedSimpArgs false
set_option linter.unusedVariables false
set_option linter.unusedSectionVars false
set_option maxRecDepth 100000
set_option maxHeartbeats 40000000
section
open Go.RowKit
theorem addr_add (b o m : Nat) : (⟨b, o, none⟩ : Addr).add m = ⟨b, o + m, none⟩ := by
 unfold Addr.add
 split <;> simp_all
section
variable {P : Program} {Q : Exit → Act → World → Prop}
theorem run_append_rows (w : World) (base : Nat) (t ty e : TypeId) (z : Value) (size bytes : Nat) (ht : P.underlying t = some (.slice e)) (hinfo : (P.info? e).map (fun i => (i.zero, i.size, i.bytes)) = some (some z, size, bytes)) (hzs : z.cells.size = size) (hsz : 0 < size)
  (v : Value) (n : Nat) (xs : List Value) (hown : w.ownsRow base e size v n xs) (A : Option Addr) (m c : Nat) (news : List Value) (hl : news.length = m * size)
  (hr : ∀ j u, news[j]? = some u → ∃ ad, A = some ad ∧ w.cell? (ad.add j) = some u) (h1 : ∀ u ∈ news, u.oneCell' = true)
  (h63 : n + m ≤ maxLen) (hbytes : (n + m) * bytes ≤ 140737488355328) (hbase : base ≤ w.heap.size) :
  ∃ v' w', (Builtin.append_ #[t, t] ty #[v, .slice A m c]).run P w = .ok v' w' ∧ w'.ownsRow base e size v' (n + m) (xs ++ news) ∧ w.grownBy w' v.ownBlock ∧ (v'.ownBlock = v.ownBlock ∨ v'.ownBlock = some w.heap.size) := by
 obtain ⟨i, hi, hz, hsize, hby⟩ := info_parts hinfo
 rcases A with _ | ad
 · have hm : news = [] := by
    cases news with
    | nil => rfl
    | cons u l => obtain ⟨ad, h, _⟩ := hr 0 u rfl; cases h
   subst hm
   obtain rfl : m = 0 := by
    simp only [List.length_nil] at hl
    rcases Nat.mul_eq_zero.1 hl.symm with h | h <;> omega
   refine ⟨v, w, ?_, by simpa using hown, ⟨rfl, rfl, rfl, Nat.le_refl _, fun _ _ _ => rfl⟩, Or.inl rfl⟩
   rcases hown.2 with ⟨rfl, rfl⟩ | ⟨g, cap, cur, rfl, _, _, hnc, _⟩
   · simp [Builtin.append_, run_underlying ht, sizeOf, typeInfo, hi, Builtin.lenOf, Builtin.firstCells]
   · simp [Builtin.append_, run_underlying ht, sizeOf, typeInfo, hi, Builtin.lenOf, Builtin.firstCells, hnc, storeCells]
 · obtain ⟨v', w', hrun, h2, h3, _, h5⟩ := run_append_own_at (P := P) w base t ty e i z size bytes ht hi hz hsize hby hzs hsz v n xs hown ad m c news hl
    (fun j u hu => by obtain ⟨ad', h, hc⟩ := hr j u hu; cases h; exact hc) h1 h63 hbytes hbase
   exact ⟨v', w', hrun, h2, h3, h5⟩

theorem wpList_appendR {ops : Array Oper} {rest : List Oper} {o : Oper} {a : Act} (w : World) (hgd : o.guard = none) (s x : Operand) (t e : TypeId) (ho : o.op = .call { callee := .builtin .append, args := #[s, x], argTypes := #[t, t] })
  (base : Nat) (z : Value) (size bytes : Nat) (ht : P.underlying t = some (.slice e)) (hinfo : (P.info? e).map (fun i => (i.zero, i.size, i.bytes)) = some (some z, size, bytes)) (hzs : z.cells.size = size) (hsz : 0 < size)
  (v : Value) (n : Nat) (xs : List Value) (hs : a.eval s = v) (hown : w.ownsRow base e size v n xs) (A : Option Addr) (m c : Nat) (hx : a.eval x = .slice A m c) (news : List Value) (hl : news.length = m * size)
  (hr : ∀ j u, news[j]? = some u → ∃ ad, A = some ad ∧ w.cell? (ad.add j) = some u) (h1 : ∀ u ∈ news, u.oneCell' = true)
  (h63 : n + m ≤ maxLen) (hbytes : (n + m) * bytes ≤ 140737488355328) (hbase : base ≤ w.heap.size)
  (h : ∀ v' w', w'.ownsRow base e size v' (n + m) (xs ++ news) → w.grownBy w' v.ownBlock → (v'.ownBlock = v.ownBlock ∨ v'.ownBlock = some w.heap.size) → wpList P ops Q rest (a.put o.dst v') w') :
  wpList P ops Q (o :: rest) a w := by
 refine wpList_plain hgd fun K hK => ?_
 obtain ⟨v', w', hrun, h2, h3, h4⟩ := run_append_rows (P := P) w base t o.type e z size bytes ht hinfo hzs hsz v n xs hown A m c news hl hr h1 h63 hbytes hbase
 unfold Oper.wp execOp
 simp only [ho, resolve, invoke, builtin, Sem.run_bind, Sem.run_pure, Result.andThen_ok, List.map_toArray, List.map_cons, List.map_nil, hs, hx, hrun]
 exact hK _ _ (h v' w' h2 h3 h4)
/-- the same, at the operation -/
theorem op_appendR {o : Oper} {a : Act} {K : Act → World → Prop} (w : World) (s x : Operand) (t e : TypeId) (ho : o.op = .call { callee := .builtin .append, args := #[s, x], argTypes := #[t, t] })
  (base : Nat) (z : Value) (size bytes : Nat) (ht : P.underlying t = some (.slice e)) (hinfo : (P.info? e).map (fun i => (i.zero, i.size, i.bytes)) = some (some z, size, bytes)) (hzs : z.cells.size = size) (hsz : 0 < size)
  (v : Value) (n : Nat) (xs : List Value) (hs : a.eval s = v) (hown : w.ownsRow base e size v n xs) (A : Option Addr) (m c : Nat) (hx : a.eval x = .slice A m c) (news : List Value) (hl : news.length = m * size)
  (hr : ∀ j u, news[j]? = some u → ∃ ad, A = some ad ∧ w.cell? (ad.add j) = some u) (h1 : ∀ u ∈ news, u.oneCell' = true)
  (h63 : n + m ≤ maxLen) (hbytes : (n + m) * bytes ≤ 140737488355328) (hbase : base ≤ w.heap.size)
  (h : ∀ v' w', w'.ownsRow base e size v' (n + m) (xs ++ news) → w.grownBy w' v.ownBlock → (v'.ownBlock = v.ownBlock ∨ v'.ownBlock = some w.heap.size) → (∀ w0, Below base w0 w → Below base w0 w') → K (a.put o.dst v') w') :
  o.wp P a w K Q := by
 obtain ⟨v', w', hrun, h2, h3, h4⟩ := run_append_rows (P := P) w base t o.type e z size bytes ht hinfo hzs hsz v n xs hown A m c news hl hr h1 h63 hbytes hbase
 unfold Oper.wp execOp
 simp only [ho, resolve, invoke, builtin, Sem.run_bind, Sem.run_pure, Result.andThen_ok, List.map_toArray, List.map_cons, List.map_nil, hs, hx, hrun]
 exact h v' w' h2 h3 h4 (fun w0 hb => hb.grown h3 hbase (fun k hk => (hown.lt k hk).1))
/-- the same inside a region that draws -/
theorem step_appendR {ops : Array Oper} {o : Oper} {a : Act} {K : Act → World → Prop} {E : Prop} (w : World) (hgd : o.guard = none) (s x : Operand) (t e : TypeId) (ho : o.op = .call { callee := .builtin .append, args := #[s, x], argTypes := #[t, t] })
  (base : Nat) (z : Value) (size bytes : Nat) (ht : P.underlying t = some (.slice e)) (hinfo : (P.info? e).map (fun i => (i.zero, i.size, i.bytes)) = some (some z, size, bytes)) (hzs : z.cells.size = size) (hsz : 0 < size)
  (v : Value) (n : Nat) (xs : List Value) (hs : a.eval s = v) (hown : w.ownsRow base e size v n xs) (A : Option Addr) (m c : Nat) (hx : a.eval x = .slice A m c) (news : List Value) (hl : news.length = m * size)
  (hr : ∀ j u, news[j]? = some u → ∃ ad, A = some ad ∧ w.cell? (ad.add j) = some u) (h1 : ∀ u ∈ news, u.oneCell' = true)
  (h63 : n + m ≤ maxLen) (hbytes : (n + m) * bytes ≤ 140737488355328) (hbase : base ≤ w.heap.size)
  (h : ∀ v' w', w'.ownsRow base e size v' (n + m) (xs ++ news) → w.grownBy w' v.ownBlock → (v'.ownBlock = v.ownBlock ∨ v'.ownBlock = some w.heap.size) → (∀ w0, Below base w0 w → Below base w0 w') → K (a.put o.dst v') w') :
  if Region.wanted o (yielded ops a.tmps) = true then Oper.wp P o a w K Q else E := by
 have hw : Region.wanted o (yielded ops a.tmps) = true := by simp [Region.wanted, hgd]
 rw [if_pos hw]
 exact op_appendR w s x t e ho base z size bytes ht hinfo hzs hsz v n xs hs hown A m c hx news hl hr h1 h63 hbytes hbase h
end
/-- ints as records of one cell -/
theorem Ints.news {w : World} {a : Option Addr} {n : Nat} {xs : List Int} (h : Ints w a n xs) : ∀ j u, (xs.map (Value.int .i64))[j]? = some u → ∃ ad, a = some ad ∧ w.cell? (ad.add j) = some u := by
 intro j u hu
 rw [List.getElem?_map, Option.map_eq_some_iff] at hu
 obtain ⟨x, hx, rfl⟩ := hu
 have hlt := (List.getElem?_eq_some_iff.1 hx).1
 obtain ⟨b, o, e, hc, _⟩ := h.2.2 j (by rw [← h.1]; exact hlt)
 refine ⟨_, e, ?_⟩
 rw [addr_add, hc]
 simp [List.getD_eq_getElem?_getD, hx]
/-- the cells of a slice of records, in the form that append asks for -/
theorem Recs.news {α : Type} {size : Nat} {cs : α → List Value} {w : World} {a : Option Addr} {n : Nat} {ls : List α} (h : Recs size cs w a n ls) (hs : ∀ x, (cs x).length = size) (hpos : 0 < size) : ∀ j u, (ls.flatMap cs)[j]? = some u → ∃ ad, a = some ad ∧ w.cell? (ad.add j) = some u := by
 intro j u hu
 have hlt := (List.getElem?_eq_some_iff.1 hu).1
 rw [flatMap_len cs size hs] at hlt
 have hk : j / size < ls.length := Nat.div_lt_of_lt_mul (by rw [Nat.mul_comm]; exact hlt)
 have hj : j % size < size := Nat.mod_lt _ hpos
 have em : j = j / size * size + j % size := by rw [Nat.mul_comm]; exact (Nat.div_add_mod j size).symm
 obtain ⟨b, o, e, hc⟩ := h.2.2 (j / size) ls[j / size] (List.getElem?_eq_getElem hk)
 refine ⟨_, e, ?_⟩
 rw [addr_add, show o + j = o + j / size * size + j % size by omega, hc _ hj, ← flatMap_at cs size hs ls _ _ hj _ (List.getElem?_eq_getElem hk), ← em]
 exact hu
end

section
open Go.RowKit

theorem infoI : (Try.prog.info? 3).map (fun i => (i.zero, i.size, i.bytes)) = some (some (.int .i64 0), 1, 8) := by kernel_rfl
def intVals (xs : List Int) : List Value := xs.map (Value.int .i64)
theorem intVals_len (xs : List Int) : (intVals xs).length = xs.length := by simp [intVals]
theorem intVals_one (xs : List Int) : ∀ u ∈ intVals xs, u.oneCell' = true := by
 intro u hu
 simp only [intVals, List.mem_map] at hu
 obtain ⟨x, _, rfl⟩ := hu
 rfl
/-- a slice of the call's own that reads as a list -/
def OwnI (w : World) (base : Nat) (v : Value) (xs : List Int) : Prop := w.ownsRow base 3 1 v xs.length (intVals xs) ∧ (∀ x ∈ xs, I64 x) ∧ xs.length ≤ 17592186044416
theorem OwnI.nil (w : World) (base : Nat) : OwnI w base (.slice none 0 0) [] := ⟨World.ownsRow_nil _ _ _ _, by simp, by simp⟩
theorem OwnI.mono {w : World} {base base' : Nat} {v : Value} {xs : List Int} (h : OwnI w base v xs) (hb : base' ≤ base) : OwnI w base' v xs := by
 refine ⟨⟨h.1.1, ?_⟩, h.2⟩
 rcases h.1.2 with h0 | ⟨g, cap, cur, hv, h1, r⟩
 · exact .inl h0
 · exact .inr ⟨g, cap, cur, hv, Nat.le_trans hb h1, r⟩
theorem OwnI.kept {w w' : World} {base : Nat} {v : Value} {xs : List Int} {row : Option Nat} (h : OwnI w base v xs) (hg : w.grownBy w' row) (hne : v.ownBlock = none ∨ v.ownBlock ≠ row) : OwnI w' base v xs := ⟨h.1.kept hg hne, h.2⟩
theorem OwnI.ext {w w' : World} {base : Nat} {v : Value} {xs : List Int} (h : OwnI w base v xs) (hb : Below w.heap.size w w') : OwnI w' base v xs := by
 refine ⟨h.1.kept (row := none) ⟨hb.os, hb.tape, hb.output, hb.size, fun k hk _ => hb.block k hk⟩ ?_, h.2⟩
 cases h1 : v.ownBlock with
 | none => exact .inl rfl
 | some k => exact .inr (by simp)
theorem OwnI.form {w : World} {base : Nat} {v : Value} {xs : List Int} (h : OwnI w base v xs) : ∃ a c, v = .slice a xs.length c := by
 rcases h.1.2 with ⟨rfl, h0⟩ | ⟨g, cap, cur, hv, _⟩
 · have h0 : xs.length = 0 := h0
   rw [h0]
   exact ⟨none, 0, rfl⟩
 · exact ⟨_, _, hv⟩
theorem OwnI.ints {w : World} {base : Nat} {a : Option Addr} {n c : Nat} {xs : List Int} (h : OwnI w base (.slice a n c) xs) : Ints w a n xs := by
 rcases h.1.2 with ⟨hv, h0⟩ | ⟨g, cap, cur, hv, _⟩
 · injection hv with e1 e2 e3
   subst e1 e2
   have h0 : xs.length = 0 := h0
   exact ⟨h0, by omega, fun k hk => by omega⟩
 · injection hv with e1 e2 e3
   subst e1 e2 e3
   exact intsOwn h.1 h.2.1 h.2.2
theorem OwnI.cap {w : World} {base : Nat} {a : Option Addr} {n c : Nat} {xs : List Int} (h : OwnI w base (.slice a n c) xs) : n ≤ c ∧ c ≤ 9223372036854775807 ∧ n = xs.length := by
 rcases h.1.2 with ⟨hv, h0⟩ | ⟨g, cap, cur, hv, _, _, h1, h2, _⟩
 · injection hv with e1 e2 e3
   subst e1 e2 e3
   exact ⟨by omega, by omega, by rw [show xs.length = 0 from h0]⟩
 · injection hv with e1 e2 e3
   subst e1 e2 e3
   unfold maxLen at h2
   exact ⟨h1, by omega, rfl⟩
/-- a list as a result -/
def IntsPost (w : World) (xs : List Int) (e : Ending) (w' : World) : Prop := ∃ v, e = .returned v ∧ OwnI w' w.heap.size v xs ∧ Below w.heap.size w w'
/-- a literal -/
theorem ownI_lit {W : World} {g : Nat} {xs : List Int} (hg : W.heap.size = g) (base : Nat) (hb : base ≤ g) (hx : ∀ x ∈ xs, I64 x) (hn : xs.length ≤ 1000) : OwnI (W.alloc (.cells (intVals xs).toArray 3)) base (.slice (some ⟨g, 0, none⟩) xs.length xs.length) xs := by
 subst hg
 refine ⟨?_, hx, by omega⟩
 have := World.ownsRow_lit (base := base) (e := 3) (size := 1) W (intVals xs).toArray xs.length hb (by unfold maxLen; omega) (by simp [intVals])
 simpa using this

theorem cloneInts_any (a : Option Addr) (n c : Nat) (xs : List Int) (w : World) (h : Ints w a n xs) :
  Calls Try.prog 47 #[.slice a n c] w (IntsPost w xs) := by
 have HL := Lib.hid h.1
 have hn := h.2.1
 have HM := Lib.hid h.mem
 have H := Lib.hid h
 clear h
 cases a with
 | none =>
   have hq := fun w n c n' c' => Lib.run_eql_slice_nil (P := Try.prog) w 22 3 none n c n' c' Try.underlying22
   go_enter Try.func47, Try.ntmps47
   go_wp2
   go_ret
   have h0 : xs = [] := by
    cases xs with
    | nil => rfl
    | cons r l => obtain ⟨b, o, e, _⟩ := H.out.2.2 0 (by rw [← HL.out]; simp); cases e
   subst h0
   exact ⟨_, rfl, OwnI.nil _ _, Below.refl _ _⟩
 | some ad =>
   have hq := fun w n c n' c' => Lib.run_eql_slice_nil (P := Try.prog) w 22 3 (some ad) n c n' c' Try.underlying22
   go_enter Try.func47, Try.ntmps47
   go_wp2_with (at_builtin; go_loud (refine wpList_appendR (w.alloc (.cells #[] 3)) rfl (.tmp 5) (.tmp 6) 22 3 rfl w.heap.size _ 1 8 Try.underlying22 infoI rfl (by omega) (.slice (some ⟨w.heap.size, 0, none⟩) 0 0) 0 [] rfl (World.ownsRow_lit w #[] 0 (by omega) (by unfold maxLen; omega) rfl) (some ad) n c rfl (intVals xs) (by rw [intVals_len, HL.out, Nat.mul_one]) ((H.out.ext ((Below.refl _ w).alloc (Nat.le_refl _) _)).news) (intVals_one xs) (by unfold maxLen; omega) (by omega) (by simp) ?_); intro v' w1 ho1 hg1 hv1; have HO1 := Lib.hid ho1; have HG1 := Lib.hid hg1; clear ho1 hg1 hv1)
   go_ret
   have ho := HO1.out
   rw [Nat.zero_add, List.nil_append, ← HL.out] at ho
   exact ⟨_, rfl, ⟨ho, HM.out, by rw [HL.out]; exact hn⟩, ((Below.refl _ w).alloc (Nat.le_refl _) _).grown HG1.out (by simp) (fun k hk => by simp [Value.ownBlock] at hk; omega)⟩
end

section
open Go.RowKit

theorem among17_yes (l : List Int) (n : Int) (k : Nat) (h : k < l.length) (he : l.getD k 0 = n) : l.contains n = true := by
 rw [List.contains_iff_mem, ← he, List.getD_eq_getElem?_getD, List.getElem?_eq_getElem h]
 exact List.getElem_mem _
theorem among17_no (l : List Int) (n : Int) (h : ∀ k, k < l.length → l.getD k 0 ≠ n) : l.contains n = false := by
 rw [Bool.eq_false_iff]
 intro hc
 rw [List.contains_iff_mem] at hc
 obtain ⟨j, hj, e⟩ := List.getElem_of_mem hc
 have := h j hj
 rw [List.getD_eq_getElem?_getD, List.getElem?_eq_getElem hj, Option.getD_some] at this
 exact this e
theorem among17_any (a : Option Addr) (n c : Nat) (xs : List Int) (x : Int) (w : World) (h : Ints w a n xs) :
  Calls Try.prog 23 #[.slice a n c, .int .i64 x] w fun e w' => e = .returned (.bool (xs.contains x)) ∧ w = w' := by
 obtain ⟨hl, hn, hc⟩ := h
 have HL := Lib.hid hl
 have HC := Lib.hid hc
 clear hl hc
 go_enter Try.func23, Try.ntmps23
 go_wp2
 go_loopw [5] (fun i wr => ∃ (k : Nat), k ≤ n ∧ i = .int .i64 k ∧ wr = w ∧ Hid (∀ j, j < k → xs.getD j 0 ≠ x)) (fun i _ => n - (intOf i).toNat)
 case atStart => exact ⟨0, by omega, rfl, rfl, fun j hj => absurd hj (by omega)⟩
 case round =>
  obtain ⟨k, hk, rfl, rfl, HR⟩ := hrel
  by_cases hlt : k < n
  · obtain ⟨b, o, rfl, hcell, _⟩ := HC.out k hlt
    by_cases he : xs.getD k 0 = x
    · have HE : Hid (xs.contains x = true) := among17_yes xs x k (by rw [HL.out]; exact hlt) he
      rw [he] at hcell
      clear he
      go_wp2
      go_ret
      exact ⟨by rw [HE.out]; rfl, rfl⟩
    · have HE : Hid (∀ j, j < k + 1 → xs.getD j 0 ≠ x) := fun j hj => by
       by_cases hjk : j = k
       · subst hjk; exact he
       · exact HR.out j (by omega)
      generalize xs.getD k 0 = y at *
      go_wp2
      go_roundw
      case rel => exact ⟨k + 1, by omega, by go_num, trivial, HE⟩
      case measure => simp [intOf]; omega
  · have HE : Hid (xs.contains x = false) := among17_no xs x fun j h1 => HR.out j (by rw [HL.out] at h1; omega)
    go_wp2
    go_ret
    exact ⟨by rw [HE.out]; rfl, rfl⟩
end

section
open Go.RowKit

/-- w' is w but for new blocks and the blocks of S -/
structure Chg (S : Nat → Prop) (w w' : World) : Prop where
 os : w'.os = w.os
 tape : w'.tape = w.tape
 output : w'.output = w.output
 size : w.heap.size ≤ w'.heap.size
 block : ∀ k, k < w.heap.size → ¬ S k → w'.heap[k]? = w.heap[k]?
theorem Chg.refl (S : Nat → Prop) (w : World) : Chg S w w := ⟨rfl, rfl, rfl, Nat.le_refl _, fun _ _ _ => rfl⟩
theorem Chg.trans {S : Nat → Prop} {a b c : World} (h : Chg S a b) (k : Chg S b c) : Chg S a c :=
 ⟨k.os.trans h.os, k.tape.trans h.tape, k.output.trans h.output, Nat.le_trans h.size k.size, fun i hi hn => (k.block i (Nat.lt_of_lt_of_le hi h.size) hn).trans (h.block i hi hn)⟩
theorem Chg.drewN {S : Nat → Prop} {a w : World} (h : Chg S a w) (n : Nat) : Chg S a (w.drewN n) := ⟨h.os, h.tape, h.output, h.size, h.block⟩
theorem Chg.grown {S : Nat → Prop} {a w w' : World} {row : Option Nat} (h : Chg S a w) (hg : w.grownBy w' row) (hr : ∀ k, row = some k → S k ∨ a.heap.size ≤ k) : Chg S a w' :=
 ⟨hg.os.trans h.os, hg.tape.trans h.tape, hg.output.trans h.output, Nat.le_trans h.size hg.size, fun k hk hn => (hg.block k (Nat.lt_of_lt_of_le hk h.size) (fun e => by
  rcases hr k e.symm with h1 | h1
  · exact hn h1
  · omega)).trans (h.block k hk hn)⟩
theorem Chg.alloc {S : Nat → Prop} {a w : World} (h : Chg S a w) (o : Obj) : Chg S a (w.alloc o) := h.grown (World.grownBy_alloc w o none) (fun k e => by cases e)
theorem Chg.setCell {S : Nat → Prop} {a w : World} (h : Chg S a w) {p : Addr} (hp : S p.block ∨ a.heap.size ≤ p.block) (u : Value) : Chg S a (w.setCell p u) :=
 ⟨h.os, h.tape, h.output, Nat.le_trans h.size (by simp [World.setCell]), fun k hk hn => (Below.heap_setCell w p u k (fun e => by
  subst e
  rcases hp with h1 | h1
  · exact hn h1
  · omega)).trans (h.block k hk hn)⟩
theorem Chg.mono {S T : Nat → Prop} {a w : World} (h : Chg S a w) (hs : ∀ k, S k → T k) : Chg T a w := ⟨h.os, h.tape, h.output, h.size, fun k hk hn => h.block k hk (fun hk' => hn (hs k hk'))⟩
theorem Chg.below {S : Nat → Prop} {a w : World} {B : Nat} (h : Chg S a w) (hB : B ≤ a.heap.size) (hs : ∀ k, S k → B ≤ k) : Below B a w :=
 ⟨h.os, h.tape, h.output, h.size, fun k hk => h.block k (by omega) (fun hk' => by have := hs k hk'; omega)⟩
theorem Chg.of_ext {S : Nat → Prop} {a b c : World} (h : Chg S a b) (hb : Below b.heap.size b c) : Chg S a c := h.trans ⟨hb.os, hb.tape, hb.output, hb.size, fun k hk _ => hb.block k hk⟩
theorem ownsRow_chg {S : Nat → Prop} {w w' : World} {base : Nat} {e : TypeId} {size : Nat} {v : Value} {n : Nat} {xs : List Value} (h : w.ownsRow base e size v n xs) (hc : Chg S w w') (hn : ∀ g, v.ownBlock = some g → ¬ S g) : w'.ownsRow base e size v n xs := by
 refine ⟨h.1, ?_⟩
 rcases h.2 with h2 | ⟨g, cap, cur, rfl, hb, hh, r⟩
 · exact .inl h2
 · exact .inr ⟨g, cap, cur, rfl, hb, (hc.block g (Array.getElem?_eq_some_iff.1 hh).1 (hn g rfl)).trans hh, r⟩

/-- rows whose elements' types differ lie in different blocks -/
theorem rows_ne {w : World} {base base' : Nat} {e e' : TypeId} {size size' : Nat} {v v' : Value} {n n' : Nat} {xs xs' : List Value} (h : w.ownsRow base e size v n xs) (h' : w.ownsRow base' e' size' v' n' xs') (hne : e ≠ e') :
  ∀ g, v.ownBlock = some g → v'.ownBlock ≠ some g := by
 intro g hg hg'
 rcases h.2 with ⟨rfl, _⟩ | ⟨b, cap, cur, rfl, _, hh, _⟩
 · simp [Value.ownBlock] at hg
 · rcases h'.2 with ⟨rfl, _⟩ | ⟨b', cap', cur', rfl, _, hh', _⟩
   · simp [Value.ownBlock] at hg'
   · simp only [Value.ownBlock, Option.some.injEq] at hg hg'
     subst hg
     subst hg'
     rw [hh] at hh'
     injection hh' with hh'
     injection hh' with _ ht
     exact hne ht
theorem row_lt {w : World} {base : Nat} {e : TypeId} {size : Nat} {v : Value} {n : Nat} {xs : List Value} (h : w.ownsRow base e size v n xs) : ∀ g, v.ownBlock = some g → base ≤ g ∧ g < w.heap.size := h.lt

/-- what an append onto v, n elements long, keeps: rows elsewhere, and rows in v's block that are no longer than v -/
def KeepR (e : TypeId) (size : Nat) (v : Value) (n : Nat) (w w' : World) : Prop :=
 ∀ (base0 : Nat) (v0 : Value) (n0 : Nat) (xs0 : List Value), w.ownsRow base0 e size v0 n0 xs0 → (∀ g, v0.ownBlock = some g → v.ownBlock = some g → n0 ≤ n) → w'.ownsRow base0 e size v0 n0 xs0

section
variable {P : Program} {Q : Exit → Act → World → Prop}
theorem append_keep (w : World) (base : Nat) (t ty e : TypeId) (i : TypeInfo) (z : Value) (size bytes : Nat) (ht : P.underlying t = some (.slice e)) (hi : P.info? e = some i) (hz : i.zero = some z)
  (hsize : i.size = size) (hby : i.bytes = bytes) (hzs : z.cells.size = size) (hsz : 0 < size)
  (v : Value) (n : Nat) (xs : List Value) (hown : w.ownsRow base e size v n xs)
  (a : Addr) (m c : Nat) (news : List Value) (hl : news.length = m * size) (hnews : ∀ j u, news[j]? = some u → w.cell? (a.add j) = some u) (h1 : ∀ u ∈ news, u.oneCell' = true)
  (h63 : n + m ≤ maxLen) (hbytes : (n + m) * bytes ≤ 140737488355328) (hbase : base ≤ w.heap.size) :
  ∃ v' w', (Builtin.append_ #[t, t] ty #[v, .slice (some a) m c]).run P w = .ok v' w' ∧ w'.ownsRow base e size v' (n + m) (xs ++ news) ∧ w.grownBy w' v.ownBlock ∧
    (v'.ownBlock = v.ownBlock ∨ v'.ownBlock = some w.heap.size) ∧ KeepR e size v n w w' := by
 obtain ⟨v', w', hrun, h2, h3, h4, h5⟩ := run_append_own_at (P := P) w base t ty e i z size bytes ht hi hz hsize hby hzs hsz v n xs hown a m c news hl hnews h1 h63 hbytes hbase
 refine ⟨v', w', hrun, h2, h3, h5, ?_⟩
 intro base0 v0 n0 xs0 h0 hle
 rcases h0.2 with ⟨hv0, hn0⟩ | ⟨g0, cap0, cur0, hv0, hb0, hh0, hnc0, hcm0, hcs0, htake0⟩
 · exact ⟨h0.1, .inl ⟨hv0, hn0⟩⟩
 · subst hv0
   by_cases hblk : v.ownBlock = some g0
   · have hn0 := hle g0 rfl hblk
     rcases hown.2 with ⟨rfl, _⟩ | ⟨g, cap, cur, rfl, hbg, hg, hnc, hcm, hcs, htake⟩
     · simp [Value.ownBlock] at hblk
     · simp only [Value.ownBlock, Option.some.injEq] at hblk
       subst hblk
       rw [hg] at hh0
       injection hh0 with hh0
       injection hh0 with hcc _
       subst hcc
       have hcap : cap = cap0 := Nat.eq_of_mul_eq_mul_right hsz (hcs.symm.trans hcs0)
       subst hcap
       have hle2 : n0 * size ≤ n * size := Nat.mul_le_mul_right _ hn0
       have hxs0 : xs0 = xs.take (n0 * size) := by
        rw [← htake0, ← htake, List.take_take, Nat.min_eq_left hle2]
       by_cases hroom : n + m ≤ cap
       · obtain ⟨w'', hr, h6, h7⟩ := run_append_own_spare (P := P) w base t ty e i size ht hi hsize g n cap xs hown a m c news hl hnews h1 hroom
         rw [hrun] at hr
         injection hr with e1 e2
         subst e1
         subst e2
         rcases h6.2 with ⟨hbad, _⟩ | ⟨g', cap', cur', hv', hb', hh', hnc', hcm', hcs', htake'⟩
         · cases hbad
         · injection hv' with e1 e2 e3
           injection e1 with e1
           injection e1 with e1 _ _
           subst e1
           subst e3
           refine ⟨h0.1, .inr ⟨g, cap, cur', rfl, hb0, hh', hnc0, hcm0, hcs', ?_⟩⟩
           have : cur'.toList.take (n0 * size) = (cur'.toList.take ((n + m) * size)).take (n0 * size) := by
            rw [List.take_take, Nat.min_eq_left (Nat.mul_le_mul_right _ (by omega))]
           rw [this, htake', hxs0, List.take_append_of_le_length (by rw [hown.1]; exact hle2)]
       · have holds : ∀ j u, xs[j]? = some u → w.cell? ((⟨g, 0, none⟩ : Addr).add j) = some u := hown.cells (g := g) rfl
         subst hsize
         have hr := run_append_grow (P := P) w t ty e i z ht hi hz ⟨g, 0, none⟩ n cap xs hown.1 holds a m c news hl hnews (by omega) (by simp only [maxLen] at h63; omega) (growslice_fits (by omega) (by rw [hby]; exact hbytes))
         rw [hrun] at hr
         injection hr with e1 e2
         subst e2
         refine ⟨h0.1, .inr ⟨g, cap, cur, rfl, hb0, ?_, hnc0, hcm0, hcs, htake0⟩⟩
         exact (Below.heap_alloc _ _ _ (by simpa using (Array.getElem?_eq_some_iff.1 hg).1)).trans hg
   · exact h0.kept h3 (.inr (fun e => hblk e.symm))

/-- append of one element, which lies in the newest block; what it keeps -/
theorem wpList_append1K {ops : Array Oper} {rest : List Oper} {o : Oper} {a : Act} (hgd : o.guard = none) (w0 : World) (s x : Operand) (t e : TypeId) (ho : o.op = .call { callee := .builtin .append, args := #[s, x], argTypes := #[t, t] })
  (base : Nat) (z : Value) (size bytes : Nat) (ht : P.underlying t = some (.slice e)) (hinfo : (P.info? e).map (fun i => (i.zero, i.size, i.bytes)) = some (some z, size, bytes)) (hzs : z.cells.size = size) (hsz : 0 < size)
  (v : Value) (n : Nat) (xs news : List Value) (hs : a.eval s = v) (hown : w0.ownsRow base e size v n xs) (H : Nat) (hH : w0.heap.size = H) (hx : a.eval x = .slice (some ⟨H, 0, none⟩) 1 1) (hl : news.length = size) (h1 : ∀ u ∈ news, u.oneCell' = true)
  (h63 : n + 1 ≤ maxLen) (hbytes : (n + 1) * bytes ≤ 140737488355328) (hbase : base ≤ w0.heap.size)
  (h : ∀ g cap w', w'.ownsRow base e size (.slice (some ⟨g, 0, none⟩) (n + 1) cap) (n + 1) (xs ++ news) → w0.grownBy w' v.ownBlock → (some g = v.ownBlock ∨ g = H + 1) → KeepR e size v n w0 w' → wpList P ops Q rest (a.put o.dst (.slice (some ⟨g, 0, none⟩) (n + 1) cap)) w') :
  wpList P ops Q (o :: rest) a (w0.alloc (.cells news.toArray e)) := by
 refine wpList_plain hgd fun K hK => ?_
 subst hH
 obtain ⟨i, hi, hz, hsize, hby⟩ := info_parts hinfo
 have hnews : ∀ j u, news[j]? = some u → (w0.alloc (.cells news.toArray e)).cell? ((⟨w0.heap.size, 0, none⟩ : Addr).add j) = some u := by
  intro j u hu
  have hadd : (⟨w0.heap.size, 0, none⟩ : Addr).add j = ⟨w0.heap.size, j, none⟩ := by unfold Addr.add; split <;> simp_all
  rw [hadd, cell_of_row _ _ _ _ _ _ (World.alloc_heap_new w0 _)]
  simpa using hu
 obtain ⟨v', w', hrun, h2, h3, h5, h6⟩ := append_keep (P := P) (w0.alloc (.cells news.toArray e)) base t o.type e i z size bytes ht hi hz hsize hby hzs hsz v n xs (hown.alloc _) ⟨w0.heap.size, 0, none⟩ 1 1 news (by omega) hnews h1 h63 hbytes (by simp; omega)
 obtain ⟨g, cap, rfl⟩ : ∃ g cap, v' = .slice (some ⟨g, 0, none⟩) (n + 1) cap := by
  rcases h2.2 with ⟨_, h0⟩ | ⟨g, cap, cur, hv, _⟩
  · omega
  · exact ⟨g, cap, hv⟩
 have hg : w0.grownBy w' v.ownBlock := by
  refine ⟨h3.os, h3.tape, h3.output, Nat.le_trans (by simp) h3.size, fun k hk hne => ?_⟩
  rw [h3.block k (by simp; omega) hne]
  exact Below.heap_alloc _ _ _ hk
 unfold Oper.wp execOp
 simp only [ho, resolve, invoke, builtin, Sem.run_bind, Sem.run_pure, Result.andThen_ok, List.map_toArray, List.map_cons, List.map_nil, hs, hx, hrun]
 refine hK _ _ (h g cap w' h2 hg ?_ (fun b0 v0 n0 xs0 h0 hle => h6 b0 v0 n0 xs0 (h0.alloc _) hle))
 rcases h5 with h5 | h5
 · exact Or.inl (by simpa [Value.ownBlock] using h5)
 · exact Or.inr (by simpa [Value.ownBlock] using h5)
/-- append of a whole slice of the call's own; what it keeps -/
theorem wpList_appendK {ops : Array Oper} {rest : List Oper} {o : Oper} {a : Act} (hgd : o.guard = none) (w : World) (s x : Operand) (t e : TypeId) (ho : o.op = .call { callee := .builtin .append, args := #[s, x], argTypes := #[t, t] })
  (base : Nat) (z : Value) (size bytes : Nat) (ht : P.underlying t = some (.slice e)) (hinfo : (P.info? e).map (fun i => (i.zero, i.size, i.bytes)) = some (some z, size, bytes)) (hzs : z.cells.size = size) (hsz : 0 < size)
  (v : Value) (n : Nat) (xs : List Value) (hs : a.eval s = v) (hown : w.ownsRow base e size v n xs) (M m c : Nat) (news : List Value) (hx : a.eval x = .slice (some ⟨M, 0, none⟩) m c) (hm : w.ownsRow base e size (.slice (some ⟨M, 0, none⟩) m c) m news) (h1 : ∀ u ∈ news, u.oneCell' = true)
  (h63 : n + m ≤ maxLen) (hbytes : (n + m) * bytes ≤ 140737488355328) (hbase : base ≤ w.heap.size)
  (h : ∀ v' w', w'.ownsRow base e size v' (n + m) (xs ++ news) → w.grownBy w' v.ownBlock → (v'.ownBlock = v.ownBlock ∨ v'.ownBlock = some w.heap.size) → KeepR e size v n w w' → wpList P ops Q rest (a.put o.dst v') w') :
  wpList P ops Q (o :: rest) a w := by
 refine wpList_plain hgd fun K hK => ?_
 obtain ⟨i, hi, hz, hsize, hby⟩ := info_parts hinfo
 obtain ⟨v', w', hrun, h2, h3, h5, h6⟩ := append_keep (P := P) w base t o.type e i z size bytes ht hi hz hsize hby hzs hsz v n xs hown ⟨M, 0, none⟩ m c news hm.1 (hm.cells (g := M) rfl) h1 h63 hbytes hbase
 unfold Oper.wp execOp
 simp only [ho, resolve, invoke, builtin, Sem.run_bind, Sem.run_pure, Result.andThen_ok, List.map_toArray, List.map_cons, List.map_nil, hs, hx, hrun]
 exact hK _ _ (h v' w' h2 h3 h5 h6)
end

/-- two slices that share no block -/
def SepF (v v' : Value) : Prop := ∀ g, v.ownBlock = some g → v'.ownBlock ≠ some g
theorem SepF.symm {v v' : Value} (h : SepF v v') : SepF v' v := fun g h1 h2 => h g h2 h1
/-- the marks of a row, n of them -/
def mrow (mk : Nat → Nat → List Value) (k n : Nat) : List Value := (List.range n).flatMap (mk k)
theorem mrow_snoc (mk : Nat → Nat → List Value) (k n : Nat) : mrow mk k (n + 1) = mrow mk k n ++ mk k n := by simp [mrow, List.range_succ]
theorem mrow_len (mk : Nat → Nat → List Value) (size : Nat) (hs : ∀ k i, (mk k i).length = size) (k n : Nat) : (mrow mk k n).length = n * size := by
 induction n with
 | zero => simp [mrow]
 | succ n ih => rw [mrow_snoc, List.length_append, ih, hs, Nat.add_mul, Nat.one_mul]
theorem mrow_at (mk : Nat → Nat → List Value) (hs : ∀ k i, (mk k i).length = 1) (k n i : Nat) (hi : i < n) : (mrow mk k n)[i]? = (mk k i)[0]? := by
 induction n with
 | zero => omega
 | succ n ih =>
   have hl := mrow_len mk 1 hs k n
   rw [mrow_snoc]
   by_cases h : i < n
   · rw [List.getElem?_append_left (by omega), ih h]
   · have : i = n := by omega
     subst this
     rw [List.getElem?_append_right (by omega)]
     congr 1
     omega
/-- a map of a list's numbers, one of them set -/
theorem range_map_set {α : Type} (K : Nat) (f : Nat → α) (k : Nat) (x : α) : ((List.range K).map f).set k x = (List.range K).map (fun j => if j = k then x else f j) := by
 refine List.ext_getElem (by simp) fun i h1 h2 => ?_
 simp only [List.getElem_set, List.getElem_map, List.getElem_range]
 by_cases e : k = i
 · subst e; simp
 · rw [if_neg e, if_neg (fun h => e h.symm)]
end
end Go.Proofs.Ytblhmdhfhaencaa
