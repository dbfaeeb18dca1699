/-
  Flat: ir.Defines; slices of instructions: IndexFunc, ContainsFunc, whatever the function is that asks.
-/
import Derived.Test.YtfpbfdkjcmlimaaGreatFH
import Derived.Test.YtfpbfdkjcmlimaaGreatMix
import Derived.Deep.DeepAppendRoom
import Derived.Maps.AppendAt
namespace Go.Proofs.YtfpbfdkjcmlimaaGreat
set_option linter.unusedSimpArgs false
set_option linter.unusedVariables false
set_option linter.unusedSectionVars false
set_option maxRecDepth 100000
set_option maxHeartbeats 40000000
section
open Go.RowKit
def definesV (i : InsD) : Int := if isInsB i then i.dst else 0
theorem defines_any (i : InsD) (aa : Option Addr) (na ca : Nat) (w : World) (h : Ints w aa na i.args) (h1 : I64 i.a) (h2 : I64 i.b) (h3 : I64 i.imm) (h4 : I64 i.callee) :
    Calls Tryz.prog 56 #[insV i aa na ca] w fun e w' => e = .returned (.int .i64 (definesV i)) ∧ Below w.heap.size w w' := by
  have H := Lib.hid h
  have H1 := Lib.hid h1
  have H2 := Lib.hid h2
  have H3 := Lib.hid h3
  have H4 := Lib.hid h4
  clear h h1 h2 h3 h4
  go_enter Tryz.func56, Tryz.ntmps56
  go_wp2_with (first
    | (go_at_call 73
       refine (isIns_any i aa na ca _ (H.out.ext (ext_alloc _ _)) H1.out H2.out H3.out H4.out).mono ?_
       rintro e w1 ⟨rfl, hb1⟩
       have hx := hb1.block w.heap.size (by simp)
       rw [heap_alloc_new w _] at hx
       have c1 : w1.cell? ⟨w.heap.size, 1, none⟩ = some (.int .i64 i.dst) := by rw [cell_of_row _ _ _ _ _ _ hx]; rfl
       have HB1 := Lib.hid (ext_trans (ext_alloc w _) hb1)
       clear hx hb1))
  all_goals
    go_ret
    exact ⟨ret_int (by go_light; cases hq : isInsB i <;> simp_all [definesV]), HB1.out⟩
structure InsR where
  d : InsD
  aa : Option Addr
  na : Nat
  ca : Nat
def insC (r : InsR) : List Value := [.int .i64 r.d.op, .int .i64 r.d.dst, .int .i64 r.d.a, .int .i64 r.d.b, .int .i64 r.d.imm, .int .i64 r.d.callee, .slice r.aa r.na r.ca, .int .i64 r.d.many]
theorem insC_len (r : InsR) : (insC r).length = 8 := rfl
def InsOK (w : World) (r : InsR) : Prop := Ints w r.aa r.na r.d.args ∧ r.na ≤ r.ca ∧ I64 r.d.op ∧ I64 r.d.dst ∧ I64 r.d.a ∧ I64 r.d.b ∧ I64 r.d.imm ∧ I64 r.d.callee ∧ I64 r.d.many
theorem InsOK.ext {w w' : World} {r : InsR} (h : InsOK w r) (hb : Below w.heap.size w w') : InsOK w' r := ⟨h.1.ext hb, h.2⟩
def InsS (w : World) (a : Option Addr) (n : Nat) (rs : List InsR) : Prop := Recs 8 insC w a n rs ∧ ∀ r ∈ rs, InsOK w r
theorem InsS.ext {w w' : World} {a : Option Addr} {n : Nat} {rs : List InsR} (h : InsS w a n rs) (hb : Below w.heap.size w w') : InsS w' a n rs :=
  ⟨h.1.ext insC_len hb, fun r hr => (h.2 r hr).ext hb⟩
theorem InsS.cells {w : World} {a : Option Addr} {n : Nat} {rs : List InsR} (h : InsS w a n rs) {k : Nat} (hk : k < n) : ∃ r b o, rs[k]? = some r ∧ InsOK w r ∧ a = some ⟨b, o, none⟩ ∧
    w.cell? ⟨b, o + k * 8, none⟩ = some (.int .i64 r.d.op) ∧ w.cell? ⟨b, o + k * 8 + 1, none⟩ = some (.int .i64 r.d.dst) ∧ w.cell? ⟨b, o + k * 8 + 2, none⟩ = some (.int .i64 r.d.a) ∧ w.cell? ⟨b, o + k * 8 + 3, none⟩ = some (.int .i64 r.d.b) ∧
    w.cell? ⟨b, o + k * 8 + 4, none⟩ = some (.int .i64 r.d.imm) ∧ w.cell? ⟨b, o + k * 8 + 5, none⟩ = some (.int .i64 r.d.callee) ∧ w.cell? ⟨b, o + k * 8 + 6, none⟩ = some (.slice r.aa r.na r.ca) ∧ w.cell? ⟨b, o + k * 8 + 7, none⟩ = some (.int .i64 r.d.many) := by
  have hk' : k < rs.length := by rw [h.1.1]; exact hk
  obtain ⟨r, hr⟩ : ∃ r, rs[k]? = some r := ⟨rs[k], List.getElem?_eq_getElem hk'⟩
  obtain ⟨b, o, e, hc⟩ := h.1.2.2 k r hr
  exact ⟨r, b, o, hr, h.2 r (List.mem_of_getElem? hr), e, hc 0 (by omega), hc 1 (by omega), hc 2 (by omega), hc 3 (by omega), hc 4 (by omega), hc 5 (by omega), hc 6 (by omega), hc 7 (by omega)⟩
abbrev insVR (r : InsR) : Value := insV r.d r.aa r.na r.ca
theorem indexIns_any (F : Nat) (caps : Array Value) (eF : ∀ args w, (callFunc F args).run Tryz.prog w = .ok (.enter F args) w) (p : InsR → Bool) (a : Option Addr) (n c : Nat) (rs : List InsR) (w : World)
    (hp : ∀ (r : InsR) (W : World), r ∈ rs → Below w.heap.size w W → Calls Tryz.prog F (#[insVR r] ++ caps) W fun e W' => e = .returned (.bool (p r)) ∧ Below W.heap.size W W') (h : InsS w a n rs) :
    Calls Tryz.prog 44 #[.slice a n c, .func (.func F) #[] caps] w fun e w' => e = .returned (.int .i64 (idxF p rs)) ∧ Below w.heap.size w w' := by
  have HL := Lib.hid h.1.1
  have hn := h.1.2.1
  have H := Lib.hid h
  have HP := Lib.hid hp
  clear h hp
  go_enter Tryz.func44, Tryz.ntmps44
  go_wp2
  go_loopw [5, 8] (fun _ i wr => ∃ (k : Nat), k ≤ n ∧ i = .int .i64 k ∧ Hid (∀ j y, j < k → rs[j]? = some y → p y = false) ∧ Hid (Below w.heap.size w wr)) (fun _ i _ => n - (intOf i).toNat)
  case atStart => exact ⟨0, by omega, rfl, fun j y hj => absurd hj (by omega), Below.refl _ _⟩
  case round =>
    obtain ⟨k, hk, rfl, HR, HB⟩ := hrel
    by_cases hlt : k < n
    · obtain ⟨r, b, o, hr, hok, rfl, c0, c1, c2, c3, c4, c5, c6, c7⟩ := (H.out.ext HB.out).cells hlt
      have HG := Lib.hid hr
      have HM := Lib.hid (List.mem_of_getElem? hr)
      clear hr hok
      by_cases hy : p r = true
      · have HE : Hid (idxF p rs = k) := idxF_found p rs k r HG.out hy HR.out
        go_wp2
        refine (HP.out r wr HM.out HB.out).mono ?_
        rintro e w' ⟨rfl, hb'⟩
        have HB' := Lib.hid (ext_trans HB.out hb')
        clear hb'
        rw [hy]
        go_wp2
        go_ret
        exact ⟨by rw [HE.out]; rfl, HB'.out⟩
      · have hy' : p r = false := by simpa using hy
        have HE : Hid (∀ j z, j < k + 1 → rs[j]? = some z → p z = false) := fun j z hj hz => by
          by_cases e : j = k
          · subst e
            rw [HG.out] at hz
            injection hz with hz
            subst hz
            exact hy'
          · exact HR.out j z (by omega) hz
        go_wp2
        refine (HP.out r wr HM.out HB.out).mono ?_
        rintro e w' ⟨rfl, hb'⟩
        have HB' := Lib.hid (ext_trans HB.out hb')
        clear hb'
        rw [hy']
        go_wp2
        go_roundw
        case rel => exact ⟨k + 1, by omega, by go_num, HE, HB'⟩
        case measure => simp [intOf]; omega
    · obtain rfl : k = n := by omega
      have HE : Hid (idxF p rs = -1) := idxF_none p rs (fun z hz => by
        obtain ⟨j, hj, e⟩ := List.mem_iff_getElem.1 hz
        exact HR.out j z (by rw [HL.out] at hj; exact hj) (by rw [List.getElem?_eq_getElem hj, e]))
      go_wp2
      go_ret
      exact ⟨by rw [HE.out]; rfl, HB.out⟩
theorem containsIns_any (F : Nat) (caps : Array Value) (eF : ∀ args w, (callFunc F args).run Tryz.prog w = .ok (.enter F args) w) (p : InsR → Bool) (a : Option Addr) (n c : Nat) (rs : List InsR) (w : World)
    (hp : ∀ (r : InsR) (W : World), r ∈ rs → Below w.heap.size w W → Calls Tryz.prog F (#[insVR r] ++ caps) W fun e W' => e = .returned (.bool (p r)) ∧ Below W.heap.size W W') (h : InsS w a n rs) :
    Calls Tryz.prog 28 #[.slice a n c, .func (.func F) #[] caps] w fun e w' => e = .returned (.bool (rs.any p)) ∧ Below w.heap.size w w' := by
  have HA := Lib.hid (idxF_any p rs)
  have hg := idxF_ge p rs
  have HP := Lib.hid hp
  have H := Lib.hid h
  clear hp h
  go_enter Tryz.func28, Tryz.ntmps28
  go_wp2_with (go_at_call 44; refine (indexIns_any F caps eF p a n c rs w HP.out H.out).mono ?_; rintro e w' ⟨rfl, hb'⟩; have HB' := Lib.hid hb'; clear hb')
  go_ret
  exact ⟨by rw [← HA.out]; rfl, HB'.out⟩
end

section
open Go.RowKit
structure Chg (S : Nat → Prop) (w w' : World) : Prop where
  os : w'.os = w.os
  tape : w'.tape = w.tape
  output : w'.output = w.output
  size : w.heap.size ≤ w'.heap.size
  block : ∀ k, k < w.heap.size → ¬ S k → w'.heap[k]? = w.heap[k]?
theorem Chg.refl (S : Nat → Prop) (w : World) : Chg S w w := ⟨rfl, rfl, rfl, Nat.le_refl _, fun _ _ _ => rfl⟩
theorem Chg.trans {S : Nat → Prop} {a b c : World} (h : Chg S a b) (k : Chg S b c) : Chg S a c :=
  ⟨k.os.trans h.os, k.tape.trans h.tape, k.output.trans h.output, Nat.le_trans h.size k.size, fun i hi hn => (k.block i (Nat.lt_of_lt_of_le hi h.size) hn).trans (h.block i hi hn)⟩
theorem Chg.drewN {S : Nat → Prop} {a w : World} (h : Chg S a w) (n : Nat) : Chg S a (w.drewN n) := ⟨h.os, h.tape, h.output, h.size, h.block⟩
theorem Chg.grown {S : Nat → Prop} {a w w' : World} {row : Option Nat} (h : Chg S a w) (hg : w.grownBy w' row) (hr : ∀ k, row = some k → S k ∨ a.heap.size ≤ k) : Chg S a w' :=
  ⟨hg.os.trans h.os, hg.tape.trans h.tape, hg.output.trans h.output, Nat.le_trans h.size hg.size, fun k hk hn => (hg.block k (Nat.lt_of_lt_of_le hk h.size) (fun e => by
    rcases hr k e.symm with h1 | h1
    · exact hn h1
    · omega)).trans (h.block k hk hn)⟩
theorem Chg.alloc {S : Nat → Prop} {a w : World} (h : Chg S a w) (o : Obj) : Chg S a (w.alloc o) := h.grown (World.grownBy_alloc w o none) (fun k e => by cases e)
theorem Chg.setCell {S : Nat → Prop} {a w : World} (h : Chg S a w) {p : Addr} (hp : S p.block ∨ a.heap.size ≤ p.block) (u : Value) : Chg S a (w.setCell p u) :=
  ⟨h.os, h.tape, h.output, Nat.le_trans h.size (by simp [World.setCell]), fun k hk hn => (Below.heap_setCell w p u k (fun e => by
    subst e
    rcases hp with h1 | h1
    · exact hn h1
    · omega)).trans (h.block k hk hn)⟩
theorem Chg.mono {S T : Nat → Prop} {a w : World} (h : Chg S a w) (hs : ∀ k, S k → T k) : Chg T a w := ⟨h.os, h.tape, h.output, h.size, fun k hk hn => h.block k hk (fun hk' => hn (hs k hk'))⟩
theorem Chg.below {S : Nat → Prop} {a w : World} {B : Nat} (h : Chg S a w) (hB : B ≤ a.heap.size) (hs : ∀ k, S k → B ≤ k) : Below B a w :=
  ⟨h.os, h.tape, h.output, h.size, fun k hk => h.block k (by omega) (fun hk' => by have := hs k hk'; omega)⟩
theorem Chg.of_ext {S : Nat → Prop} {a b c : World} (h : Chg S a b) (hb : Below b.heap.size b c) : Chg S a c := h.trans ⟨hb.os, hb.tape, hb.output, hb.size, fun k hk _ => hb.block k hk⟩
theorem ownsRow_chg {S : Nat → Prop} {w w' : World} {base : Nat} {e : TypeId} {size : Nat} {v : Value} {n : Nat} {xs : List Value} (h : w.ownsRow base e size v n xs) (hc : Chg S w w') (hn : ∀ g, v.ownBlock = some g → ¬ S g) : w'.ownsRow base e size v n xs := by
  refine ⟨h.1, ?_⟩
  rcases h.2 with h2 | ⟨g, cap, cur, rfl, hb, hh, r⟩
  · exact .inl h2
  · exact .inr ⟨g, cap, cur, rfl, hb, (hc.block g (Array.getElem?_eq_some_iff.1 hh).1 (hn g rfl)).trans hh, r⟩
section
variable {P : Program} {Q : Exit → Act → World → Prop}
end
def SepF (v v' : Value) : Prop := ∀ g, v.ownBlock = some g → v'.ownBlock ≠ some g
end
end Go.Proofs.YtfpbfdkjcmlimaaGreat
