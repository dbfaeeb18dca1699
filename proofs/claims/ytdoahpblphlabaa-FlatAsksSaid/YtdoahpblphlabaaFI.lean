/-
  Flat: ir.Defines; slices of instructions: IndexFunc, ContainsFunc, whatever the function is that asks.
-/
import Derived.Test.YtdoahpblphlabaaFH
namespace Go.Proofs.Ytdoahpblphlabaa
set_option linter.unusedSimpArgs false
set_option linter.unusedVariables false
open Go.RowKit

def definesV (i : InsD) : Int := if isInsB i then i.dst else 0
set_option maxHeartbeats 1000000 in
theorem defines_any (i : InsD) (aa : Option Addr) (na ca : Nat) (w : World) (h : Ints w aa na i.args) (h1 : I64 i.a) (h2 : I64 i.b) (h3 : I64 i.imm) (h4 : I64 i.callee) :
    Calls Try.prog 73 #[insV i aa na ca] w fun e w' => e = .returned (.int .i64 (definesV i)) ∧ Below w.heap.size w w' := by
  have H := Lib.hid h
  have H1 := Lib.hid h1
  have H2 := Lib.hid h2
  have H3 := Lib.hid h3
  have H4 := Lib.hid h4
  clear h h1 h2 h3 h4
  go_enter Try.func73, Try.ntmps73
  go_wp2_with (first
    | (go_at_call 82
       refine (isIns_any i aa na ca _ (H.out.ext (ext_alloc _ _)) H1.out H2.out H3.out H4.out).mono ?_
       rintro e w1 ⟨rfl, hb1⟩
       have hx := hb1.block w.heap.size (by simp)
       rw [heap_alloc_new w _] at hx
       have c1 : w1.cell? ⟨w.heap.size, 1, none⟩ = some (.int .i64 i.dst) := by rw [cell_of_row _ _ _ _ _ _ hx]; rfl
       have HB1 := Lib.hid (ext_trans (ext_alloc w _) hb1)
       clear hx hb1))
  all_goals
    go_ret
    exact ⟨ret_int (by go_light; cases hq : isInsB i <;> simp_all [definesV]), HB1.out⟩

/-- an instruction as it lies in memory, with its slice of arguments -/
structure InsR where
  d : InsD
  aa : Option Addr
  na : Nat
  ca : Nat
def insC (r : InsR) : List Value := [.int .i64 r.d.op, .int .i64 r.d.dst, .int .i64 r.d.a, .int .i64 r.d.b, .int .i64 r.d.imm, .int .i64 r.d.callee, .slice r.aa r.na r.ca, .int .i64 r.d.many]
theorem insC_len (r : InsR) : (insC r).length = 8 := rfl
def InsOK (w : World) (r : InsR) : Prop := Ints w r.aa r.na r.d.args ∧ r.na ≤ r.ca ∧ I64 r.d.op ∧ I64 r.d.dst ∧ I64 r.d.a ∧ I64 r.d.b ∧ I64 r.d.imm ∧ I64 r.d.callee ∧ I64 r.d.many
theorem InsOK.ext {w w' : World} {r : InsR} (h : InsOK w r) (hb : Below w.heap.size w w') : InsOK w' r := ⟨h.1.ext hb, h.2⟩
/-- a slice of instructions -/
def InsS (w : World) (a : Option Addr) (n : Nat) (rs : List InsR) : Prop := Recs 8 insC w a n rs ∧ ∀ r ∈ rs, InsOK w r
theorem InsS.ext {w w' : World} {a : Option Addr} {n : Nat} {rs : List InsR} (h : InsS w a n rs) (hb : Below w.heap.size w w') : InsS w' a n rs :=
  ⟨h.1.ext insC_len hb, fun r hr => (h.2 r hr).ext hb⟩
theorem InsS.cells {w : World} {a : Option Addr} {n : Nat} {rs : List InsR} (h : InsS w a n rs) {k : Nat} (hk : k < n) : ∃ r b o, rs[k]? = some r ∧ InsOK w r ∧ a = some ⟨b, o, none⟩ ∧
    w.cell? ⟨b, o + k * 8, none⟩ = some (.int .i64 r.d.op) ∧ w.cell? ⟨b, o + k * 8 + 1, none⟩ = some (.int .i64 r.d.dst) ∧ w.cell? ⟨b, o + k * 8 + 2, none⟩ = some (.int .i64 r.d.a) ∧ w.cell? ⟨b, o + k * 8 + 3, none⟩ = some (.int .i64 r.d.b) ∧
    w.cell? ⟨b, o + k * 8 + 4, none⟩ = some (.int .i64 r.d.imm) ∧ w.cell? ⟨b, o + k * 8 + 5, none⟩ = some (.int .i64 r.d.callee) ∧ w.cell? ⟨b, o + k * 8 + 6, none⟩ = some (.slice r.aa r.na r.ca) ∧ w.cell? ⟨b, o + k * 8 + 7, none⟩ = some (.int .i64 r.d.many) := by
  have hk' : k < rs.length := by rw [h.1.1]; exact hk
  obtain ⟨r, hr⟩ : ∃ r, rs[k]? = some r := ⟨rs[k], List.getElem?_eq_getElem hk'⟩
  obtain ⟨b, o, e, hc⟩ := h.1.2.2 k r hr
  exact ⟨r, b, o, hr, h.2 r (List.mem_of_getElem? hr), e, hc 0 (by omega), hc 1 (by omega), hc 2 (by omega), hc 3 (by omega), hc 4 (by omega), hc 5 (by omega), hc 6 (by omega), hc 7 (by omega)⟩
abbrev insVR (r : InsR) : Value := insV r.d r.aa r.na r.ca

set_option maxHeartbeats 1000000 in
theorem indexIns_any (F : Nat) (caps : Array Value) (eF : ∀ args w, (callFunc F args).run Try.prog w = .ok (.enter F args) w) (p : InsR → Bool) (a : Option Addr) (n c : Nat) (rs : List InsR) (w : World)
    (hp : ∀ (r : InsR) (W : World), r ∈ rs → Below w.heap.size w W → Calls Try.prog F (#[insVR r] ++ caps) W fun e W' => e = .returned (.bool (p r)) ∧ Below W.heap.size W W') (h : InsS w a n rs) :
    Calls Try.prog 57 #[.slice a n c, .func (.func F) #[] caps] w fun e w' => e = .returned (.int .i64 (idxF p rs)) ∧ Below w.heap.size w w' := by
  have HL := Lib.hid h.1.1
  have hn := h.1.2.1
  have H := Lib.hid h
  have HP := Lib.hid hp
  clear h hp
  go_enter Try.func57, Try.ntmps57
  go_wp2
  go_loopw [5, 8] (fun _ i wr => ∃ (k : Nat), k ≤ n ∧ i = .int .i64 k ∧ Hid (∀ j y, j < k → rs[j]? = some y → p y = false) ∧ Hid (Below w.heap.size w wr)) (fun _ i _ => n - (intOf i).toNat)
  case atStart => exact ⟨0, by omega, rfl, fun j y hj => absurd hj (by omega), Below.refl _ _⟩
  case round =>
    obtain ⟨k, hk, rfl, HR, HB⟩ := hrel
    by_cases hlt : k < n
    · obtain ⟨r, b, o, hr, hok, rfl, c0, c1, c2, c3, c4, c5, c6, c7⟩ := (H.out.ext HB.out).cells hlt
      have HG := Lib.hid hr
      have HM := Lib.hid (List.mem_of_getElem? hr)
      clear hr hok
      by_cases hy : p r = true
      · have HE : Hid (idxF p rs = k) := idxF_found p rs k r HG.out hy HR.out
        go_wp2
        refine (HP.out r wr HM.out HB.out).mono ?_
        rintro e w' ⟨rfl, hb'⟩
        have HB' := Lib.hid (ext_trans HB.out hb')
        clear hb'
        rw [hy]
        go_wp2
        go_ret
        exact ⟨by rw [HE.out]; rfl, HB'.out⟩
      · have hy' : p r = false := by simpa using hy
        have HE : Hid (∀ j z, j < k + 1 → rs[j]? = some z → p z = false) := fun j z hj hz => by
          by_cases e : j = k
          · subst e
            rw [HG.out] at hz
            injection hz with hz
            subst hz
            exact hy'
          · exact HR.out j z (by omega) hz
        go_wp2
        refine (HP.out r wr HM.out HB.out).mono ?_
        rintro e w' ⟨rfl, hb'⟩
        have HB' := Lib.hid (ext_trans HB.out hb')
        clear hb'
        rw [hy']
        go_wp2
        go_roundw
        case rel => exact ⟨k + 1, by omega, by go_num, HE, HB'⟩
        case measure => simp [intOf]; omega
    · obtain rfl : k = n := by omega
      have HE : Hid (idxF p rs = -1) := idxF_none p rs (fun z hz => by
        obtain ⟨j, hj, e⟩ := List.mem_iff_getElem.1 hz
        exact HR.out j z (by rw [HL.out] at hj; exact hj) (by rw [List.getElem?_eq_getElem hj, e]))
      go_wp2
      go_ret
      exact ⟨by rw [HE.out]; rfl, HB.out⟩
theorem containsIns_any (F : Nat) (caps : Array Value) (eF : ∀ args w, (callFunc F args).run Try.prog w = .ok (.enter F args) w) (p : InsR → Bool) (a : Option Addr) (n c : Nat) (rs : List InsR) (w : World)
    (hp : ∀ (r : InsR) (W : World), r ∈ rs → Below w.heap.size w W → Calls Try.prog F (#[insVR r] ++ caps) W fun e W' => e = .returned (.bool (p r)) ∧ Below W.heap.size W W') (h : InsS w a n rs) :
    Calls Try.prog 39 #[.slice a n c, .func (.func F) #[] caps] w fun e w' => e = .returned (.bool (rs.any p)) ∧ Below w.heap.size w w' := by
  have HA := Lib.hid (idxF_any p rs)
  have hg := idxF_ge p rs
  have HP := Lib.hid hp
  have H := Lib.hid h
  clear hp h
  go_enter Try.func39, Try.ntmps39
  go_wp2_with (go_at_call 57; refine (indexIns_any F caps eF p a n c rs w HP.out H.out).mono ?_; rintro e w' ⟨rfl, hb'⟩; have HB' := Lib.hid hb'; clear hb')
  go_ret
  exact ⟨by rw [← HA.out]; rfl, HB'.out⟩
end Go.Proofs.Ytdoahpblphlabaa
