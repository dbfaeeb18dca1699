/-
  law17's own great, with all bounds that it gives.
-/
import Derived.Test.YtblhmdhfhaencaaGreatLX
import Derived.Test.YtblhmdhfhaencaaGreatTH
import Derived.Test.YtblhmdhfhaencaaGreatMark
import Derived.Test.YtblhmdhfhaencaaGreatTI
import Derived.Test.YtblhmdhfhaencaaGreatTR
import Derived.Test.YtblhmdhfhaencaaGreatTJ
namespace Go.Proofs.YtblhmdhfhaencaaGreat
set_option linter.unusedSimpArgs false
set_option linter.unusedVariables false
set_option linter.unusedSectionVars false
set_option maxRecDepth 100000
set_option maxHeartbeats 40000000
section
open Go.RowKit
attribute [local go_sem] Oper.semAt_some wide_fn wide_depth wide_fnR wide_depthR
theorem great17_any2 (pa : Option Addr) (pn pc : Nat) (hpn : pn ≤ 17592186044416) (ba : Option Addr) (bn bc : Nat) (bs : List BlkR) (a : Option Addr) (n c : Nat) (ls : List TileR) (w : World) (h : BlksR w ba bn bs) (ht : TilesOK w a n ls) :
    Calls Tryz.prog 32 #[funcV pa pn pc ba bn bc, .slice a n c] w (GreatPost2 bn pn bs n ls 40 w) := by
  have HX := Lib.hid h
  have HT := Lib.hid ht
  have hn := ht.1.2.1
  have HLN := Lib.hid ht.1.1
  have hbn := h.1.2.1
  clear h ht
  go_enter Tryz.func32, Tryz.ntmps32
  go_wp2
  go_loopw [5, 6] (fun s5 s6 wr => ∃ (i : Nat) (acc : Nat), s6 = .int .i64 i ∧ s5 = .int .i64 acc ∧ i ≤ n ∧ acc = n + totN ls i ∧ acc ≤ 35184372088832 ∧ Hid (wr = w.alloc (funcO pa pn pc ba bn bc))) (fun _ s6 _ => n - (intOf s6).toNat)
  case atStart => exact ⟨0, n, rfl, rfl, by omega, by simp [totN], by omega, rfl⟩
  case round =>
    obtain ⟨i, acc, rfl, rfl, hi, hacc, hab, HW⟩ := hrel
    have HBw : Hid (Below w.heap.size w wr) := by rw [Hid, HW.out]; exact ext_alloc _ _
    have hk0 : wr.heap[w.heap.size]? = some (funcO pa pn pc ba bn bc) := by rw [HW.out]; exact heap_alloc_new _ _
    have HK := Lib.hid hk0
    have k0 : wr.cell? ⟨w.heap.size, 0, none⟩ = some (.slice pa pn pc) := by rw [cell_of_row _ _ _ _ _ _ hk0]; rfl
    have k1 : wr.cell? ⟨w.heap.size, 1, none⟩ = some (.slice ba bn bc) := by rw [cell_of_row _ _ _ _ _ _ hk0]; rfl
    clear hk0
    by_cases hlt : i < n
    · have hlt' : (i : Int) < (n : Int) := by omega
      have hd1 : decide ((i : Int) < (n : Int)) = true := by simpa using hlt
      by_cases hle : acc ≤ 120
      · have hd2 : decide ((acc : Int) ≤ 120) = true := by simp; omega
        obtain ⟨t, b, o, hlk, ⟨hI, _⟩, rfl, c0, c1, c2⟩ := (HT.out.ext HBw.out).cells hlt
        have hst := totN_step ls i t hlk
        have hb := hI.2.1
        clear c0 c1 hlk hI
        go_wp2
        go_roundw
        case rel => exact ⟨i + 1, n + totN ls i + t.bn, by go_num, by go_num, by omega, by omega, by omega, HW⟩
        case measure => simp [intOf]; omega
      · have hd2 : decide ((acc : Int) ≤ 120) = false := by simp; omega
        have hgt : (120 : Int) < (acc : Int) := by omega
        clear hacc
        by_cases q1 : bn ≤ 40
        · have e1 : (bn : Int) ≤ 40 := by omega
          go_wp2_with (
            (go_at_call 51
             refine (funcOf_any2 pa pn pc hpn ba bn bc bs 2000 (by omega) (by omega) wr (HX.out.ext HBw.out)).mono ?_
             rintro e w2 ⟨z, rfl, hz0, hz1, hz2, hb2⟩
             have HB2 := Lib.hid (ext_trans HBw.out hb2)
             have HZ := Lib.hid hz2
             clear hb2 hz2))
          all_goals
            go_ret
            first
              | exact ⟨_, rfl, HBw.out, fun h => by first | cases h | (simp at h; done) | (simp at h; omega)⟩
              | exact ⟨_, rfl, HB2.out, fun h => by first | cases h | (simp at h; done) | (simp at h; omega)⟩
        · by_cases q2 : bn ≤ 200
          · have e1 : (40 : Int) < (bn : Int) := by omega
            have e2 : (bn : Int) ≤ 200 := by omega
            go_wp2_with (
              (go_at_call 51
               refine (funcOf_any2 pa pn pc hpn ba bn bc bs 2000 (by omega) (by omega) wr (HX.out.ext HBw.out)).mono ?_
               rintro e w2 ⟨z, rfl, hz0, hz1, hz2, hb2⟩
               have HB2 := Lib.hid (ext_trans HBw.out hb2)
               have HZ := Lib.hid hz2
               clear hb2 hz2))
            all_goals
              go_ret
              first
                | exact ⟨_, rfl, HBw.out, fun h => by first | cases h | (simp at h; done) | (simp at h; omega)⟩
                | exact ⟨_, rfl, HB2.out, fun h => by first | cases h | (simp at h; done) | (simp at h; omega)⟩
          · have e1 : (40 : Int) < (bn : Int) := by omega
            have e2 : (200 : Int) < (bn : Int) := by omega
            go_wp2_with (
              (go_at_call 51
               refine (funcOf_any2 pa pn pc hpn ba bn bc bs 2000 (by omega) (by omega) wr (HX.out.ext HBw.out)).mono ?_
               rintro e w2 ⟨z, rfl, hz0, hz1, hz2, hb2⟩
               have HB2 := Lib.hid (ext_trans HBw.out hb2)
               have HZ := Lib.hid hz2
               clear hb2 hz2))
            all_goals
              go_ret
              first
                | exact ⟨_, rfl, HBw.out, fun h => by first | cases h | (simp at h; done) | (simp at h; omega)⟩
                | exact ⟨_, rfl, HB2.out, fun h => by first | cases h | (simp at h; done) | (simp at h; omega)⟩
    · obtain rfl : i = n := by omega
      have HTOT : Hid (totN ls i = totL (tdOf ls)) := totN_all HT.out
      by_cases hle : acc ≤ 120
      · have hd2 : (acc : Int) ≤ 120 := by omega
        by_cases q1 : bn ≤ 40
        · have e1 : (bn : Int) ≤ 40 := by omega
          go_wp2_with (
            (go_at_call 51
             refine (funcOf_any2 pa pn pc hpn ba bn bc bs 2000 (by omega) (by omega) wr (HX.out.ext HBw.out)).mono ?_
             rintro e w2 ⟨z, rfl, hz0, hz1, hz2, hb2⟩
             have HB2 := Lib.hid (ext_trans HBw.out hb2)
             have HZ := Lib.hid hz2
             clear hb2 hz2))
          all_goals
            go_ret
            first
              | exact ⟨_, rfl, HBw.out, fun h => by first | cases h | (simp at h; done) | (simp at h; omega)⟩
              | exact ⟨_, rfl, HB2.out, fun h => ⟨by omega, by have := HTOT.out; omega, HZ.out (by first | (simp at h; done) | (simp at h; omega))⟩⟩
        · by_cases q2 : bn ≤ 200
          · have e1 : (40 : Int) < (bn : Int) := by omega
            have e2 : (bn : Int) ≤ 200 := by omega
            go_wp2_with (
              (go_at_call 51
               refine (funcOf_any2 pa pn pc hpn ba bn bc bs 2000 (by omega) (by omega) wr (HX.out.ext HBw.out)).mono ?_
               rintro e w2 ⟨z, rfl, hz0, hz1, hz2, hb2⟩
               have HB2 := Lib.hid (ext_trans HBw.out hb2)
               have HZ := Lib.hid hz2
               clear hb2 hz2))
            all_goals
              go_ret
              first
                | exact ⟨_, rfl, HBw.out, fun h => by first | cases h | (simp at h; done) | (simp at h; omega)⟩
                | exact ⟨_, rfl, HB2.out, fun h => ⟨by omega, by have := HTOT.out; omega, HZ.out (by first | (simp at h; done) | (simp at h; omega))⟩⟩
          · have e1 : (40 : Int) < (bn : Int) := by omega
            have e2 : (200 : Int) < (bn : Int) := by omega
            go_wp2_with (
              (go_at_call 51
               refine (funcOf_any2 pa pn pc hpn ba bn bc bs 2000 (by omega) (by omega) wr (HX.out.ext HBw.out)).mono ?_
               rintro e w2 ⟨z, rfl, hz0, hz1, hz2, hb2⟩
               have HB2 := Lib.hid (ext_trans HBw.out hb2)
               have HZ := Lib.hid hz2
               clear hb2 hz2))
            all_goals
              go_ret
              first
                | exact ⟨_, rfl, HBw.out, fun h => by first | cases h | (simp at h; done) | (simp at h; omega)⟩
                | exact ⟨_, rfl, HB2.out, fun h => ⟨by omega, by have := HTOT.out; omega, HZ.out (by first | (simp at h; done) | (simp at h; omega))⟩⟩
      · have hd2 : (120 : Int) < (acc : Int) := by omega
        clear hacc
        by_cases q1 : bn ≤ 40
        · have e1 : (bn : Int) ≤ 40 := by omega
          go_wp2_with (
            (go_at_call 51
             refine (funcOf_any2 pa pn pc hpn ba bn bc bs 2000 (by omega) (by omega) wr (HX.out.ext HBw.out)).mono ?_
             rintro e w2 ⟨z, rfl, hz0, hz1, hz2, hb2⟩
             have HB2 := Lib.hid (ext_trans HBw.out hb2)
             have HZ := Lib.hid hz2
             clear hb2 hz2))
          all_goals
            go_ret
            first
              | exact ⟨_, rfl, HBw.out, fun h => by first | cases h | (simp at h; done) | (simp at h; omega)⟩
              | exact ⟨_, rfl, HB2.out, fun h => by first | cases h | (simp at h; done) | (simp at h; omega)⟩
        · by_cases q2 : bn ≤ 200
          · have e1 : (40 : Int) < (bn : Int) := by omega
            have e2 : (bn : Int) ≤ 200 := by omega
            go_wp2_with (
              (go_at_call 51
               refine (funcOf_any2 pa pn pc hpn ba bn bc bs 2000 (by omega) (by omega) wr (HX.out.ext HBw.out)).mono ?_
               rintro e w2 ⟨z, rfl, hz0, hz1, hz2, hb2⟩
               have HB2 := Lib.hid (ext_trans HBw.out hb2)
               have HZ := Lib.hid hz2
               clear hb2 hz2))
            all_goals
              go_ret
              first
                | exact ⟨_, rfl, HBw.out, fun h => by first | cases h | (simp at h; done) | (simp at h; omega)⟩
                | exact ⟨_, rfl, HB2.out, fun h => by first | cases h | (simp at h; done) | (simp at h; omega)⟩
          · have e1 : (40 : Int) < (bn : Int) := by omega
            have e2 : (200 : Int) < (bn : Int) := by omega
            go_wp2_with (
              (go_at_call 51
               refine (funcOf_any2 pa pn pc hpn ba bn bc bs 2000 (by omega) (by omega) wr (HX.out.ext HBw.out)).mono ?_
               rintro e w2 ⟨z, rfl, hz0, hz1, hz2, hb2⟩
               have HB2 := Lib.hid (ext_trans HBw.out hb2)
               have HZ := Lib.hid hz2
               clear hb2 hz2))
            all_goals
              go_ret
              first
                | exact ⟨_, rfl, HBw.out, fun h => by first | cases h | (simp at h; done) | (simp at h; omega)⟩
                | exact ⟨_, rfl, HB2.out, fun h => by first | cases h | (simp at h; done) | (simp at h; omega)⟩
end

section
open Go.RowKit
def OwnR {α : Type} (e : TypeId) (size : Nat) (cs : α → List Value) (w : World) (base : Nat) (v : Value) (ls : List α) : Prop := w.ownsRow base e size v ls.length (ls.flatMap cs) ∧ ls.length ≤ 17592186044416
section
variable {α : Type} {e : TypeId} {size : Nat} {cs : α → List Value} {w w' : World} {base base' : Nat} {v : Value} {ls : List α}
theorem OwnR.nil (e : TypeId) (size : Nat) (cs : α → List Value) (w : World) (base : Nat) : OwnR e size cs w base (.slice none 0 0) [] := ⟨World.ownsRow_nil _ _ _ _, by simp⟩
theorem OwnR.mono (h : OwnR e size cs w base v ls) (hb : base' ≤ base) : OwnR e size cs w base' v ls := by
  refine ⟨⟨h.1.1, ?_⟩, h.2⟩
  rcases h.1.2 with h0 | ⟨g, cap, cur, hv, h1, r⟩
  · exact .inl h0
  · exact .inr ⟨g, cap, cur, hv, Nat.le_trans hb h1, r⟩
theorem OwnR.kept {row : Option Nat} (h : OwnR e size cs w base v ls) (hg : w.grownBy w' row) (hne : v.ownBlock = none ∨ v.ownBlock ≠ row) : OwnR e size cs w' base v ls := ⟨h.1.kept hg hne, h.2⟩
theorem OwnR.ext (h : OwnR e size cs w base v ls) (hb : Below w.heap.size w w') : OwnR e size cs w' base v ls := by
  refine ⟨h.1.kept (row := none) ⟨hb.os, hb.tape, hb.output, hb.size, fun k hk _ => hb.block k hk⟩ ?_, h.2⟩
  cases h1 : v.ownBlock with
  | none => exact .inl rfl
  | some k => exact .inr (by simp)
theorem OwnR.form (h : OwnR e size cs w base v ls) : ∃ a c, v = .slice a ls.length c := by
  rcases h.1.2 with ⟨rfl, h0⟩ | ⟨g, cap, cur, hv, _⟩
  · have h0 : ls.length = 0 := h0
    rw [h0]
    exact ⟨none, 0, rfl⟩
  · exact ⟨_, _, hv⟩
theorem OwnR.recs {a : Option Addr} {n c : Nat} (hs : ∀ x, (cs x).length = size) (h : OwnR e size cs w base (.slice a n c) ls) : Recs size cs w a n ls := by
  obtain ⟨a', c', e1, e2, _⟩ := recs_of_own hs h.1 h.2
  injection e1 with h1 h2 h3
  subst h1 h2 h3
  exact e2
theorem OwnR.low {k : Nat} (h : OwnR e size cs w base v ls) (hk : v.ownBlock = some k) : base ≤ k ∧ k < w.heap.size := ⟨(h.1.lt k hk).1, (h.1.lt k hk).2⟩
theorem Steady.ownR (D base : Nat) (v : Value) (ls : List α) : Steady D (fun W => OwnR e size cs W base v ls) := (Steady.ownsRow _ _ _ _ _ _ _).and (Steady.pure _ _)
end
section
variable {P : Program}
end
end

section
open Go.RowKit
theorem part_int (cs : Array Value) (o : Nat) (v : Value) (w : World) (h : cs[o]? = some v) : (part 3 cs o).run Tryz.prog w = .ok v w := by
  have hu : (underlying 3).run Tryz.prog w = .ok (.int .i64) w := run_underlying Tryz.underlying3 w
  simp [part, isAgg, hu, h]
theorem eqFields3 (w : World) (d : Nat) (xs ys : Array Value) (fs : List Field) (n0 n1 n2 : String) (t0 t1 t2 : TypeId) (o0 o1 o2 : Nat) (hf : fs.map (fun f => (f.name, f.type, f.offset)) = [(n0, t0, o0), (n1, t1, o1), (n2, t2, o2)]) (h0 : n0 ≠ "_") (h1 : n1 ≠ "_") (h2 : n2 ≠ "_")
    (x0 y0 x1 y1 x2 y2 : Value) (b0 b1 b2 : Bool) (px0 : (part t0 xs o0).run Tryz.prog w = .ok x0 w) (py0 : (part t0 ys o0).run Tryz.prog w = .ok y0 w) (px1 : (part t1 xs o1).run Tryz.prog w = .ok x1 w) (py1 : (part t1 ys o1).run Tryz.prog w = .ok y1 w) (px2 : (part t2 xs o2).run Tryz.prog w = .ok x2 w) (py2 : (part t2 ys o2).run Tryz.prog w = .ok y2 w)
    (e0 : (Op.equalIn d t0 x0 y0).run Tryz.prog w = .ok b0 w) (e1 : (Op.equalIn d t1 x1 y1).run Tryz.prog w = .ok b1 w) (e2 : (Op.equalIn d t2 x2 y2).run Tryz.prog w = .ok b2 w) : (Op.eqFields d xs ys fs).run Tryz.prog w = .ok (b0 && (b1 && b2)) w := by
  match fs, hf with
  | [f, g, h], hf =>
    simp only [List.map_cons, List.map_nil, List.cons.injEq, Prod.mk.injEq, and_true] at hf
    obtain ⟨⟨rfl, rfl, rfl⟩, ⟨rfl, rfl, rfl⟩, ⟨rfl, rfl, rfl⟩⟩ := hf
    simp only [Op.eqFields, Sem.run_bind, Sem.run_ite, h0, h1, h2, ne_eq, not_false_eq_true, if_true, px0, py0, e0, Result.andThen_ok]
    cases b0 with
    | false => simp
    | true =>
      simp only [Sem.run_bind, px1, py1, e1, Result.andThen_ok, Sem.run_ite]
      cases b1 with
      | false => simp [h1, h2, px1, py1, e1]
      | true => cases b2 <;> simp [h1, h2, px1, py1, e1, px2, py2, e2]
end

section
open Go.RowKit Go.Shelf
attribute [local go_sem] Oper.semAt_some wide_fn wide_depth wide_fnR wide_depthR
theorem grown_below {a b : World} (h : Below a.heap.size a b) (row : Option Nat) : a.grownBy b row := ⟨h.os, h.tape, h.output, h.size, fun k hk _ => h.block k hk⟩
theorem grown_setRow (w : World) (g : Nat) (cs : Array Value) : w.grownBy (w.setRow g cs) (some g) := ⟨rfl, rfl, rfl, by simp [World.setRow], fun k _ hne => setRow_other w g k cs (fun e => hne (by rw [e]))⟩
end

section
open Go.RowKit Go.Shelf
structure RowH where
  r : RowD
  lv : Value
  en : Value
def csR (h : RowH) : List Value := [.int .i64 h.r.e.fr, .int .i64 h.r.e.arm, .int .i64 h.r.e.to, h.lv, h.en]
def RowsIn (W : World) (base : Nat) (v : Value) (hs : List RowH) : Prop :=
  OwnR 79 5 csR W base v hs ∧ ∀ h ∈ hs, OwnI W base h.lv h.r.lv ∧ OwnI W base h.en h.r.en ∧ (∀ q, h.lv.ownBlock = some q → v.ownBlock ≠ some q) ∧ ∀ q, h.en.ownBlock = some q → v.ownBlock ≠ some q
theorem kept_ne {o : Option Nat} {row : Option Nat} (h : ∀ q, o = some q → row ≠ some q) : o = none ∨ o ≠ row := by
  cases o with
  | none => exact .inl rfl
  | some q => exact .inr fun e => h q rfl e.symm
end
end Go.Proofs.YtblhmdhfhaencaaGreat
