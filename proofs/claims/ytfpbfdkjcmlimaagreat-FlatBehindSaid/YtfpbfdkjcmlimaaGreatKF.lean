/-
  Facts of a set that are so: known.with, known.at, known.of.
-/
import Derived.Test.YtfpbfdkjcmlimaaGreatKE
import Derived.Test.YtfpbfdkjcmlimaaGreatFlatBase
namespace Go.Proofs.YtfpbfdkjcmlimaaGreat
set_option linter.unusedSimpArgs false
set_option linter.unusedVariables false
set_option linter.unusedSectionVars false
set_option maxRecDepth 100000
set_option maxHeartbeats 40000000
section
open Go.RowKit
theorem SetI.left {α : Type} {enc : α → Value} {dec : Value → α} {one : Value} {w : World} {b r : Nat} {L R : List α} (h : SetI enc dec one w b r L R) : w.rangeLeft b r = R.length := by
  obtain ⟨es, clock, since, seen, c0, h1, _, _, _, _, h6, _, _, _, rfl⟩ := h
  simp [World.rangeLeft, h1, h6]
theorem own_cells {w : World} {base : Nat} {e : TypeId} {size : Nat} {v : Value} {n : Nat} {xs : List Value} (h : w.ownsRow base e size v n xs) {k : Nat} (hk : v.ownBlock = some k) : ∃ cs t fr, w.heap[k]? = some (.cells cs t fr) := by
  rcases h.2 with ⟨rfl, _⟩ | ⟨g, cap, cur, rfl, _, hh, _⟩
  · cases hk
  · simp only [Value.ownBlock, Option.some.injEq] at hk
    subst hk
    exact ⟨_, _, _, hh⟩
theorem SetM.not_own {α : Type} {enc : α → Value} {dec : Value → α} {one : Value} {w : World} {b : Nat} {L : List α} (h : SetM enc dec one w b L) {base : Nat} {e : TypeId} {size : Nat} {v : Value} {n : Nat} {xs : List Value} (h' : w.ownsRow base e size v n xs) : some b ≠ v.ownBlock := fun c => by
  obtain ⟨cs, t, fr, hc⟩ := own_cells h' c.symm
  obtain ⟨es, c, hb, _⟩ := h
  rw [hb] at hc
  cases hc
theorem SetI.not_own {α : Type} {enc : α → Value} {dec : Value → α} {one : Value} {w : World} {b r : Nat} {L R : List α} (h : SetI enc dec one w b r L R) {base : Nat} {e : TypeId} {size : Nat} {v : Value} {n : Nat} {xs : List Value} (h' : w.ownsRow base e size v n xs) : some b ≠ v.ownBlock ∧ some r ≠ v.ownBlock := by
  refine ⟨h.set.not_own h', fun c => ?_⟩
  obtain ⟨cs, t, fr, hc⟩ := own_cells h' c.symm
  obtain ⟨es, clock, since, seen, c0, h1, _, _, _, _, h6, _⟩ := h
  rw [h6] at hc
  cases hc
theorem cell_heap' {w w' : World} {b o : Nat} (h : w'.heap[b]? = w.heap[b]?) : w'.cell? ⟨b, o, none⟩ = w.cell? ⟨b, o, none⟩ := by
  unfold World.cell?
  simp only [h]
theorem withK_any (b : Nat) (L : List Fct) (sf q : Nat) (so : Fct → Bool) (w : World) (hS : FSet w b L) (hlen : L.length ≤ 1000000000000) (eF : ∀ args w, (callFunc sf args).run Tryz.prog w = .ok (.enter sf args) w)
    (hso : ∀ (x : Fct) (W : World), Below w.heap.size w W → Calls Tryz.prog sf #[fctV x, .pointer (some ⟨q, 0, none⟩)] W fun e W' => e = .returned (.bool (so x)) ∧ Below W.heap.size W W') :
    Calls Tryz.prog 70 #[.map (some b), .func (.func sf) #[] #[.pointer (some ⟨q, 0, none⟩)]] w fun e w' => ∃ v Out, e = .returned v ∧ OwnF w' w.heap.size v Out ∧ Out.Nodup ∧ (∀ y, y ∈ Out ↔ y ∈ L ∧ so y = true) ∧ Below w.heap.size w w' := by
  have HS := Lib.hid hS
  have HSO := Lib.hid hso
  have hlt := hS.lt
  clear hS hso
  go_enter Tryz.func70, Tryz.ntmps70
  go_wp2_with (
    (at_range
     refine wpList_rangeM rfl _ rfl mapT HS.out rfl ?_
     intro w0 hi hb hz
     have HI := Lib.hid hi
     have HB := Lib.hid hb
     clear hi hb hz))
  go_frame
  go_loopw [4, 5] (fun v _ wr => ∃ R Out, Hid (FIter wr b w.heap.size L R) ∧ Hid (OwnF wr w.heap.size v Out) ∧ Hid (Out.Nodup) ∧ Hid (∀ y, y ∈ Out ↔ y ∈ L ∧ y ∉ R ∧ so y = true) ∧ Hid (Below w.heap.size w wr)) (fun _ _ wr => wr.rangeLeft b w.heap.size)
  case atStart => exact ⟨L, [], HI.out, OwnR.nil _ _ _ _ _, List.nodup_nil, fun y => ⟨fun h => absurd h (by simp), fun h => absurd h.1 h.2.1⟩, HB.out⟩
  case round =>
    obtain ⟨R, Out, HIr, HO, HN, HM, HBr⟩ := hrel
    have HLen : Hid (Out.length ≤ 1000000000000) := Nat.le_trans (nodup_length_le HN.out fun x hx => ((HM.out x).1 hx).1) hlen
    have HLT := Lib.hid (SetI.left HIr.out)
    go_upto_region 3 with (
      (at_next
       refine wpList_nextM rfl _ rfl rfl HIr.out (fun h0 => ?_) (fun x R' w1 hx hR' hR hi hg hz hen => ?_)))
    · subst h0
      have HM2 : Hid (∀ y, y ∈ Out ↔ y ∈ L ∧ so y = true) := fun y => by rw [HM.out]; simp
      clear HLT HLen HM HIr
      go_wp2
      go_ret
      exact ⟨_, Out, rfl, HO.out, HN.out, HM2.out, HBr.out⟩
    · have HX := Lib.hid hx
      have HXL := Lib.hid (HIr.out.sub.2 _ hx)
      have HR' := Lib.hid hR'
      have HI1 := Lib.hid hi
      have HO1 := Lib.hid (HO.out.kept hg (by right; exact fun e => (HIr.out.not_own HO.out.1).2 e.symm))
      have HB1 : Hid (Below w.heap.size w w1) := HBr.out.grown hg HBr.out.size (fun k e => by injection e with e; omega)
      have HRL := Lib.hid hR
      clear hx hR' hi hg hz hR HO HIr HBr
      obtain ⟨v, s, n⟩ := x
      go_wp2
      refine (HSO.out (v, s, n) _ (HB1.out.trans (Below.mono (ext_alloc _ _) HB1.out.size))).mono ?_
      rintro e w2 ⟨rfl, hb2⟩
      have hb2' := ext_trans (ext_alloc w1 _) hb2
      have HI2 := Lib.hid (HI1.out.ext hb2')
      have HO2 := Lib.hid (HO1.out.ext hb2')
      have HB2 : Hid (Below w.heap.size w w2) := HB1.out.trans (Below.mono hb2' HB1.out.size)
      have HV2 := Lib.hid (block_ext hb2 (heap_alloc_new w1 _))
      clear hb2 hb2' HI1 HO1 HB1
      cases hxs : so (v, s, n) with
      | false =>
        have HM2 : Hid (∀ y, y ∈ Out ↔ y ∈ L ∧ y ∉ R' ∧ so y = true) := fun y => by
          rw [HM.out]
          constructor
          · rintro ⟨h1, h2, h3⟩
            exact ⟨h1, fun c => h2 ((HR'.out y).1 c).1, h3⟩
          · rintro ⟨h1, h2, h3⟩
            refine ⟨h1, fun c => h2 ((HR'.out y).2 ⟨c, fun e => ?_⟩), h3⟩
            rw [e, hxs] at h3
            cases h3
        clear hxs HV2
        go_wp2
        go_roundw
        case rel => exact ⟨R', Out, HI2, HO2, HN, HM2, HB2⟩
        case measure => rw [SetI.left HI2.out, HLT.out]; exact HRL.out
      | true =>
        have hxL : (v, s, n) ∈ L := HXL.out
        have HM2 : Hid (∀ y, y ∈ Out ++ [(v, s, n)] ↔ y ∈ L ∧ y ∉ R' ∧ so y = true) := fun y => by
          rw [List.mem_append, HM.out, List.mem_singleton]
          constructor
          · rintro (⟨h1, h2, h3⟩ | rfl)
            · exact ⟨h1, fun c => h2 ((HR'.out y).1 c).1, h3⟩
            · exact ⟨hxL, fun c => ((HR'.out _).1 c).2 rfl, hxs⟩
          · rintro ⟨h1, h2, h3⟩
            by_cases e : y = (v, s, n)
            · exact .inr e
            · exact .inl ⟨h1, fun c => h2 ((HR'.out y).2 ⟨c, e⟩), h3⟩
        have HN2 : Hid ((Out ++ [(v, s, n)]).Nodup) := List.nodup_append.2 ⟨HN.out, by simp, fun c hc c' hc' e => by
          simp only [List.mem_singleton] at hc'
          subst hc' e
          exact ((HM.out _).1 hc).2.1 HX.out⟩
        obtain ⟨av, cv, rfl⟩ := HO2.out.form
        have c0 : w2.cell? ⟨w1.heap.size, 0, none⟩ = some (.int .i64 v) := by rw [cell_of_row _ _ _ _ _ _ HV2.out]; rfl
        have c1 : w2.cell? ⟨w1.heap.size, 1, none⟩ = some (.bool s) := by rw [cell_of_row _ _ _ _ _ _ HV2.out]; rfl
        have c2 : w2.cell? ⟨w1.heap.size, 2, none⟩ = some (.int .i64 n) := by rw [cell_of_row _ _ _ _ _ _ HV2.out]; rfl
        have hl := HLen.out
        clear hxs hxL
        go_wp2_with (
          (at_builtin
           refine wpList_append1 rfl w2 (.tmp 15) (.tmp 17) 32 36 rfl w.heap.size _ 3 24 Tryz.underlying32 infoF rfl (by omega) (.slice av Out.length cv) Out.length _ (csF (v, s, n)) rfl HO2.out.1 w2.heap.size rfl rfl rfl (by simp [csF, Value.oneCell']) (by simp only [maxLen]; omega) (by omega) HB2.out.size ?_
           intro g2 cap w3 hown3 hgr3 hat3
           have HI3 := Lib.hid (HI2.out.kept hgr3 (HI2.out.not_own HO2.out.1).1 (HI2.out.not_own HO2.out.1).2)
           have HB3 : Hid (Below w.heap.size w w3) := (HB2.out.grown hgr3 HB2.out.size (fun k e => (HO2.out.low e).1))
           have HO3 : Hid (OwnF w3 w.heap.size (.slice (some ⟨g2, 0, none⟩) (Out.length + 1) cap) (Out ++ [(v, s, n)])) := (⟨by simpa [List.flatMap_append] using hown3, by simp; omega⟩)
           clear hown3 hgr3 hat3 c0 c1 c2))
        go_roundw
        case rel => exact ⟨R', _, HI3, HO3, HN2, HM2, HB3⟩
        case measure => rw [SetI.left HI3.out, HLT.out]; exact HRL.out
def FctsPost (w : World) (p : Fct → Prop) (e : Ending) (w' : World) : Prop := ∃ v Out, e = .returned v ∧ OwnF w' w.heap.size v Out ∧ Out.Nodup ∧ (∀ y, y ∈ Out ↔ p y) ∧ Below w.heap.size w w'
abbrev locO (p : Bool × Int) : Obj := .cells #[.bool p.1, .int .i64 p.2] 34
theorem atC_any (x : Fct) (p : Bool × Int) (q : Nat) (W : World) (hq : W.heap[q]? = some (locO p)) :
    Calls Tryz.prog 71 #[fctV x, .pointer (some ⟨q, 0, none⟩)] W fun e W' => e = .returned (.bool (sameLoc x.2 p)) ∧ Below W.heap.size W W' := by
  obtain ⟨v, s, n⟩ := x
  obtain ⟨s', n'⟩ := p
  have hql : q < W.heap.size := (Array.getElem?_eq_some_iff.1 hq).1
  have c0 : W.cell? ⟨q, 0, none⟩ = some (.bool s') := by rw [cell_of_row _ _ _ _ _ _ hq]; rfl
  have c1 : W.cell? ⟨q, 1, none⟩ = some (.int .i64 n') := by rw [cell_of_row _ _ _ _ _ _ hq]; rfl
  have he := fun w => eql_loc w s s' n n'
  clear hq
  go_enter Tryz.func71, Tryz.ntmps71
  go_wp2
  go_ret
  exact ⟨rfl, ext_alloc _ _⟩
theorem ofC_any (x : Fct) (v : Int) (q : Nat) (W : World) (hq : W.heap[q]? = some (.cells #[.int .i64 v] 3)) :
    Calls Tryz.prog 72 #[fctV x, .pointer (some ⟨q, 0, none⟩)] W fun e W' => e = .returned (.bool (x.1 == v)) ∧ Below W.heap.size W W' := by
  obtain ⟨a, s, n⟩ := x
  have hql : q < W.heap.size := (Array.getElem?_eq_some_iff.1 hq).1
  have c0 : W.cell? ⟨q, 0, none⟩ = some (.int .i64 v) := by rw [cell_of_row _ _ _ _ _ _ hq]; rfl
  clear hq
  go_enter Tryz.func72, Tryz.ntmps72
  go_wp2
  go_ret
  exact ⟨rfl, ext_alloc _ _⟩
theorem enter_atC (args : Array Value) (w : World) : (callFunc 71 args).run Tryz.prog w = .ok (.enter 71 args) w := enters_of Tryz.func71 (by kernel_rfl) rfl args w
theorem enter_ofC (args : Array Value) (w : World) : (callFunc 72 args).run Tryz.prog w = .ok (.enter 72 args) w := enters_of Tryz.func72 (by kernel_rfl) rfl args w
theorem atK_any (b : Nat) (L : List Fct) (p : Bool × Int) (w : World) (hS : FSet w b L) (hlen : L.length ≤ 1000000000000) :
    Calls Tryz.prog 49 #[.map (some b), .agg #[.bool p.1, .int .i64 p.2]] w (FctsPost w fun y => y ∈ L ∧ sameLoc y.2 p = true) := by
  have HC := Lib.hid (withK_any b L 71 w.heap.size (fun y => sameLoc y.2 p) (w.alloc (locO p)) (hS.alloc _) hlen enter_atC fun x W hb => atC_any x p w.heap.size W (by
    have := heap_alloc_new w (locO p)
    exact block_ext hb this))
  clear hS
  obtain ⟨s', n'⟩ := p
  go_enter Tryz.func49, Tryz.ntmps49
  go_wp2_with (
    (go_at_call 70
     refine HC.out.mono ?_
     rintro e w2 ⟨v, Out, rfl, ho, hn, hm, hb⟩
     have HO := Lib.hid ho
     have HN := Lib.hid hn
     have HM := Lib.hid hm
     have HB := Lib.hid (ext_trans (ext_alloc w _) hb)
     clear ho hn hm hb))
  go_ret
  exact ⟨_, Out, rfl, HO.out.mono (by simp), HN.out, HM.out, HB.out⟩
theorem ofK_any (b : Nat) (L : List Fct) (v : Int) (w : World) (hS : FSet w b L) (hlen : L.length ≤ 1000000000000) :
    Calls Tryz.prog 52 #[.map (some b), .int .i64 v] w (FctsPost w fun y => y ∈ L ∧ (y.1 == v) = true) := by
  have HC := Lib.hid (withK_any b L 72 w.heap.size (fun y => y.1 == v) (w.alloc (.cells #[.int .i64 v] 3)) (hS.alloc _) hlen enter_ofC fun x W hb => ofC_any x v w.heap.size W (by
    have := heap_alloc_new w (.cells #[.int .i64 v] 3)
    exact block_ext hb this))
  clear hS
  go_enter Tryz.func52, Tryz.ntmps52
  go_wp2_with (
    (go_at_call 70
     refine HC.out.mono ?_
     rintro e w2 ⟨u, Out, rfl, ho, hn, hm, hb⟩
     have HO := Lib.hid ho
     have HN := Lib.hid hn
     have HM := Lib.hid hm
     have HB := Lib.hid (ext_trans (ext_alloc w _) hb)
     clear ho hn hm hb))
  go_ret
  exact ⟨_, Out, rfl, HO.out.mono (by simp), HN.out, HM.out, HB.out⟩
theorem forget_any (b : Nat) (L : List Fct) (a : Option Addr) (n c : Nat) (ls : List Fct) (w : World) (hS : FSet w b L) (h : FctS w a n ls) :
    Calls Tryz.prog 51 #[.map (some b), .slice a n c] w fun e w' => e = .returned (.tuple #[]) ∧ ∃ L', FSet w' b L' ∧ (∀ y, y ∈ L' ↔ y ∈ L ∧ y ∉ ls) ∧ Chg (fun k => k = b) w w' := by
  have HF := Lib.hid h
  have HL := Lib.hid h.1
  have hn := h.2.1
  have hbl := hS.lt
  have HS0 := Lib.hid hS
  clear h hS
  go_enter Tryz.func51, Tryz.ntmps51
  go_wp2
  go_loopw [5, 8] (fun _ i wr => ∃ k L', k ≤ n ∧ i = .int .i64 (k : Nat) ∧ Hid (FSet wr b L') ∧ Hid (∀ y, y ∈ L' ↔ y ∈ L ∧ y ∉ ls.take k) ∧ Hid (Chg (fun k => k = b) w wr)) (fun _ i _ => n - (intOf i).toNat)
  case atStart => exact ⟨0, L, by omega, rfl, HS0.out, fun y => by simp, Chg.refl _ _⟩
  case round =>
    obtain ⟨k, L1, hk, rfl, HS, HM, HC⟩ := hrel
    by_cases hlt : k < n
    · have HF2 : Hid (FctS wr a n ls) := ⟨HF.out.1, HF.out.2.1, fun j x hx => by
        obtain ⟨g, o, e, hc⟩ := HF.out.2.2 j x hx
        refine ⟨g, o, e, fun i hi => ?_⟩
        have h1 := hc i hi
        rw [← h1]
        have h2 : w.cell? ⟨g, o + j * 3 + i, none⟩ = some ((csF x)[i]'(by rw [csF_len]; exact hi)) := by rw [h1]; exact List.getElem?_eq_getElem _
        refine cell_heap' (HC.out.block g (World.block_lt_of_cell? w _ h2) fun e => ?_)
        exact HS0.out.nocell h2 e⟩
      obtain ⟨x, g, o, hx, rfl, c0, c1, c2⟩ := fcts_cells HF2.out hlt
      have HX := Lib.hid hx
      have hk1 : (k : Int) < (n : Int) := by omega
      obtain ⟨v, s, m⟩ := x
      clear hx HF2
      go_wp2_with (
        (at_delete
         refine wpList_delM rfl _ _ rfl keyF mapT (HS.out.alloc _) rfl (v, s, m) rfl ?_
         intro w2 L2 hs2 hm2 hg2 hz2
         have HS2 := Lib.hid hs2
         have HM2 : Hid (∀ y, y ∈ L2 ↔ y ∈ L ∧ y ∉ ls.take (k + 1)) := (fun y => by rw [hm2, HM.out, mem_take_succ HX.out, not_or, and_assoc])
         have HC2 : Hid (Chg (fun k => k = b) w w2) := ((HC.out.alloc _).grown hg2 (fun j e => by injection e with e; exact .inl e.symm))
         clear hs2 hm2 hg2 hz2))
      go_roundw
      case rel => exact ⟨k + 1, L2, by omega, by go_num, HS2, HM2, HC2⟩
      case measure => simp [intOf]; omega
    · obtain rfl : k = n := by omega
      have HE : Hid (∀ y, y ∈ L1 ↔ y ∈ L ∧ y ∉ ls) := fun y => by rw [HM.out, ← HL.out, List.take_length]
      go_wp2
      go_end0
      exact ⟨rfl, L1, HS.out, HE.out, HC.out⟩
end
end Go.Proofs.YtfpbfdkjcmlimaaGreat
