/-
 Edge: Between, Into, Out.
-/
import Derived.Test.YtblhmdhfhaencaaGreatEI
import Derived.Test.YtblhmdhfhaencaaGreatTD
import Derived.Test.YtblhmdhfhaencaaGreatEE
import Derived.Deep.LoopGhost
import Derived.Test.YtblhmdhfhaencaaGreatEA
namespace Go.Proofs.YtblhmdhfhaencaaGreat
set_option linter.unusedSimpArgs false
set_option linter.unusedVariables false
set_option linter.unusedSectionVars false
set_option maxRecDepth 100000
set_option maxHeartbeats 40000000
section
open Go.RowKit Go.Shelf
attribute [local go_sem] Oper.semAt_some wide_fn wide_depth wide_fnR wide_depthR
theorem btw1_any (x : EdgeD) (W : World) (v : Value) (cs : Array Value) (hv : v = .agg cs) (hcs : cs.size = 3) :
  Calls Tryz.prog 57 #[v, edgeV x] W fun e W' => e = .returned (.bool true) ∧ Below W.heap.size W W' := by
 subst hv
 obtain ⟨c0, c1, c2, rfl⟩ : ∃ c0 c1 c2, cs = #[c0, c1, c2] := by
  match cs, hcs with
  | ⟨[c0, c1, c2]⟩, _ => exact ⟨c0, c1, c2, rfl⟩
 go_enter Tryz.func57, Tryz.ntmps57
 go_wp2
 go_ret
 exact ⟨rfl, ext_trans (ext_alloc _ _) (ext_alloc _ _)⟩
def intoB (l : List TileD) (k : Int) (x : EdgeD) : Bool := (ownF l x.to.toNat : Int) == k
def outB (l : List TileD) (k : Int) (x : EdgeD) : Bool := (ownF l x.fr.toNat : Int) == k
theorem own_at {l : List TileD} {n i : Nat} (h : i < n) : (ownL l n).getD i 0 = (ownF l i : Int) := by
 have : (List.range n)[i]? = some i := by rw [List.getElem?_range h]
 simp [ownL, List.getD_eq_getElem?_getD, this]
theorem into_ask (l : List TileD) (n : Nat) (a : Option Addr) (ln lc : Nat) (k : Int) (x : EdgeD) (W : World) (base : Nat) (v : Value) (h : AroundOK W base l n a ln lc v) (hx : 0 ≤ x.to ∧ x.to < n) :
  Calls Tryz.prog 59 #[.int .i64 k, v, edgeV x] W fun e W' => e = .returned (.bool (intoB l k x)) ∧ Below W.heap.size W W' := by
 obtain ⟨g, c, M, rfl, ho, _, _⟩ := h
 obtain ⟨fr, arm, tt⟩ := x
 simp only at hx
 obtain ⟨j, rfl⟩ : ∃ j : Nat, tt = j := ⟨tt.toNat, by omega⟩
 obtain ⟨b1, o1, e1, cj, _⟩ := ho.2.2 j (by omega)
 injection e1 with e1
 injection e1 with e1 e2
 subst e1 e2
 rw [own_at (by omega), Nat.zero_add] at cj
 have hlt := World.block_lt_of_cell? _ _ cj
 have hj : (0 : Int) ≤ (j : Int) ∧ (j : Int) < (n : Int) := by omega
 clear ho
 go_enter Tryz.func59, Tryz.ntmps59
 go_upto_region 1 with (fail)
 have cj2 := cell_ext (ext_trans (ext_alloc W (.cells #[.slice a ln lc, .slice (some ⟨g, 0, none⟩) n c, .map (some M)] 87)) (ext_alloc _ (edgeO ⟨fr, arm, (j : Int)⟩))) cj
 go_wp2
 go_ret
 exact ⟨rfl, ext_trans (ext_alloc _ _) (ext_alloc _ _)⟩
theorem out_ask (l : List TileD) (n : Nat) (a : Option Addr) (ln lc : Nat) (k : Int) (x : EdgeD) (W : World) (base : Nat) (v : Value) (h : AroundOK W base l n a ln lc v) (hx : 0 ≤ x.fr ∧ x.fr < n) :
  Calls Tryz.prog 60 #[.int .i64 k, v, edgeV x] W fun e W' => e = .returned (.bool (outB l k x)) ∧ Below W.heap.size W W' := by
 obtain ⟨g, c, M, rfl, ho, _, _⟩ := h
 obtain ⟨fr, arm, tt⟩ := x
 simp only at hx
 obtain ⟨j, rfl⟩ : ∃ j : Nat, fr = j := ⟨fr.toNat, by omega⟩
 obtain ⟨b1, o1, e1, cj, _⟩ := ho.2.2 j (by omega)
 injection e1 with e1
 injection e1 with e1 e2
 subst e1 e2
 rw [own_at (by omega), Nat.zero_add] at cj
 have hlt := World.block_lt_of_cell? _ _ cj
 have hj : (0 : Int) ≤ (j : Int) ∧ (j : Int) < (n : Int) := by omega
 clear ho
 go_enter Tryz.func60, Tryz.ntmps60
 go_upto_region 1 with (fail)
 have cj2 := cell_ext (ext_trans (ext_alloc W (.cells #[.slice a ln lc, .slice (some ⟨g, 0, none⟩) n c, .map (some M)] 87)) (ext_alloc _ (edgeO ⟨(j : Int), arm, tt⟩))) cj
 go_wp2
 go_ret
 exact ⟨rfl, ext_trans (ext_alloc _ _) (ext_alloc _ _)⟩
theorem enter_btw (args : Array Value) (w : World) : (callFunc 57 args).run Tryz.prog w = .ok (.enter 57 args) w := enters_of Tryz.func57 (by kernel_rfl) rfl args w
theorem enter_into (args : Array Value) (w : World) : (callFunc 59 args).run Tryz.prog w = .ok (.enter 59 args) w := enters_of Tryz.func59 (by kernel_rfl) rfl args w
theorem enter_out (args : Array Value) (w : World) : (callFunc 60 args).run Tryz.prog w = .ok (.enter 60 args) w := enters_of Tryz.func60 (by kernel_rfl) rfl args w
section
variable (pa : Option Addr) (pn pc : Nat) (ba : Option Addr) (bn bc : Nat) (bs : List BlkH) (a : Option Addr) (n c : Nat) (ls : List TileR) (k : Int) (w : World) (h : BlksOK w ba bn bs) (ht : TilesOK w a n ls) (hT : totL (tdOf ls) ≤ 1000000)
theorem RowsPost.up {ts : List TermD} {l : List TileD} {ask : EdgeD → Bool} {w w1 : World} {e : Ending} {w' : World} (h : RowsPost ts l ask w1 e w') (hb : Below w.heap.size w w1) : RowsPost ts l ask w e w' := by
 obtain ⟨v, he, hb1, h0, h1⟩ := h
 exact ⟨v, he, ext_trans hb hb1, h0, fun hr => let ⟨hs, h2, h3⟩ := h1 hr; ⟨hs, h2.mono hb.size, h3⟩⟩
include h ht hT
theorem between_any : Calls Tryz.prog 13 #[funcV pa pn pc ba bn bc, .slice a n c] w (RowsPost (tsOf bs) (tdOf ls) (fun _ => true) w) := by
 have H := Lib.hid h
 have HT := Lib.hid ht
 clear h ht
 have HAK : Hid (∀ (x : EdgeD) (W : World) (base : Nat) (v : Value), x ∈ allE (tsOf bs) → AroundOK W base (tdOf ls) bn a n c v → Calls Tryz.prog 57 (#[] ++ #[v, edgeV x]) W fun e W' => e = .returned (.bool ((fun _ => true) x)) ∧ Below W.heap.size W W') := fun x W base v _ har => by
  obtain ⟨g, cc, M, rfl, _⟩ := har;exact btw1_any x W _ _ rfl rfl
 go_enter Tryz.func13, Tryz.ntmps13
 go_wp2_with (
  (go_at_call 56
   refine (rows_any pa pn pc ba bn bc bs a n c ls 57 #[] enter_btw (fun _ => true) _ (H.out.ext (ext_alloc _ _)) (HT.out.ext (ext_alloc _ _)) hT HAK.out).mono ?_;rintro e w2 hp;have hp2 := hp.up (ext_alloc _ _);obtain ⟨v, rfl, hb, h0, h1⟩ := hp2;have HB := Lib.hid hb;have H0 := Lib.hid h0;have H1 := Lib.hid h1
   clear hp hb h0 h1))
 exact bodyPost_ret (v := .tuple #[v, .int .i64 (overErr (tsOf bs) (tdOf ls))]) (by simp [results, Tryz.results13, go_sem, Act.put]) rfl ⟨v, rfl, HB.out, H0.out, H1.out⟩
theorem eInto_any : Calls Tryz.prog 15 #[funcV pa pn pc ba bn bc, .slice a n c, .int .i64 k] w (RowsPost (tsOf bs) (tdOf ls) (intoB (tdOf ls) k) w) := by
 have H := Lib.hid h
 have HT := Lib.hid ht
 have HL : Hid ((tsOf bs).length = bn) := by rw [Hid, tsOf_len]; exact h.1.1
 clear h ht
 have HAK : Hid (∀ (x : EdgeD) (W : World) (base : Nat) (v : Value), x ∈ allE (tsOf bs) → AroundOK W base (tdOf ls) bn a n c v → Calls Tryz.prog 59 (#[.int .i64 k] ++ #[v, edgeV x]) W fun e W' => e = .returned (.bool (intoB (tdOf ls) k x)) ∧ Below W.heap.size W W') := fun x W base v hm har => by
  have := allE_mem hm;exact into_ask (tdOf ls) bn a n c k x W base v har (by rw [← HL.out]; omega)
 go_enter Tryz.func15, Tryz.ntmps15
 go_wp2_with (
  (go_at_call 56
   refine (rows_any pa pn pc ba bn bc bs a n c ls 59 #[.int .i64 k] enter_into (intoB (tdOf ls) k) _ (H.out.ext (ext_alloc _ _)) (HT.out.ext (ext_alloc _ _)) hT HAK.out).mono ?_;rintro e w2 hp;have hp2 := hp.up (ext_alloc _ _);obtain ⟨v, rfl, hb, h0, h1⟩ := hp2;have HB := Lib.hid hb;have H0 := Lib.hid h0;have H1 := Lib.hid h1
   clear hp hb h0 h1))
 exact bodyPost_ret (v := .tuple #[v, .int .i64 (overErr (tsOf bs) (tdOf ls))]) (by simp [results, Tryz.results15, go_sem, Act.put]) rfl ⟨v, rfl, HB.out, H0.out, H1.out⟩
theorem eOut_any : Calls Tryz.prog 17 #[funcV pa pn pc ba bn bc, .slice a n c, .int .i64 k] w (RowsPost (tsOf bs) (tdOf ls) (outB (tdOf ls) k) w) := by
 have H := Lib.hid h
 have HT := Lib.hid ht
 have HL : Hid ((tsOf bs).length = bn) := by rw [Hid, tsOf_len]; exact h.1.1
 clear h ht
 have HAK : Hid (∀ (x : EdgeD) (W : World) (base : Nat) (v : Value), x ∈ allE (tsOf bs) → AroundOK W base (tdOf ls) bn a n c v → Calls Tryz.prog 60 (#[.int .i64 k] ++ #[v, edgeV x]) W fun e W' => e = .returned (.bool (outB (tdOf ls) k x)) ∧ Below W.heap.size W W') := fun x W base v hm har => by
  have := allE_mem hm;exact out_ask (tdOf ls) bn a n c k x W base v har (by rw [← HL.out]; omega)
 go_enter Tryz.func17, Tryz.ntmps17
 go_wp2_with (
  (go_at_call 56
   refine (rows_any pa pn pc ba bn bc bs a n c ls 60 #[.int .i64 k] enter_out (outB (tdOf ls) k) _ (H.out.ext (ext_alloc _ _)) (HT.out.ext (ext_alloc _ _)) hT HAK.out).mono ?_;rintro e w2 hp;have hp2 := hp.up (ext_alloc _ _);obtain ⟨v, rfl, hb, h0, h1⟩ := hp2;have HB := Lib.hid hb;have H0 := Lib.hid h0;have H1 := Lib.hid h1
   clear hp hb h0 h1))
 exact bodyPost_ret (v := .tuple #[v, .int .i64 (overErr (tsOf bs) (tdOf ls))]) (by simp [results, Tryz.results17, go_sem, Act.put]) rfl ⟨v, rfl, HB.out, H0.out, H1.out⟩
end
end

section
open Go.RowKit
structure InsD where
 op : Int
 dst : Int
 a : Int
 b : Int
 imm : Int
 callee : Int
 args : List Int
 many : Int
abbrev insV (i : InsD) (aa : Option Addr) (na ca : Nat) : Value := .agg #[.int .i64 i.op, .int .i64 i.dst, .int .i64 i.a, .int .i64 i.b, .int .i64 i.imm, .int .i64 i.callee, .slice aa na ca, .int .i64 i.many]
structure InsR where
 d : InsD
 aa : Option Addr
 na : Nat
 ca : Nat
def insC (r : InsR) : List Value := [.int .i64 r.d.op, .int .i64 r.d.dst, .int .i64 r.d.a, .int .i64 r.d.b, .int .i64 r.d.imm, .int .i64 r.d.callee, .slice r.aa r.na r.ca, .int .i64 r.d.many]
theorem insC_len (r : InsR) : (insC r).length = 8 := rfl
def InsOK (w : World) (r : InsR) : Prop := Ints w r.aa r.na r.d.args ∧ r.na ≤ r.ca ∧ I64 r.d.op ∧ I64 r.d.dst ∧ I64 r.d.a ∧ I64 r.d.b ∧ I64 r.d.imm ∧ I64 r.d.callee ∧ I64 r.d.many
theorem InsOK.ext {w w' : World} {r : InsR} (h : InsOK w r) (hb : Below w.heap.size w w') : InsOK w' r := ⟨h.1.ext hb, h.2⟩
def InsS (w : World) (a : Option Addr) (n : Nat) (rs : List InsR) : Prop := Recs 8 insC w a n rs ∧ ∀ r ∈ rs, InsOK w r
theorem InsS.ext {w w' : World} {a : Option Addr} {n : Nat} {rs : List InsR} (h : InsS w a n rs) (hb : Below w.heap.size w w') : InsS w' a n rs :=
 ⟨h.1.ext insC_len hb, fun r hr => (h.2 r hr).ext hb⟩
theorem InsS.cells {w : World} {a : Option Addr} {n : Nat} {rs : List InsR} (h : InsS w a n rs) {k : Nat} (hk : k < n) : ∃ r b o, rs[k]? = some r ∧ InsOK w r ∧ a = some ⟨b, o, none⟩ ∧
  w.cell? ⟨b, o + k * 8, none⟩ = some (.int .i64 r.d.op) ∧ w.cell? ⟨b, o + k * 8 + 1, none⟩ = some (.int .i64 r.d.dst) ∧ w.cell? ⟨b, o + k * 8 + 2, none⟩ = some (.int .i64 r.d.a) ∧ w.cell? ⟨b, o + k * 8 + 3, none⟩ = some (.int .i64 r.d.b) ∧
  w.cell? ⟨b, o + k * 8 + 4, none⟩ = some (.int .i64 r.d.imm) ∧ w.cell? ⟨b, o + k * 8 + 5, none⟩ = some (.int .i64 r.d.callee) ∧ w.cell? ⟨b, o + k * 8 + 6, none⟩ = some (.slice r.aa r.na r.ca) ∧ w.cell? ⟨b, o + k * 8 + 7, none⟩ = some (.int .i64 r.d.many) := by
 have hk' : k < rs.length := by rw [h.1.1]; exact hk
 obtain ⟨r, hr⟩ : ∃ r, rs[k]? = some r := ⟨rs[k], List.getElem?_eq_getElem hk'⟩
 obtain ⟨b, o, e, hc⟩ := h.1.2.2 k r hr
 exact ⟨r, b, o, hr, h.2 r (List.mem_of_getElem? hr), e, hc 0 (by omega), hc 1 (by omega), hc 2 (by omega), hc 3 (by omega), hc 4 (by omega), hc 5 (by omega), hc 6 (by omega), hc 7 (by omega)⟩
abbrev insVR (r : InsR) : Value := insV r.d r.aa r.na r.ca
end

section
open Go.RowKit
def BlksX (w : World) (a : Option Addr) (n : Nat) (bs : List BlkH) : Prop := BlksOK w a n bs ∧ ∀ b ∈ bs, ∃ rs, InsS w b.ia b.n rs
end

section
open Go.RowKit
attribute [local go_sem] Oper.semAt_some wide_fn wide_depth wide_fnR wide_depthR
def totN (ls : List TileR) (i : Nat) : Nat := ((ls.take i).map fun t => t.bn).sum
theorem totN_step (ls : List TileR) (i : Nat) (t : TileR) (h : ls[i]? = some t) : totN ls (i + 1) = totN ls i + t.bn := by
 rw [totN, totN, List.take_add_one, h, Option.toList_some, List.map_append, List.sum_append]; simp
theorem totN_all {w : World} {a : Option Addr} {n : Nat} {ls : List TileR} (h : TilesOK w a n ls) : totN ls n = totL (tdOf ls) := by
 rw [totN, totL, tdOf, List.take_of_length_le (by rw [h.1.1]; omega), List.map_map]
 congr 1
 refine List.map_congr_left fun t ht => ?_
 exact ((h.2 t ht).1.1).symm
end
end Go.Proofs.YtblhmdhfhaencaaGreat
