/-
 Edge: Between, Into, Out.
-/
import Derived.Test.YtblhmdhfhaencaaEI
import Derived.Test.YtblhmdhfhaencaaRecs
import Derived.Test.YtblhmdhfhaencaaTX
import Derived.Deep.LoopGhost
namespace Go.Proofs.Ytblhmdhfhaencaa
set_option linter.unusedSimpArgs false
set_option linter.unusedVariables false
set_option linter.unusedSectionVars false
set_option maxRecDepth 100000
set_option maxHeartbeats 40000000
section
open Go.RowKit Go.Shelf
attribute [local go_sem] Oper.semAt_some wide_fn wide_depth wide_fnR wide_depthR

theorem btw1_any (x : EdgeD) (W : World) (v : Value) (cs : Array Value) (hv : v = .agg cs) (hcs : cs.size = 3) :
  Calls Try.prog 32 #[v, edgeV x] W fun e W' => e = .returned (.bool true) ∧ Below W.heap.size W W' := by
 subst hv
 obtain ⟨c0, c1, c2, rfl⟩ : ∃ c0 c1 c2, cs = #[c0, c1, c2] := by
  match cs, hcs with
  | ⟨[c0, c1, c2]⟩, _ => exact ⟨c0, c1, c2, rfl⟩
 go_enter Try.func32, Try.ntmps32
 go_wp2
 go_ret
 exact ⟨rfl, ext_trans (ext_alloc _ _) (ext_alloc _ _)⟩
def intoB (l : List TileD) (k : Int) (x : EdgeD) : Bool := (ownF l x.to.toNat : Int) == k
def outB (l : List TileD) (k : Int) (x : EdgeD) : Bool := (ownF l x.fr.toNat : Int) == k
theorem own_at {l : List TileD} {n i : Nat} (h : i < n) : (ownL l n).getD i 0 = (ownF l i : Int) := by
 have : (List.range n)[i]? = some i := by rw [List.getElem?_range h]
 simp [ownL, List.getD_eq_getElem?_getD, this]
theorem into_ask (l : List TileD) (n : Nat) (a : Option Addr) (ln lc : Nat) (k : Int) (x : EdgeD) (W : World) (base : Nat) (v : Value) (h : AroundOK W base l n a ln lc v) (hx : 0 ≤ x.to ∧ x.to < n) :
  Calls Try.prog 42 #[.int .i64 k, v, edgeV x] W fun e W' => e = .returned (.bool (intoB l k x)) ∧ Below W.heap.size W W' := by
 obtain ⟨g, c, M, rfl, ho, _, _⟩ := h
 obtain ⟨fr, arm, tt⟩ := x
 simp only at hx
 obtain ⟨j, rfl⟩ : ∃ j : Nat, tt = j := ⟨tt.toNat, by omega⟩
 obtain ⟨b1, o1, e1, cj, _⟩ := ho.2.2 j (by omega)
 injection e1 with e1
 injection e1 with e1 e2
 subst e1 e2
 rw [own_at (by omega), Nat.zero_add] at cj
 have hlt := World.block_lt_of_cell? _ _ cj
 have hj : (0 : Int) ≤ (j : Int) ∧ (j : Int) < (n : Int) := by omega
 clear ho
 go_enter Try.func42, Try.ntmps42
 go_upto_region 1 with (fail)
 have cj2 := cell_ext (ext_trans (ext_alloc W (.cells #[.slice a ln lc, .slice (some ⟨g, 0, none⟩) n c, .map (some M)] 66)) (ext_alloc _ (edgeO ⟨fr, arm, (j : Int)⟩))) cj
 go_wp2
 go_ret
 exact ⟨rfl, ext_trans (ext_alloc _ _) (ext_alloc _ _)⟩
theorem out_ask (l : List TileD) (n : Nat) (a : Option Addr) (ln lc : Nat) (k : Int) (x : EdgeD) (W : World) (base : Nat) (v : Value) (h : AroundOK W base l n a ln lc v) (hx : 0 ≤ x.fr ∧ x.fr < n) :
  Calls Try.prog 43 #[.int .i64 k, v, edgeV x] W fun e W' => e = .returned (.bool (outB l k x)) ∧ Below W.heap.size W W' := by
 obtain ⟨g, c, M, rfl, ho, _, _⟩ := h
 obtain ⟨fr, arm, tt⟩ := x
 simp only at hx
 obtain ⟨j, rfl⟩ : ∃ j : Nat, fr = j := ⟨fr.toNat, by omega⟩
 obtain ⟨b1, o1, e1, cj, _⟩ := ho.2.2 j (by omega)
 injection e1 with e1
 injection e1 with e1 e2
 subst e1 e2
 rw [own_at (by omega), Nat.zero_add] at cj
 have hlt := World.block_lt_of_cell? _ _ cj
 have hj : (0 : Int) ≤ (j : Int) ∧ (j : Int) < (n : Int) := by omega
 clear ho
 go_enter Try.func43, Try.ntmps43
 go_upto_region 1 with (fail)
 have cj2 := cell_ext (ext_trans (ext_alloc W (.cells #[.slice a ln lc, .slice (some ⟨g, 0, none⟩) n c, .map (some M)] 66)) (ext_alloc _ (edgeO ⟨(j : Int), arm, tt⟩))) cj
 go_wp2
 go_ret
 exact ⟨rfl, ext_trans (ext_alloc _ _) (ext_alloc _ _)⟩
theorem enter_btw (args : Array Value) (w : World) : (callFunc 32 args).run Try.prog w = .ok (.enter 32 args) w := enters_of Try.func32 (by kernel_rfl) rfl args w
theorem enter_into (args : Array Value) (w : World) : (callFunc 42 args).run Try.prog w = .ok (.enter 42 args) w := enters_of Try.func42 (by kernel_rfl) rfl args w
theorem enter_out (args : Array Value) (w : World) : (callFunc 43 args).run Try.prog w = .ok (.enter 43 args) w := enters_of Try.func43 (by kernel_rfl) rfl args w
section
variable (pa : Option Addr) (pn pc : Nat) (ba : Option Addr) (bn bc : Nat) (bs : List BlkH) (a : Option Addr) (n c : Nat) (ls : List TileR) (k : Int) (w : World) (h : BlksOK w ba bn bs) (ht : TilesOK w a n ls) (hT : totL (tdOf ls) ≤ 1000000)
theorem RowsPost.up {ts : List TermD} {l : List TileD} {ask : EdgeD → Bool} {w w1 : World} {e : Ending} {w' : World} (h : RowsPost ts l ask w1 e w') (hb : Below w.heap.size w w1) : RowsPost ts l ask w e w' := by
 obtain ⟨v, he, hb1, h0, h1⟩ := h
 exact ⟨v, he, ext_trans hb hb1, h0, fun hr => let ⟨hs, h2, h3⟩ := h1 hr; ⟨hs, h2.mono hb.size, h3⟩⟩
include h ht hT
theorem between_any : Calls Try.prog 9 #[funcV pa pn pc ba bn bc, .slice a n c] w (RowsPost (tsOf bs) (tdOf ls) (fun _ => true) w) := by
 have H := Lib.hid h
 have HT := Lib.hid ht
 clear h ht
 have HAK : Hid (∀ (x : EdgeD) (W : World) (base : Nat) (v : Value), x ∈ allE (tsOf bs) → AroundOK W base (tdOf ls) bn a n c v → Calls Try.prog 32 (#[] ++ #[v, edgeV x]) W fun e W' => e = .returned (.bool ((fun _ => true) x)) ∧ Below W.heap.size W W') := fun x W base v _ har => by
  obtain ⟨g, cc, M, rfl, _⟩ := har
  exact btw1_any x W _ _ rfl rfl
 go_enter Try.func9, Try.ntmps9
 go_wp2_with (
  (go_at_call 31
   refine (rows_any pa pn pc ba bn bc bs a n c ls 32 #[] enter_btw (fun _ => true) _ (H.out.ext (ext_alloc _ _)) (HT.out.ext (ext_alloc _ _)) hT HAK.out).mono ?_
   rintro e w2 hp
   have hp2 := hp.up (ext_alloc _ _)
   obtain ⟨v, rfl, hb, h0, h1⟩ := hp2
   have HB := Lib.hid hb
   have H0 := Lib.hid h0
   have H1 := Lib.hid h1
   clear hp hb h0 h1))
 exact bodyPost_ret (v := .tuple #[v, .int .i64 (overErr (tsOf bs) (tdOf ls))]) (by simp [results, Try.results9, go_sem, Act.put]) rfl ⟨v, rfl, HB.out, H0.out, H1.out⟩
theorem eInto_any : Calls Try.prog 15 #[funcV pa pn pc ba bn bc, .slice a n c, .int .i64 k] w (RowsPost (tsOf bs) (tdOf ls) (intoB (tdOf ls) k) w) := by
 have H := Lib.hid h
 have HT := Lib.hid ht
 have HL : Hid ((tsOf bs).length = bn) := by rw [Hid, tsOf_len]; exact h.1.1
 clear h ht
 have HAK : Hid (∀ (x : EdgeD) (W : World) (base : Nat) (v : Value), x ∈ allE (tsOf bs) → AroundOK W base (tdOf ls) bn a n c v → Calls Try.prog 42 (#[.int .i64 k] ++ #[v, edgeV x]) W fun e W' => e = .returned (.bool (intoB (tdOf ls) k x)) ∧ Below W.heap.size W W') := fun x W base v hm har => by
  have := allE_mem hm
  exact into_ask (tdOf ls) bn a n c k x W base v har (by rw [← HL.out]; omega)
 go_enter Try.func15, Try.ntmps15
 go_wp2_with (
  (go_at_call 31
   refine (rows_any pa pn pc ba bn bc bs a n c ls 42 #[.int .i64 k] enter_into (intoB (tdOf ls) k) _ (H.out.ext (ext_alloc _ _)) (HT.out.ext (ext_alloc _ _)) hT HAK.out).mono ?_
   rintro e w2 hp
   have hp2 := hp.up (ext_alloc _ _)
   obtain ⟨v, rfl, hb, h0, h1⟩ := hp2
   have HB := Lib.hid hb
   have H0 := Lib.hid h0
   have H1 := Lib.hid h1
   clear hp hb h0 h1))
 exact bodyPost_ret (v := .tuple #[v, .int .i64 (overErr (tsOf bs) (tdOf ls))]) (by simp [results, Try.results15, go_sem, Act.put]) rfl ⟨v, rfl, HB.out, H0.out, H1.out⟩
theorem eOut_any : Calls Try.prog 16 #[funcV pa pn pc ba bn bc, .slice a n c, .int .i64 k] w (RowsPost (tsOf bs) (tdOf ls) (outB (tdOf ls) k) w) := by
 have H := Lib.hid h
 have HT := Lib.hid ht
 have HL : Hid ((tsOf bs).length = bn) := by rw [Hid, tsOf_len]; exact h.1.1
 clear h ht
 have HAK : Hid (∀ (x : EdgeD) (W : World) (base : Nat) (v : Value), x ∈ allE (tsOf bs) → AroundOK W base (tdOf ls) bn a n c v → Calls Try.prog 43 (#[.int .i64 k] ++ #[v, edgeV x]) W fun e W' => e = .returned (.bool (outB (tdOf ls) k x)) ∧ Below W.heap.size W W') := fun x W base v hm har => by
  have := allE_mem hm
  exact out_ask (tdOf ls) bn a n c k x W base v har (by rw [← HL.out]; omega)
 go_enter Try.func16, Try.ntmps16
 go_wp2_with (
  (go_at_call 31
   refine (rows_any pa pn pc ba bn bc bs a n c ls 43 #[.int .i64 k] enter_out (outB (tdOf ls) k) _ (H.out.ext (ext_alloc _ _)) (HT.out.ext (ext_alloc _ _)) hT HAK.out).mono ?_
   rintro e w2 hp
   have hp2 := hp.up (ext_alloc _ _)
   obtain ⟨v, rfl, hb, h0, h1⟩ := hp2
   have HB := Lib.hid hb
   have H0 := Lib.hid h0
   have H1 := Lib.hid h1
   clear hp hb h0 h1))
 exact bodyPost_ret (v := .tuple #[v, .int .i64 (overErr (tsOf bs) (tdOf ls))]) (by simp [results, Try.results16, go_sem, Act.put]) rfl ⟨v, rfl, HB.out, H0.out, H1.out⟩
end
end

section
open Go.RowKit

structure InsD where
 op : Int
 dst : Int
 a : Int
 b : Int
 imm : Int
 callee : Int
 args : List Int
 many : Int
abbrev insV (i : InsD) (aa : Option Addr) (na ca : Nat) : Value := .agg #[.int .i64 i.op, .int .i64 i.dst, .int .i64 i.a, .int .i64 i.b, .int .i64 i.imm, .int .i64 i.callee, .slice aa na ca, .int .i64 i.many]
structure InsR where
 d : InsD
 aa : Option Addr
 na : Nat
 ca : Nat
def insC (r : InsR) : List Value := [.int .i64 r.d.op, .int .i64 r.d.dst, .int .i64 r.d.a, .int .i64 r.d.b, .int .i64 r.d.imm, .int .i64 r.d.callee, .slice r.aa r.na r.ca, .int .i64 r.d.many]
theorem insC_len (r : InsR) : (insC r).length = 8 := rfl
def InsOK (w : World) (r : InsR) : Prop := Ints w r.aa r.na r.d.args ∧ r.na ≤ r.ca ∧ I64 r.d.op ∧ I64 r.d.dst ∧ I64 r.d.a ∧ I64 r.d.b ∧ I64 r.d.imm ∧ I64 r.d.callee ∧ I64 r.d.many
theorem InsOK.ext {w w' : World} {r : InsR} (h : InsOK w r) (hb : Below w.heap.size w w') : InsOK w' r := ⟨h.1.ext hb, h.2⟩
/-- a slice of instructions -/
def InsS (w : World) (a : Option Addr) (n : Nat) (rs : List InsR) : Prop := Recs 8 insC w a n rs ∧ ∀ r ∈ rs, InsOK w r
theorem InsS.ext {w w' : World} {a : Option Addr} {n : Nat} {rs : List InsR} (h : InsS w a n rs) (hb : Below w.heap.size w w') : InsS w' a n rs :=
 ⟨h.1.ext insC_len hb, fun r hr => (h.2 r hr).ext hb⟩
theorem InsS.cells {w : World} {a : Option Addr} {n : Nat} {rs : List InsR} (h : InsS w a n rs) {k : Nat} (hk : k < n) : ∃ r b o, rs[k]? = some r ∧ InsOK w r ∧ a = some ⟨b, o, none⟩ ∧
  w.cell? ⟨b, o + k * 8, none⟩ = some (.int .i64 r.d.op) ∧ w.cell? ⟨b, o + k * 8 + 1, none⟩ = some (.int .i64 r.d.dst) ∧ w.cell? ⟨b, o + k * 8 + 2, none⟩ = some (.int .i64 r.d.a) ∧ w.cell? ⟨b, o + k * 8 + 3, none⟩ = some (.int .i64 r.d.b) ∧
  w.cell? ⟨b, o + k * 8 + 4, none⟩ = some (.int .i64 r.d.imm) ∧ w.cell? ⟨b, o + k * 8 + 5, none⟩ = some (.int .i64 r.d.callee) ∧ w.cell? ⟨b, o + k * 8 + 6, none⟩ = some (.slice r.aa r.na r.ca) ∧ w.cell? ⟨b, o + k * 8 + 7, none⟩ = some (.int .i64 r.d.many) := by
 have hk' : k < rs.length := by rw [h.1.1]; exact hk
 obtain ⟨r, hr⟩ : ∃ r, rs[k]? = some r := ⟨rs[k], List.getElem?_eq_getElem hk'⟩
 obtain ⟨b, o, e, hc⟩ := h.1.2.2 k r hr
 exact ⟨r, b, o, hr, h.2 r (List.mem_of_getElem? hr), e, hc 0 (by omega), hc 1 (by omega), hc 2 (by omega), hc 3 (by omega), hc 4 (by omega), hc 5 (by omega), hc 6 (by omega), hc 7 (by omega)⟩
abbrev insVR (r : InsR) : Value := insV r.d r.aa r.na r.ca
end

section
open Go.RowKit

/-- blocks with their instructions -/
def BlksX (w : World) (a : Option Addr) (n : Nat) (bs : List BlkH) : Prop := BlksOK w a n bs ∧ ∀ b ∈ bs, ∃ rs, InsS w b.ia b.n rs
theorem BlksX.ext {w w' : World} {a : Option Addr} {n : Nat} {bs : List BlkH} (h : BlksX w a n bs) (hb : Below w.heap.size w w') : BlksX w' a n bs := ⟨h.1.ext hb, fun b hx => let ⟨rs, hr⟩ := h.2 b hx; ⟨rs, hr.ext hb⟩⟩
def BlocksPost (bs : List BlkH) (most : Int) (w : World) (e : Ending) (w' : World) : Prop := ∃ v : Int, e = .returned (.int .i64 v) ∧ 0 ≤ v ∧ v ≤ 35184372088841 ∧ (v ≤ most → ∀ b ∈ bs, (b.n : Int) ≤ most) ∧ w = w'
theorem blocksOf_any (a : Option Addr) (n c : Nat) (bs : List BlkH) (most : Int) (h0 : 0 ≤ most) (h1 : most ≤ 10000) (w : World) (h : BlksX w a n bs) :
  Calls Try.prog 62 #[.slice a n c, .int .i64 most] w (BlocksPost bs most w) := by
 have H := Lib.hid h
 have HL := Lib.hid h.1.1.1
 have hn := h.1.1.2.1
 clear h
 go_enter Try.func62, Try.ntmps62
 go_wp2
 go_loopg [5, 6, 7] n (fun gg s5 s6 _ wr => ∃ (i : Nat) (acc : Int), s6 = .int .i64 i ∧ s5 = .int .i64 acc ∧ i ≤ n ∧ n - i ≤ gg ∧ 0 ≤ acc ∧ acc ≤ 35184372088841 ∧ Hid (acc ≤ most → ∀ b ∈ bs.take i, (b.n : Int) ≤ most) ∧ wr = w)
 case atStart => exact ⟨0, 0, rfl, rfl, by omega, by omega, by omega, by omega, fun _ b hb => by simp at hb, rfl⟩
 case round =>
  obtain ⟨i, acc, rfl, rfl, hi, hgg, ha0, ha1, HR, rfl⟩ := hrel
  by_cases hlt : i < n
  · by_cases hm : acc ≤ most
    · have hir : i < bs.length := by rw [HL.out]; exact hlt
      obtain ⟨b, hb⟩ : ∃ b, bs[i]? = some b := ⟨bs[i], List.getElem?_eq_getElem hir⟩
      obtain ⟨B, o, rfl, hc⟩ := H.out.1.1.2.2 i b hb
      have g0 := hc 0 (by omega)
      rw [Nat.add_zero] at g0
      obtain ⟨rsb, hI⟩ := H.out.2 b (List.mem_of_getElem? hb)
      have HI := Lib.hid hI
      have hbn := hI.1.2.1
      have HB := Lib.hid hb
      have g0' : wr.cell? ⟨B, o + i * 5, none⟩ = some (.slice b.ia b.n b.c) := g0
      have hmr := HR.out hm
      have HMR := Lib.hid hmr
      clear hb hc hI g0 hmr
      have hlt' : (i : Int) < (n : Int) := by omega
      go_wp2
      obtain ⟨wo, rfl⟩ : ∃ wo : World, wo = wr := ⟨_, rfl⟩
      have HT : Hid (∀ acc2 : Int, acc + 1 + b.n ≤ acc2 → acc2 ≤ most → ∀ x ∈ bs.take (i + 1), (x.n : Int) ≤ most) := fun acc2 h1 h2 x hx => by
       rw [List.take_add_one, HB.out, List.mem_append] at hx
       rcases hx with hx | hx
       · exact HMR.out x hx
       · simp at hx; subst hx; omega
      go_loopg [5, 7] b.n (fun gg2 s5 s7 wi => ∃ (k : Nat) (acc2 : Int), s7 = .int .i64 k ∧ s5 = .int .i64 acc2 ∧ k ≤ b.n ∧ b.n - k ≤ gg2 ∧ acc + 1 + b.n ≤ acc2 ∧ acc2 ≤ 35184372088841 ∧ wi = wo)
      case atStart => exact ⟨0, acc + 1 + b.n, rfl, rfl, by omega, by omega, by omega, by omega, rfl⟩
      case round =>
       obtain ⟨k, acc2, rfl, rfl, hk, hgg2, hb1, hb2, rfl⟩ := hrel
       by_cases hk2 : k < b.n
       · by_cases hm2 : acc2 ≤ most
         · obtain ⟨r, bb, oo, hr, hok, hia, c0, c1, c2, c3, c4, c5, c6, c7⟩ := HI.out.cells hk2
           have hna := hok.1.2.1
           rw [hia] at g0'
           have hkz : (k : Int) < (b.n : Int) := by omega
           clear hr hok c0 c1 c2 c3 c4 c5 c7 hia
           go_wp2
           go_roundg (b.n - (k + 1))
           case measure => omega
           case rel => exact ⟨k + 1, acc2 + r.na, by go_num, rfl, by omega, Nat.le_refl _, by omega, by omega, rfl⟩
         · have hkz : (k : Int) < (b.n : Int) := by omega
           have hm3 : most < acc2 := by omega
           go_wp2
           go_roundg (n - (i + 1))
           case measure => omega
           case rel => exact ⟨i + 1, acc2, by go_num, rfl, by omega, Nat.le_refl _, by omega, by omega, HT.out acc2 hb1, rfl⟩
       · have hkz : ¬ (k : Int) < (b.n : Int) := by omega
         go_wp2
         go_roundg (n - (i + 1))
         case measure => omega
         case rel => exact ⟨i + 1, acc2, by go_num, rfl, by omega, Nat.le_refl _, by omega, by omega, HT.out acc2 hb1, rfl⟩
    · have hm3 : most < acc := by omega
      have hlt' : (i : Int) < (n : Int) := by omega
      go_wp2
      go_ret
      exact ⟨acc, rfl, ha0, ha1, fun h => absurd h (by omega), rfl⟩
  · obtain rfl : i = n := by omega
    have HT : Hid (bs.take i = bs) := List.take_of_length_le (by rw [HL.out]; omega)
    go_wp2
    go_ret
    exact ⟨acc, rfl, ha0, ha1, fun h => by have := HR.out h; rw [HT.out] at this; exact this, rfl⟩
end
end Go.Proofs.Ytblhmdhfhaencaa
