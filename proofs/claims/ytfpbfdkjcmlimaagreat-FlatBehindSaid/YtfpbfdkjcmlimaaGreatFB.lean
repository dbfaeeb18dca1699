/-
  Flat: mir.with, places, Writes, Reads.
-/
import Derived.Test.YtfpbfdkjcmlimaaGreatRecs
namespace Go.Proofs.YtfpbfdkjcmlimaaGreat
set_option linter.unusedSimpArgs false
set_option linter.unusedVariables false
set_option linter.unusedSectionVars false
set_option maxRecDepth 100000
set_option maxHeartbeats 40000000
section
open Go.RowKit
def withB (p x : Int) : Bool := bits BinOp.and IntKind.u8 p x != 0
theorem with_any (p x : Int) (w : World) : Calls Tryz.prog 62 #[.int .u8 p, .int .u8 x] w fun e w' => e = .returned (.bool (withB p x)) ∧ w = w' := by
  go_enter Tryz.func62, Tryz.ntmps62
  go_wp2
  go_ret
  exact ⟨rfl, rfl⟩
def locC (p : Bool × Int) : List Value := [.bool p.1, .int .i64 p.2]
theorem locC_len (p : Bool × Int) : (locC p).length = 2 := rfl
abbrev Locs := Recs 2 locC
theorem info_loc : (Tryz.prog.info? 34).map (fun i => (i.zero, i.size, i.bytes)) = some (some (.agg #[.bool false, .int .i64 0]), 2, 16) := by kernel_rfl
def LocsPost (w : World) (ls : List (Bool × Int)) (e : Ending) (w' : World) : Prop := ∃ a c, e = .returned (.slice a ls.length c) ∧ Locs w' a ls.length ls ∧ Below w.heap.size w w'
theorem places_any (a : Option Addr) (n c : Nat) (xs : List Int) (w : World) (h : Ints w a n xs) (hn : n ≤ 1000000) :
    Calls Tryz.prog 63 #[.slice a n c] w (LocsPost w (xs.map fun x => (false, x))) := by
  have HL := Lib.hid h.1
  have H := Lib.hid h
  clear h
  go_enter Tryz.func63, Tryz.ntmps63
  go_wp2
  go_loopw [2, 4, 7] (fun v x i wr => ∃ (k : Nat), k ≤ n ∧ i = .int .i64 k ∧ Hid (wr.ownsRow w.heap.size 34 2 v k (((xs.take k).map fun x => (false, x)).flatMap locC)) ∧ Hid (Below w.heap.size w wr)) (fun _ _ i _ => n - (intOf i).toNat)
  case atStart => exact ⟨0, by omega, rfl, World.ownsRow_nil _ _ _ _, Below.refl _ _⟩
  case round =>
    obtain ⟨k, hk, rfl, HO, HB⟩ := hrel
    by_cases hlt : k < n
    · obtain ⟨b, o, rfl, hc, _⟩ := (H.out.ext HB.out).2.2 k hlt
      have HS : Hid (((xs.take (k + 1)).map fun x => (false, x)).flatMap locC = ((xs.take k).map fun x => (false, x)).flatMap locC ++ [.bool false, .int .i64 (xs.getD k 0)]) := by
        have hk' : k < xs.length := by rw [HL.out]; exact hlt
        rw [Hid, takeS xs k 0 hk', List.map_append, List.flatMap_append]
        rfl
      generalize xs.getD k 0 = x at *
      go_wp2_with (first
        | (at_builtin
           refine wpList_append1 rfl wr (.tmp 11) (.tmp 14) 86 34 rfl w.heap.size _ 2 16 Tryz.underlying86 info_loc rfl (by omega) u2 k _ [.bool false, .int .i64 x] rfl HO.out wr.heap.size rfl rfl rfl (by simp [Value.oneCell']) (by simp only [maxLen]; omega) (by omega) HB.out.size ?_
           intro g cap w2 hown2 hg2 hat2
           have HO2 : Hid (w2.ownsRow w.heap.size 34 2 (.slice (some ⟨g, 0, none⟩) (k + 1) cap) (k + 1) (((xs.take (k + 1)).map fun x => (false, x)).flatMap locC)) := by rw [Hid, HS.out]; exact hown2
           have HB2 : Hid (Below w.heap.size w w2) := HB.out.grown hg2 HB.out.size (fun j e => (HO.out.lt j e).1)
           clear hown2 hg2 hat2))
      go_roundw
      case rel => exact ⟨k + 1, by omega, by go_num, HO2, HB2⟩
      case measure => simp [intOf]; omega
    · obtain rfl : k = n := by omega
      go_wp2
      go_ret
      have ho := HO.out
      rw [List.take_of_length_le (by rw [HL.out]; omega)] at ho
      have hlen : (xs.map fun x => (false, x)).length = k := by rw [List.length_map, HL.out]
      rw [← hlen] at ho
      obtain ⟨a2, c2, e2, hr, _⟩ := recs_of_own locC_len ho (by rw [hlen]; omega)
      exact ⟨a2, c2, congrArg _ e2, hr, HB.out⟩
structure InsD where
  op : Int
  dst : Int
  a : Int
  b : Int
  imm : Int
  callee : Int
  args : List Int
  many : Int
structure MachD where
  regs : Int
  args : List Int
  ret : Int
  saved : List Int
def writesL (m : MachD) (i : InsD) : List (Bool × Int) :=
  if hasV i.op = 32 then [(false, m.ret)] else if withB (hasV i.op) 1 then [(false, i.dst)] else if withB (hasV i.op) 16 then [(true, i.imm)] else []
def readsL (m : MachD) (i : InsD) : List (Bool × Int) :=
  if hasV i.op = 32 then (m.args.take (max (min i.many m.args.length) 0).toNat).map (fun x => (false, x)) else if withB (hasV i.op) 4 then [(false, i.a), (false, i.b)] else if withB (hasV i.op) 2 then [(false, i.a)] else if withB (hasV i.op) 16 then [(true, i.imm)] else []
theorem hasV_mem (o : Int) : hasV o = 0 ∨ hasV o = 3 ∨ hasV o = 7 ∨ hasV o = 9 ∨ hasV o = 11 ∨ hasV o = 14 ∨ hasV o = 17 ∨ hasV o = 18 ∨ hasV o = 32 := by
  unfold hasV
  repeat (first | (split; omega) | omega)
abbrev insV (i : InsD) (aa : Option Addr) (na ca : Nat) : Value := .agg #[.int .i64 i.op, .int .i64 i.dst, .int .i64 i.a, .int .i64 i.b, .int .i64 i.imm, .int .i64 i.callee, .slice aa na ca, .int .i64 i.many]
abbrev machV (m : MachD) (a1 : Option Addr) (n1 c1 : Nat) (a2 : Option Addr) (n2 c2 : Nat) : Value := .agg #[.int .i64 m.regs, .slice a1 n1 c1, .int .i64 m.ret, .slice a2 n2 c2]
theorem one_ints (X : World) (H : Nat) (hH : X.heap.size = H) (x : Int) (hx : I64 x) (t : TypeId) : Ints (X.alloc (.cells #[.int .i64 x] t)) (some ⟨H, 0, none⟩) 1 [x] := by
  subst hH
  refine ⟨rfl, by omega, fun k hk => ?_⟩
  obtain rfl : k = 0 := by omega
  exact ⟨X.heap.size, 0, rfl, by rw [cell_of_row _ _ _ _ _ _ (heap_alloc_new X _)]; rfl, hx⟩
theorem two_ints (X : World) (H : Nat) (hH : X.heap.size = H) (x y : Int) (hx : I64 x) (hy : I64 y) (t : TypeId) : Ints (X.alloc (.cells #[.int .i64 x, .int .i64 y] t)) (some ⟨H, 0, none⟩) 2 [x, y] := by
  subst hH
  refine ⟨rfl, by omega, fun k hk => ?_⟩
  match k, hk with
  | 0, _ => exact ⟨X.heap.size, 0, rfl, by rw [cell_of_row _ _ _ _ _ _ (heap_alloc_new X _)]; rfl, hx⟩
  | 1, _ => exact ⟨X.heap.size, 0, rfl, by rw [cell_of_row _ _ _ _ _ _ (heap_alloc_new X _)]; rfl, hy⟩
theorem one_loc (X : World) (H : Nat) (hH : X.heap.size = H) (b : Bool) (x : Int) (t : TypeId) : Locs (X.alloc (.cells #[.bool b, .int .i64 x] t)) (some ⟨H, 0, none⟩) 1 [(b, x)] :=
  recs_new (ls := [(b, x)]) X H hH t locC_len (by simp)
theorem box2 (w : World) (o1 o2 : Obj) (W : World) (h : Below ((w.alloc o1).alloc o2).heap.size ((w.alloc o1).alloc o2) W) : W.heap[w.heap.size]? = some o1 ∧ W.heap[w.heap.size + 1]? = some o2 ∧ Below w.heap.size w W := by
  refine ⟨?_, ?_, ext_trans (ext_trans (ext_alloc w o1) (ext_alloc _ o2)) h⟩
  · rw [h.block _ (by simp; omega), Below.heap_alloc _ _ _ (by simp)]
    exact heap_alloc_new w o1
  · rw [h.block _ (by simp)]
    have := heap_alloc_new (w.alloc o1) o2
    simpa using this
abbrev machO (m : MachD) (a1 : Option Addr) (n1 c1 : Nat) (a2 : Option Addr) (n2 c2 : Nat) : Obj := .cells #[.int .i64 m.regs, .slice a1 n1 c1, .int .i64 m.ret, .slice a2 n2 c2] 24
abbrev insO (i : InsD) (aa : Option Addr) (na ca : Nat) : Obj := .cells #[.int .i64 i.op, .int .i64 i.dst, .int .i64 i.a, .int .i64 i.b, .int .i64 i.imm, .int .i64 i.callee, .slice aa na ca, .int .i64 i.many] 52
theorem mi_cells {W : World} {M I : Nat} {m : MachD} {i : InsD} {a1 a2 aa : Option Addr} {n1 c1 n2 c2 na ca : Nat} (h1 : W.heap[M]? = some (machO m a1 n1 c1 a2 n2 c2)) (h2 : W.heap[I]? = some (insO i aa na ca)) :
    W.cell? ⟨M, 1, none⟩ = some (.slice a1 n1 c1) ∧ W.cell? ⟨M, 2, none⟩ = some (.int .i64 m.ret) ∧ W.cell? ⟨I, 1, none⟩ = some (.int .i64 i.dst) ∧ W.cell? ⟨I, 2, none⟩ = some (.int .i64 i.a) ∧ W.cell? ⟨I, 3, none⟩ = some (.int .i64 i.b) ∧ W.cell? ⟨I, 4, none⟩ = some (.int .i64 i.imm) ∧ W.cell? ⟨I, 7, none⟩ = some (.int .i64 i.many) := by
  refine ⟨?_, ?_, ?_, ?_, ?_, ?_, ?_⟩
  all_goals (first | (rw [cell_of_row _ _ _ _ _ _ h1]; rfl) | (rw [cell_of_row _ _ _ _ _ _ h2]; rfl))
theorem writes_any (m : MachD) (i : InsD) (a1 a2 aa : Option Addr) (n1 c1 n2 c2 na ca : Nat) (w : World) (h1 : I64 m.ret) (h2 : I64 i.dst) :
    Calls Tryz.prog 41 #[machV m a1 n1 c1 a2 n2 c2, insV i aa na ca] w (LocsPost w (writesL m i)) := by
  have H1 := Lib.hid h1
  have H2 := Lib.hid h2
  clear h1 h2
  rcases hasV_mem i.op with hv | hv | hv | hv | hv | hv | hv | hv | hv
  all_goals
    have HV := Lib.hid hv
    clear hv
    go_enter Tryz.func41, Tryz.ntmps41
    go_wp2_with (first
      | (go_at_call 61
         refine (has_any _ _).mono ?_
         rintro e w1 ⟨rfl, hb1⟩
         obtain ⟨x1, x2, x3⟩ := box2 w (machO m a1 n1 c1 a2 n2 c2) (insO i aa na ca) w1 hb1
         obtain ⟨-, y1, y2, -, -, y3, -⟩ := mi_cells x1 x2
         have HB1 := Lib.hid x3
         clear x1 x2 x3 hb1
         rw [HV.out])
      | (go_at_call 62
         refine (with_any _ _ _).mono ?_
         rintro e w' ⟨rfl, rfl⟩
         simp only [show withB 0 32 = false from rfl, show withB 3 32 = false from rfl, show withB 7 32 = false from rfl, show withB 9 32 = false from rfl, show withB 11 32 = false from rfl, show withB 14 32 = false from rfl, show withB 17 32 = false from rfl, show withB 18 32 = false from rfl, show withB 32 32 = true from rfl, show withB 0 1 = false from rfl, show withB 3 1 = true from rfl, show withB 7 1 = true from rfl, show withB 9 1 = true from rfl, show withB 11 1 = true from rfl, show withB 14 1 = false from rfl, show withB 17 1 = true from rfl, show withB 18 1 = false from rfl, show withB 0 16 = false from rfl, show withB 14 16 = false from rfl, show withB 18 16 = true from rfl])
      | (go_at_call 63
         (first
           | refine (places_any (some ⟨w1.heap.size, 0, none⟩) 1 1 [m.ret] _ (one_ints w1 w1.heap.size rfl m.ret H1.out _) (by omega)).mono ?_
           | refine (places_any (some ⟨w1.heap.size, 0, none⟩) 1 1 [i.dst] _ (one_ints w1 w1.heap.size rfl i.dst H2.out _) (by omega)).mono ?_)
         rintro e w2 ⟨a3, c3, rfl, hl3, hb3⟩
         have HL3 := Lib.hid hl3
         have HB3 := Lib.hid (ext_trans (ext_trans HB1.out (ext_alloc w1 _)) hb3)
         clear hl3 hb3))
    go_ret
    first
      | (have hw : writesL m i = [(false, m.ret)] := (by unfold writesL; rw [HV.out]; rfl)
         rw [LocsPost, hw]
         exact ⟨a3, c3, rfl, HL3.out, HB3.out⟩)
      | (have hw : writesL m i = [(false, i.dst)] := (by unfold writesL; rw [HV.out]; rfl)
         rw [LocsPost, hw]
         exact ⟨a3, c3, rfl, HL3.out, HB3.out⟩)
      | (have hw : writesL m i = [(true, i.imm)] := (by unfold writesL; rw [HV.out]; rfl)
         rw [LocsPost, hw]
         exact ⟨_, _, rfl, one_loc _ _ rfl _ _ _, ext_trans HB1.out (ext_alloc _ _)⟩)
      | (have hw : writesL m i = [] := (by unfold writesL; rw [HV.out]; rfl)
         rw [LocsPost, hw]
         exact ⟨none, 0, rfl, Recs.nil _ _ _, HB1.out⟩)
theorem reads_rest (m : MachD) (i : InsD) (a1 a2 aa : Option Addr) (n1 c1 n2 c2 na ca : Nat) (w : World) (h : Ints w a1 n1 m.args) (hn : n1 ≤ 1000000) (hc : n1 ≤ c1) (h1 : I64 i.a) (h2 : I64 i.b) (h3 : I64 i.many) (h32 : ¬ hasV i.op = 32) :
    Calls Tryz.prog 40 #[machV m a1 n1 c1 a2 n2 c2, insV i aa na ca] w (LocsPost w (readsL m i)) := by
  have H1 := Lib.hid h1
  have H2 := Lib.hid h2
  have H := Lib.hid h
  have HLA := Lib.hid h.1
  obtain ⟨h3, h4⟩ := h3
  clear h1 h2 h
  have hx : hasV i.op = 0 ∨ hasV i.op = 3 ∨ hasV i.op = 7 ∨ hasV i.op = 9 ∨ hasV i.op = 11 ∨ hasV i.op = 14 ∨ hasV i.op = 17 ∨ hasV i.op = 18 := by
    have := hasV_mem i.op
    omega
  clear h32
  rcases hx with hv | hv | hv | hv | hv | hv | hv | hv
  all_goals
    have HV := Lib.hid hv
    clear hv
    go_enter Tryz.func40, Tryz.ntmps40
    go_wp2_with (first
      | (go_at_call 61
         refine (has_any _ _).mono ?_
         rintro e w1 ⟨rfl, hb1⟩
         obtain ⟨x1, x2, x3⟩ := box2 w (machO m a1 n1 c1 a2 n2 c2) (insO i aa na ca) w1 hb1
         obtain ⟨y0, y1, y2, y3, y4, y5, y6⟩ := mi_cells x1 x2
         have HB1 := Lib.hid x3
         clear x1 x2 x3 hb1
         rw [HV.out])
      | (go_at_call 62
         refine (with_any _ _ _).mono ?_
         rintro e w' ⟨rfl, rfl⟩
         simp only [show withB 0 1 = false from rfl, show withB 0 2 = false from rfl, show withB 0 4 = false from rfl, show withB 0 16 = false from rfl, show withB 0 32 = false from rfl, show withB 3 1 = true from rfl, show withB 3 2 = true from rfl, show withB 3 4 = false from rfl, show withB 3 16 = false from rfl, show withB 3 32 = false from rfl, show withB 7 1 = true from rfl, show withB 7 2 = true from rfl, show withB 7 4 = true from rfl, show withB 7 16 = false from rfl, show withB 7 32 = false from rfl, show withB 9 1 = true from rfl, show withB 9 2 = false from rfl, show withB 9 4 = false from rfl, show withB 9 16 = false from rfl, show withB 9 32 = false from rfl, show withB 11 1 = true from rfl, show withB 11 2 = true from rfl, show withB 11 4 = false from rfl, show withB 11 16 = false from rfl, show withB 11 32 = false from rfl, show withB 14 1 = false from rfl, show withB 14 2 = true from rfl, show withB 14 4 = true from rfl, show withB 14 16 = false from rfl, show withB 14 32 = false from rfl, show withB 17 1 = true from rfl, show withB 17 2 = false from rfl, show withB 17 4 = false from rfl, show withB 17 16 = true from rfl, show withB 17 32 = false from rfl, show withB 18 1 = false from rfl, show withB 18 2 = true from rfl, show withB 18 4 = false from rfl, show withB 18 16 = true from rfl, show withB 18 32 = false from rfl, show withB 32 1 = false from rfl, show withB 32 2 = false from rfl, show withB 32 4 = false from rfl, show withB 32 16 = false from rfl, show withB 32 32 = true from rfl])
      | (go_at_call 63
         (first
           | (with_reducible refine (places_any (some ⟨w1.heap.size, 0, none⟩) 2 2 [i.a, i.b] _ (two_ints w1 w1.heap.size rfl i.a i.b H1.out H2.out _) (by omega)).mono ?_)
           | (with_reducible refine (places_any (some ⟨w1.heap.size, 0, none⟩) 1 1 [i.a] _ (one_ints w1 w1.heap.size rfl i.a H1.out _) (by omega)).mono ?_))
         rintro e w2 ⟨a3, c3, rfl, hl3, hb3⟩
         have HL3 := Lib.hid hl3
         have HB3 := Lib.hid (ext_trans (ext_trans HB1.out (ext_alloc w1 _)) hb3)
         clear hl3 hb3))
    go_ret
    first
      | (have hw : readsL m i = [(false, i.a), (false, i.b)] := (by unfold readsL; rw [HV.out]; rfl)
         rw [LocsPost, hw]
         exact ⟨a3, c3, rfl, HL3.out, HB3.out⟩)
      | (have hw : readsL m i = [(false, i.a)] := (by unfold readsL; rw [HV.out]; rfl)
         rw [LocsPost, hw]
         exact ⟨a3, c3, rfl, HL3.out, HB3.out⟩)
      | (have hw : readsL m i = [(true, i.imm)] := (by unfold readsL; rw [HV.out]; rfl)
         rw [LocsPost, hw]
         exact ⟨_, _, rfl, one_loc _ _ rfl _ _ _, ext_trans HB1.out (ext_alloc _ _)⟩)
      | (have hw : readsL m i = [] := (by unfold readsL; rw [HV.out]; rfl)
         rw [LocsPost, hw]
         exact ⟨none, 0, rfl, Recs.nil _ _ _, HB1.out⟩)
end
end Go.Proofs.YtfpbfdkjcmlimaaGreat
