/-
 EdgeSmall, its own walk. (Printed by gen_edgesmall.py.)
-/
import Derived.Test.YtblhmdhfhaencaaGreatLR
import Derived.Test.YtblhmdhfhaencaaGreatRC
import Derived.Test.YtblhmdhfhaencaaGreatDA
import Derived.Test.YtblhmdhfhaencaaGreatRF
import Derived.Test.YtblhmdhfhaencaaGreatRowG
import Derived.Test.YtblhmdhfhaencaaGreatDI
import Derived.IntWalk
import Derived.Test.YtblhmdhfhaencaaGreatBP
import Derived.Test.YtblhmdhfhaencaaGreatRows
import Derived.WalkKit
import Derived.ProofKit
import Derived.OpenShut
import Derived.ShutString
import Derived.ChangeOld
import Derived.Below
import Derived.SizedLaws
import Derived.Lib.SmallJoins
namespace Go.Proofs.YtblhmdhfhaencaaGreat
set_option linter.unusedSimpArgs false
set_option linter.unusedVariables false
set_option linter.unusedSectionVars false
set_option maxRecDepth 100000
set_option maxHeartbeats 40000000
section
open Go.RowKit Go.Shelf
attribute [local go_sem] Oper.semAt_some wide_fn wide_depth wide_fnR wide_depthR
theorem lrows_lit {W : World} {B : Nat} {rs : List SlR} {vs : Array Value} {t : TypeId} (h : W.heap[B]? = some (.cells vs t (0, 0))) (hv : vs.toList = rs.flatMap csL) (hr : ∀ r ∈ rs, Ints W r.sa r.xs.length r.xs) (hl : rs.length ≤ 1000 := by simp) : LRows W (some ⟨B, 0, none⟩) rs.length rs := by
 refine ⟨⟨rfl, by omega, fun k x hx => ⟨B, 0, rfl, fun j hj => ?_⟩⟩, hr⟩
 have hl2 : ∀ l : List SlR, (l.flatMap csL)[k]? = (l[k]?).map (fun r => Value.slice r.sa r.xs.length r.sc) := by
  intro l;have : l.flatMap csL = l.map (fun r => Value.slice r.sa r.xs.length r.sc) := by
   induction l with
   | nil => rfl
   | cons x l ih => simp [csL] at ih ⊢; exact ih
  rw [this, List.getElem?_map]
 obtain rfl : j = 0 := by omega
 rw [cell_of_row _ _ _ _ _ _ h, show 0 + k * 1 + 0 = k by omega]
 have : vs[k]? = vs.toList[k]? := by simp
 rw [this, hv, hl2, hx]
 rfl
def fOf (pa : Option Addr) (pc : Nat) (ba : Option Addr) (bc : Nat) (L : List (List Int)) : FuncR := ⟨pa, 1, pc, [1], ba, L.length, bc, L.map fun l => ⟨blkOf l, []⟩⟩
theorem func_ok {L : List (List Int)} {w : World} {base : Nat} {pa : Option Addr} {pc : Nat} {ba : Option Addr} {bc : Nat} (hL : ∀ l ∈ L, ∀ x ∈ l, I64 x) (ho : OwnR 73 5 blkC w base (.slice ba L.length bc) (L.map blkOf)) (hp : OwnI w base (.slice pa 1 pc) [1]) : FuncOK w (fOf pa pc ba bc L) := by
 have hbk := blks_own ho hL
 refine ⟨hp.ints, ⟨by simp [fOf], by have := hbk.1.2.1; simpa [fOf] using this, fun k r hr => ?_⟩, fun b hb => ?_⟩
 · simp only [fOf, List.getElem?_map, Option.map_eq_some_iff] at hr;obtain ⟨l, hl, rfl⟩ := hr;exact hbk.1.2.2 k (blkOf l) (by rw [List.getElem?_map, hl]; rfl)
 · obtain ⟨l, hl, rfl⟩ := List.mem_map.1 hb;exact ⟨hbk.2 _ (List.mem_map.2 ⟨l, hl, rfl⟩), Recs.nil _ _ _, fun r hr => by cases hr⟩
theorem gr_setRow (w : World) (g : Nat) (cs : Array Value) : w.grownBy (w.setRow g cs) (some g) := ⟨rfl, rfl, rfl, by simp, fun q hq hn => setRow_other _ _ _ _ (fun e => hn (by rw [e]))⟩
theorem tiles_nil (w : World) : TilesOK w none 0 [] := ⟨Recs.nil 3 tileC w, by simp⟩
def SmTiles (W : World) (v : Value) : Prop := ∃ (a : Option Addr) (n c : Nat) (ls : List TileR), v = .slice a n c ∧ TilesOK W a n ls ∧ n ≤ c ∧ n ≤ 1000 ∧ (c = 0 → a = none)
theorem Build17Post.sm {ts : List TermD} {w w' : World} {e : Ending} (h : Build17Post ts w e w') : ∃ v en, e = .returned (.tuple #[v, .int .i64 en]) ∧ SmTiles w' v ∧ Below w.heap.size w w' := by
 obtain ⟨h0, h1, hb⟩ := h
 cases hf : fitsB ts with
 | false => exact ⟨nilV, 2, h0 hf, ⟨none, 0, 0, [], rfl, tiles_nil _, by omega, by omega, fun _ => rfl⟩, hb⟩
 | true =>
   obtain ⟨v, ls, he, ht, hd⟩ := h1 hf;obtain ⟨a, c, rfl⟩ := ht.own.form;refine ⟨_, 0, he, ⟨a, ls.length, c, ls, rfl, ht.ok, ?_, ?_, ?_⟩, hb⟩
   · rcases ht.own.1.2 with ⟨h, _⟩ | ⟨g, cap, cur, h, _, _, h1, _⟩
     · injection h with _ h1 h2; omega
     · injection h with _ h3 h2; omega
   · have := congrArg List.length hd;rw [tdOf_len, tilesP_len] at this;have h2 := parts_len hf;have h3 := (fits_facts hf).2.1.2;have h4 := (ord_perm (n := ts.length) (L := partsP ts) (fun p hp => (parts_listS h3 (parts_ok hf) p hp).2.2.2.1)).length_eq;omega
   · intro hc;rcases ht.own.1.2 with ⟨h, _⟩ | ⟨g, cap, cur, h, _, _, h1, _⟩
     · injection h
     · injection h with _ h3 h2;have := congrArg List.length hd;rw [tdOf_len, tilesP_len] at this;omega
theorem lit8 (w W : World) (h : W = (((((((w.alloc (.cells #[.int .i64 1] 3)).alloc (.cells #[.int .i64 2] 3)).alloc (.cells #[.int .i64 3] 3)).alloc (.cells #[.int .i64 1, .int .i64 2] 3)).alloc (.cells #[.int .i64 2, .int .i64 3] 3)).alloc (.cells #[.int .i64 3, .int .i64 1] 3)).alloc (.cells #[.int .i64 1, .int .i64 1] 3)).alloc (.cells #[.slice none 0 0, .slice (some ⟨w.heap.size, 0, none⟩) 1 1, .slice (some ⟨w.heap.size + 1, 0, none⟩) 1 1, .slice (some ⟨w.heap.size + 1 + 1, 0, none⟩) 1 1, .slice (some ⟨w.heap.size + 1 + 1 + 1, 0, none⟩) 2 2, .slice (some ⟨w.heap.size + 1 + 1 + 1 + 1, 0, none⟩) 2 2, .slice (some ⟨w.heap.size + 1 + 1 + 1 + 1 + 1, 0, none⟩) 2 2, .slice (some ⟨w.heap.size + 1 + 1 + 1 + 1 + 1 + 1, 0, none⟩) 2 2] 22)) :
  LRows W (some ⟨w.heap.size + 1 + 1 + 1 + 1 + 1 + 1 + 1, 0, none⟩) 8 [⟨[], none, 0⟩, ⟨[1], some ⟨w.heap.size, 0, none⟩, 1⟩, ⟨[2], some ⟨w.heap.size + 1, 0, none⟩, 1⟩, ⟨[3], some ⟨w.heap.size + 1 + 1, 0, none⟩, 1⟩, ⟨[1, 2], some ⟨w.heap.size + 1 + 1 + 1, 0, none⟩, 2⟩, ⟨[2, 3], some ⟨w.heap.size + 1 + 1 + 1 + 1, 0, none⟩, 2⟩, ⟨[3, 1], some ⟨w.heap.size + 1 + 1 + 1 + 1 + 1, 0, none⟩, 2⟩, ⟨[1, 1], some ⟨w.heap.size + 1 + 1 + 1 + 1 + 1 + 1, 0, none⟩, 2⟩] ∧ Below w.heap.size w W := by
 have h0 : W.heap[w.heap.size]? = some (.cells #[.int .i64 1] 3 (0, 0)) := by
  rw [h];rw [Below.heap_alloc _ _ _ (by simp <;> omega), Below.heap_alloc _ _ _ (by simp <;> omega), Below.heap_alloc _ _ _ (by simp <;> omega), Below.heap_alloc _ _ _ (by simp <;> omega), Below.heap_alloc _ _ _ (by simp <;> omega), Below.heap_alloc _ _ _ (by simp <;> omega), Below.heap_alloc _ _ _ (by simp <;> omega)];exact heap_at _ _ _ (by simp)
 have h1 : W.heap[w.heap.size + 1]? = some (.cells #[.int .i64 2] 3 (0, 0)) := by
  rw [h];rw [Below.heap_alloc _ _ _ (by simp <;> omega), Below.heap_alloc _ _ _ (by simp <;> omega), Below.heap_alloc _ _ _ (by simp <;> omega), Below.heap_alloc _ _ _ (by simp <;> omega), Below.heap_alloc _ _ _ (by simp <;> omega), Below.heap_alloc _ _ _ (by simp <;> omega)];exact heap_at _ _ _ (by simp)
 have h2 : W.heap[w.heap.size + 1 + 1]? = some (.cells #[.int .i64 3] 3 (0, 0)) := by
  rw [h];rw [Below.heap_alloc _ _ _ (by simp <;> omega), Below.heap_alloc _ _ _ (by simp <;> omega), Below.heap_alloc _ _ _ (by simp <;> omega), Below.heap_alloc _ _ _ (by simp <;> omega), Below.heap_alloc _ _ _ (by simp <;> omega)];exact heap_at _ _ _ (by simp)
 have h3 : W.heap[w.heap.size + 1 + 1 + 1]? = some (.cells #[.int .i64 1, .int .i64 2] 3 (0, 0)) := by
  rw [h];rw [Below.heap_alloc _ _ _ (by simp <;> omega), Below.heap_alloc _ _ _ (by simp <;> omega), Below.heap_alloc _ _ _ (by simp <;> omega), Below.heap_alloc _ _ _ (by simp <;> omega)];exact heap_at _ _ _ (by simp)
 have h4 : W.heap[w.heap.size + 1 + 1 + 1 + 1]? = some (.cells #[.int .i64 2, .int .i64 3] 3 (0, 0)) := by
  rw [h];rw [Below.heap_alloc _ _ _ (by simp <;> omega), Below.heap_alloc _ _ _ (by simp <;> omega), Below.heap_alloc _ _ _ (by simp <;> omega)];exact heap_at _ _ _ (by simp)
 have h5 : W.heap[w.heap.size + 1 + 1 + 1 + 1 + 1]? = some (.cells #[.int .i64 3, .int .i64 1] 3 (0, 0)) := by
  rw [h];rw [Below.heap_alloc _ _ _ (by simp <;> omega), Below.heap_alloc _ _ _ (by simp <;> omega)];exact heap_at _ _ _ (by simp)
 have h6 : W.heap[w.heap.size + 1 + 1 + 1 + 1 + 1 + 1]? = some (.cells #[.int .i64 1, .int .i64 1] 3 (0, 0)) := by
  rw [h];rw [Below.heap_alloc _ _ _ (by simp <;> omega)];exact heap_at _ _ _ (by simp)
 have hr : W.heap[w.heap.size + 1 + 1 + 1 + 1 + 1 + 1 + 1]? = some (.cells #[.slice none 0 0, .slice (some ⟨w.heap.size, 0, none⟩) 1 1, .slice (some ⟨w.heap.size + 1, 0, none⟩) 1 1, .slice (some ⟨w.heap.size + 1 + 1, 0, none⟩) 1 1, .slice (some ⟨w.heap.size + 1 + 1 + 1, 0, none⟩) 2 2, .slice (some ⟨w.heap.size + 1 + 1 + 1 + 1, 0, none⟩) 2 2, .slice (some ⟨w.heap.size + 1 + 1 + 1 + 1 + 1, 0, none⟩) 2 2, .slice (some ⟨w.heap.size + 1 + 1 + 1 + 1 + 1 + 1, 0, none⟩) 2 2] 22 (0, 0)) := by rw [h]; exact heap_at _ _ _ (by simp)
 refine ⟨lrows_lit hr rfl ?_, ?_⟩
 · intro r hm;simp only [List.mem_cons, List.not_mem_nil, or_false] at hm;rcases hm with rfl | rfl | rfl | rfl | rfl | rfl | rfl | rfl
   · exact (OwnI.nil W 0).ints
   · exact intsLit (xs := [1]) h0 rfl (i64s [1]) (by simp)
   · exact intsLit (xs := [2]) h1 rfl (i64s [2]) (by simp)
   · exact intsLit (xs := [3]) h2 rfl (i64s [3]) (by simp)
   · exact intsLit (xs := [1, 2]) h3 rfl (i64s [1, 2]) (by simp)
   · exact intsLit (xs := [2, 3]) h4 rfl (i64s [2, 3]) (by simp)
   · exact intsLit (xs := [3, 1]) h5 rfl (i64s [3, 1]) (by simp)
   · exact intsLit (xs := [1, 1]) h6 rfl (i64s [1, 1]) (by simp)
 · rw [h];refine Below.alloc ?_ (by simp <;> omega) _;refine Below.alloc ?_ (by simp <;> omega) _;refine Below.alloc ?_ (by simp <;> omega) _;refine Below.alloc ?_ (by simp <;> omega) _;refine Below.alloc ?_ (by simp <;> omega) _;refine Below.alloc ?_ (by simp <;> omega) _;refine Below.alloc ?_ (by simp <;> omega) _;refine Below.alloc ?_ (by simp <;> omega) _;exact Below.refl _ _
theorem lit6 (w W : World) (h : W = (((((w.alloc (.cells #[.int .i64 1] 3)).alloc (.cells #[.int .i64 2, .int .i64 5] 3)).alloc (.cells #[.int .i64 3] 3)).alloc (.cells #[.int .i64 2, .int .i64 4] 3)).alloc (.cells #[.int .i64 1] 3)).alloc (.cells #[.slice (some ⟨w.heap.size, 0, none⟩) 1 1, .slice (some ⟨w.heap.size + 1, 0, none⟩) 2 2, .slice (some ⟨w.heap.size + 1 + 1, 0, none⟩) 1 1, .slice (some ⟨w.heap.size + 1 + 1 + 1, 0, none⟩) 2 2, .slice (some ⟨w.heap.size + 1 + 1 + 1 + 1, 0, none⟩) 1 1, .slice none 0 0] 22)) :
  LRows W (some ⟨w.heap.size + 1 + 1 + 1 + 1 + 1, 0, none⟩) 6 [⟨[1], some ⟨w.heap.size, 0, none⟩, 1⟩, ⟨[2, 5], some ⟨w.heap.size + 1, 0, none⟩, 2⟩, ⟨[3], some ⟨w.heap.size + 1 + 1, 0, none⟩, 1⟩, ⟨[2, 4], some ⟨w.heap.size + 1 + 1 + 1, 0, none⟩, 2⟩, ⟨[1], some ⟨w.heap.size + 1 + 1 + 1 + 1, 0, none⟩, 1⟩, ⟨[], none, 0⟩] ∧ Below w.heap.size w W := by
 have h0 : W.heap[w.heap.size]? = some (.cells #[.int .i64 1] 3 (0, 0)) := by
  rw [h];rw [Below.heap_alloc _ _ _ (by simp <;> omega), Below.heap_alloc _ _ _ (by simp <;> omega), Below.heap_alloc _ _ _ (by simp <;> omega), Below.heap_alloc _ _ _ (by simp <;> omega), Below.heap_alloc _ _ _ (by simp <;> omega)];exact heap_at _ _ _ (by simp)
 have h1 : W.heap[w.heap.size + 1]? = some (.cells #[.int .i64 2, .int .i64 5] 3 (0, 0)) := by
  rw [h];rw [Below.heap_alloc _ _ _ (by simp <;> omega), Below.heap_alloc _ _ _ (by simp <;> omega), Below.heap_alloc _ _ _ (by simp <;> omega), Below.heap_alloc _ _ _ (by simp <;> omega)];exact heap_at _ _ _ (by simp)
 have h2 : W.heap[w.heap.size + 1 + 1]? = some (.cells #[.int .i64 3] 3 (0, 0)) := by
  rw [h];rw [Below.heap_alloc _ _ _ (by simp <;> omega), Below.heap_alloc _ _ _ (by simp <;> omega), Below.heap_alloc _ _ _ (by simp <;> omega)];exact heap_at _ _ _ (by simp)
 have h3 : W.heap[w.heap.size + 1 + 1 + 1]? = some (.cells #[.int .i64 2, .int .i64 4] 3 (0, 0)) := by
  rw [h];rw [Below.heap_alloc _ _ _ (by simp <;> omega), Below.heap_alloc _ _ _ (by simp <;> omega)];exact heap_at _ _ _ (by simp)
 have h4 : W.heap[w.heap.size + 1 + 1 + 1 + 1]? = some (.cells #[.int .i64 1] 3 (0, 0)) := by
  rw [h];rw [Below.heap_alloc _ _ _ (by simp <;> omega)];exact heap_at _ _ _ (by simp)
 have hr : W.heap[w.heap.size + 1 + 1 + 1 + 1 + 1]? = some (.cells #[.slice (some ⟨w.heap.size, 0, none⟩) 1 1, .slice (some ⟨w.heap.size + 1, 0, none⟩) 2 2, .slice (some ⟨w.heap.size + 1 + 1, 0, none⟩) 1 1, .slice (some ⟨w.heap.size + 1 + 1 + 1, 0, none⟩) 2 2, .slice (some ⟨w.heap.size + 1 + 1 + 1 + 1, 0, none⟩) 1 1, .slice none 0 0] 22 (0, 0)) := by rw [h]; exact heap_at _ _ _ (by simp)
 refine ⟨lrows_lit hr rfl ?_, ?_⟩
 · intro r hm;simp only [List.mem_cons, List.not_mem_nil, or_false] at hm;rcases hm with rfl | rfl | rfl | rfl | rfl | rfl
   · exact intsLit (xs := [1]) h0 rfl (i64s [1]) (by simp)
   · exact intsLit (xs := [2, 5]) h1 rfl (i64s [2, 5]) (by simp)
   · exact intsLit (xs := [3]) h2 rfl (i64s [3]) (by simp)
   · exact intsLit (xs := [2, 4]) h3 rfl (i64s [2, 4]) (by simp)
   · exact intsLit (xs := [1]) h4 rfl (i64s [1]) (by simp)
   · exact (OwnI.nil W 0).ints
 · rw [h];refine Below.alloc ?_ (by simp <;> omega) _;refine Below.alloc ?_ (by simp <;> omega) _;refine Below.alloc ?_ (by simp <;> omega) _;refine Below.alloc ?_ (by simp <;> omega) _;refine Below.alloc ?_ (by simp <;> omega) _;refine Below.alloc ?_ (by simp <;> omega) _;exact Below.refl _ _
def HidAll (n q0 d1 q1 d2 q2 q3 m5 m4 m3 d5 m53 d3 m35 : Nat) : Prop :=
 (n : Int) % 8 = (q0 : Int) ∧ (n : Int) / 8 = (d1 : Int) ∧ (d1 : Int) % 8 = (q1 : Int) ∧ (n : Int) / 64 = (d2 : Int) ∧ (d2 : Int) % 8 = (q2 : Int) ∧ (n : Int) / 512 = (q3 : Int) ∧ (n : Int) % 5 = (m5 : Int) ∧ (n : Int) % 4 = (m4 : Int) ∧ (n : Int) % 3 = (m3 : Int) ∧ (n : Int) / 5 = (d5 : Int) ∧ (d5 : Int) % 3 = (m53 : Int) ∧ (n : Int) / 3 = (d3 : Int) ∧ (d3 : Int) % 5 = (m35 : Int) ∧
   (q0 < 8 ∧ q1 < 8 ∧ q2 < 8 ∧ q3 < 8) ∧ (m5 < 5 ∧ m4 < 4 ∧ m3 < 3 ∧ m53 < 3 ∧ m35 < 5) ∧ (d1 ≤ 4096 ∧ d2 ≤ 4096 ∧ d5 ≤ 4096 ∧ d3 ≤ 4096)
theorem TilesOK.take {W : World} {a : Option Addr} {n h : Nat} {ls : List TileR} (ht : TilesOK W a n ls) (hh : h ≤ n) : TilesOK W a h (ls.take h) :=
 ⟨⟨by rw [List.length_take, ht.1.1]; omega, by have := ht.1.2.1; omega, fun k x hx => ht.1.2.2 k x (by
   rw [List.getElem?_take] at hx
   split at hx
   · exact hx
   · cases hx)⟩, fun t h1 => ht.2 t (List.mem_of_mem_take h1)⟩
theorem ints_all {W : World} {a : Option Addr} {n : Nat} {xs : List Int} (h : Ints W a n xs) : ∀ x ∈ xs, I64 x := fun x hx => by
 obtain ⟨k, hk, rfl⟩ := List.mem_iff_getElem.1 hx
 obtain ⟨_, _, _, _, h1⟩ := h.2.2 k (by rw [← h.1]; exact hk)
 simpa [List.getD_eq_getElem?_getD, hk] using h1
theorem rows_at {W : World} {A n : Nat} {rs : List SlR} (h : LRows W (some ⟨A, 0, none⟩) n rs) {k : Nat} (hk : k < n) : ∃ r : SlR, W.cell? ⟨A, k, none⟩ = some (.slice r.sa r.xs.length r.sc) ∧ Ints W r.sa r.xs.length r.xs := by
 obtain ⟨r, b, o, _, e, hc, hi⟩ := h.cells hk
 injection e with e
 injection e with e1 e2
 subst e1 e2
 rw [Nat.zero_add] at hc
 exact ⟨r, hc, hi⟩
abbrev fO (f : FuncR) : Obj := funcO f.pa f.pn f.pc f.ba f.bn f.bc
theorem list6_ok : ∀ l ∈ ([[1], [2, 5], [3], [2, 4], [1], []] : List (List Int)), ∀ x ∈ l, I64 x := by
 intro l hm
 simp only [List.mem_cons, List.not_mem_nil, or_false] at hm
 rcases hm with rfl | rfl | rfl | rfl | rfl | rfl
 · exact i64s [1]
 · exact i64s [2, 5]
 · exact i64s [3]
 · exact i64s [2, 4]
 · exact i64s [1]
 · exact i64s []
abbrev nilF : FuncR := ⟨none, 0, 0, [], none, 0, 0, []⟩
theorem nilF_ok (w : World) : FuncOK w nilF := ⟨(OwnI.nil w 0).ints, Recs.nil _ _ _, fun b hb => by cases hb⟩
theorem edgeSmall_walk (w : World) : Calls Tryz.prog 5 #[] w fun e w' => e = .returned (.bool true) ∧ Below w.heap.size w w' := by
 go_enter Tryz.func5, Tryz.ntmps5
 go_upto_region 2 with (fail)
 obtain ⟨W, hW⟩ : ∃ W, W = (((((((w.alloc (.cells #[.int .i64 1] 3)).alloc (.cells #[.int .i64 2] 3)).alloc (.cells #[.int .i64 3] 3)).alloc (.cells #[.int .i64 1, .int .i64 2] 3)).alloc (.cells #[.int .i64 2, .int .i64 3] 3)).alloc (.cells #[.int .i64 3, .int .i64 1] 3)).alloc (.cells #[.int .i64 1, .int .i64 1] 3)).alloc (.cells #[.slice none 0 0, .slice (some ⟨w.heap.size, 0, none⟩) 1 1, .slice (some ⟨w.heap.size + 1, 0, none⟩) 1 1, .slice (some ⟨w.heap.size + 1 + 1, 0, none⟩) 1 1, .slice (some ⟨w.heap.size + 1 + 1 + 1, 0, none⟩) 2 2, .slice (some ⟨w.heap.size + 1 + 1 + 1 + 1, 0, none⟩) 2 2, .slice (some ⟨w.heap.size + 1 + 1 + 1 + 1 + 1, 0, none⟩) 2 2, .slice (some ⟨w.heap.size + 1 + 1 + 1 + 1 + 1 + 1, 0, none⟩) 2 2] 22) := ⟨_, rfl⟩
 rw [← hW]
 obtain ⟨hl, hb⟩ := lit8 w W hW
 obtain ⟨A, hA⟩ : ∃ A, A = w.heap.size + 1 + 1 + 1 + 1 + 1 + 1 + 1 := ⟨_, rfl⟩
 rw [← hA] at hl ⊢
 have HL := Lib.hid hl
 have HB := Lib.hid hb
 clear hW hl hb hA
 go_wp2
 go_loopw [2, 3, 4, 5, 6, 7] (fun s2 _ _ _ _ _ wr => ∃ n : Nat, n ≤ 4200 ∧ s2 = .int .i64 (n : Int) ∧ Hid (Below W.heap.size W wr)) (fun s2 _ _ _ _ _ _ => 4300 - (intOf s2).toNat)
 case atStart => exact ⟨0, by omega, rfl, Below.refl _ _⟩
 case round =>
  obtain ⟨n, hn, rfl, HBn⟩ := hrel;by_cases hlt : n < 4096
  · have hlt' : (n : Int) < 4096 := by omega
    obtain ⟨q0, hq0⟩ : ∃ q, q = n % 8 := ⟨_, rfl⟩
    obtain ⟨d1, hd1⟩ : ∃ q, q = n / 8 := ⟨_, rfl⟩
    obtain ⟨q1, hq1⟩ : ∃ q, q = d1 % 8 := ⟨_, rfl⟩
    obtain ⟨d2, hd2⟩ : ∃ q, q = n / 64 := ⟨_, rfl⟩
    obtain ⟨q2, hq2⟩ : ∃ q, q = d2 % 8 := ⟨_, rfl⟩
    obtain ⟨q3, hq3⟩ : ∃ q, q = n / 512 := ⟨_, rfl⟩
    obtain ⟨m5, hm5⟩ : ∃ q, q = n % 5 := ⟨_, rfl⟩
    obtain ⟨m4, hm4⟩ : ∃ q, q = n % 4 := ⟨_, rfl⟩
    obtain ⟨m3, hm3⟩ : ∃ q, q = n % 3 := ⟨_, rfl⟩
    obtain ⟨d5, hd5⟩ : ∃ q, q = n / 5 := ⟨_, rfl⟩
    obtain ⟨m53, hm53⟩ : ∃ q, q = d5 % 3 := ⟨_, rfl⟩
    obtain ⟨d3, hd3⟩ : ∃ q, q = n / 3 := ⟨_, rfl⟩
    obtain ⟨m35, hm35⟩ : ∃ q, q = d3 % 5 := ⟨_, rfl⟩
    have hall : HidAll n q0 d1 q1 d2 q2 q3 m5 m4 m3 d5 m53 d3 m35 := by
     unfold HidAll; omega
    clear hq0 hd1 hq1 hd2 hq2 hq3 hm5 hm4 hm3 hd5 hm53 hd3 hm35;obtain ⟨e0, e1, e1', e2, e2', e3, e5, e4, e6, e7, e7', e8, e8', ⟨b0, b1, b2, b3⟩, ⟨b5, b4, b6, b7, b8⟩, ⟨z1, z2, z5, z3⟩⟩ := hall;have b0' : (q0 : Int) < 8 := by omega
    have b1' : (q1 : Int) < 8 := by omega
    have b2' : (q2 : Int) < 8 := by omega
    have b3' : (q3 : Int) < 8 := by omega
    have hlr := HL.out.ext HBn.out;obtain ⟨r0, c0, i0⟩ := rows_at hlr b0;obtain ⟨r1, c1, i1⟩ := rows_at hlr b1;obtain ⟨r2, c2, i2⟩ := rows_at hlr b2;obtain ⟨r3, c3, i3⟩ := rows_at hlr b3;have HIR : Hid (∀ r ∈ [r0, r1, r2, r3], Ints wr r.sa r.xs.length r.xs) := fun r hm => by
     simp only [List.mem_cons, List.not_mem_nil, or_false] at hm;rcases hm with rfl | rfl | rfl | rfl
     · exact i0
     · exact i1
     · exact i2
     · exact i3
    have C0 := Lib.hid c0;have C1 := Lib.hid c1;have C2 := Lib.hid c2;have C3 := Lib.hid c3;have HIL : Hid (∀ l ∈ [r0, r1, r2, r3].map (·.xs), ∀ x ∈ l, I64 x) := fun l hm => by
     simp only [List.map_cons, List.map_nil, List.mem_cons, List.not_mem_nil, or_false] at hm;rcases hm with rfl | rfl | rfl | rfl
     · exact ints_all i0
     · exact ints_all i1
     · exact ints_all i2
     · exact ints_all i3
    clear hlr i0 i1 i2 i3 c0 c1 c2 c3;go_upto_region 5 with (fail)
    refine region_free 25 [some 26, some 27, some 28, some 29, some 30, some 31, some 32, some 33, some 34, some 35, some 36, some 37, some 38, some 39, some 40, some 41, some 42, some 43, some 44, some 45, some 46, some 47, some 48, some 49, some 3] (by kernel_rfl) (by kernel_rfl) (specB [.val (.slice (some ⟨A, 0, none⟩) 8 8), .val (.int .i64 (n : Int)), .val (.int .i64 (q0 : Int)), .val (.pointer (some ⟨A, q0, none⟩)), .val (.slice r0.sa r0.xs.length r0.sc), .val (.slice (some ⟨A, 0, none⟩) 8 8), .val (.int .i64 (n : Int)), .val (.int .i64 (d1 : Int)), .val (.int .i64 (q1 : Int)), .val (.pointer (some ⟨A, q1, none⟩)), .val (.slice r1.sa r1.xs.length r1.sc), .val (.slice (some ⟨A, 0, none⟩) 8 8), .val (.int .i64 (n : Int)), .val (.int .i64 (d2 : Int)), .val (.int .i64 (q2 : Int)), .val (.pointer (some ⟨A, q2, none⟩)), .val (.slice r2.sa r2.xs.length r2.sc), .val (.slice (some ⟨A, 0, none⟩) 8 8), .val (.int .i64 (n : Int)), .val (.int .i64 (q3 : Int)), .val (.pointer (some ⟨A, q3, none⟩)), .val (.slice r3.sa r3.xs.length r3.sc), (.any fun v lo hi W => ∃ g, v = .slice (some ⟨g, 0, none⟩) 4 4 ∧ W.heap[g]? = some (.cells #[(.slice r0.sa r0.xs.length r0.sc), (.slice r1.sa r1.xs.length r1.sc), (.slice r2.sa r2.xs.length r2.sc), (.slice r3.sa r3.xs.length r3.sc)] 22 (0, 0))), (.any fun v lo hi W => ∃ pa pc ba bc, v = funcV pa 1 pc ba 4 bc ∧ OwnR 73 5 blkC W wr.heap.size (.slice ba 4 bc) (([r0, r1, r2, r3].map (·.xs)).map blkOf) ∧ OwnI W wr.heap.size (.slice pa 1 pc) [1]), (.new (funcO none 0 0 none 0 0))]) (specB_mono ?_) ?_ ?_
    · intro k hk;simp only [List.mem_cons, List.not_mem_nil, or_false] at hk;rcases hk with rfl | rfl | rfl | rfl | rfl | rfl | rfl | rfl | rfl | rfl | rfl | rfl | rfl | rfl | rfl | rfl | rfl | rfl | rfl | rfl | rfl | rfl | rfl | rfl | rfl
      · exact trivial
      · exact trivial
      · exact trivial
      · exact trivial
      · exact trivial
      · exact trivial
      · exact trivial
      · exact trivial
      · exact trivial
      · exact trivial
      · exact trivial
      · exact trivial
      · exact trivial
      · exact trivial
      · exact trivial
      · exact trivial
      · exact trivial
      · exact trivial
      · exact trivial
      · exact trivial
      · exact trivial
      · exact trivial
      · exact fun v lo hi w w' hb h => by obtain ⟨g, e, h⟩ := h; exact ⟨g, e, block_ext hb h⟩
      · exact fun v lo hi w w' hb h => by obtain ⟨pa, pc, ba, bc, e, h1, h2⟩ := h; exact ⟨pa, pc, ba, bc, e, OwnR.ext h1 hb, h2.ext hb⟩
      · exact trivial
    · intro i hi ν lo hi' w1 K hB hD hK;have hcase : i = 0 ∨ i = 1 ∨ i = 2 ∨ i = 3 ∨ i = 4 ∨ i = 5 ∨ i = 6 ∨ i = 7 ∨ i = 8 ∨ i = 9 ∨ i = 10 ∨ i = 11 ∨ i = 12 ∨ i = 13 ∨ i = 14 ∨ i = 15 ∨ i = 16 ∨ i = 17 ∨ i = 18 ∨ i = 19 ∨ i = 20 ∨ i = 21 ∨ i = 22 ∨ i = 23 ∨ i = 24 := by omega
      clear hi;rcases hcase with rfl | rfl | rfl | rfl | rfl | rfl | rfl | rfl | rfl | rfl | rfl | rfl | rfl | rfl | rfl | rfl | rfl | rfl | rfl | rfl | rfl | rfl | rfl | rfl | rfl
      · clear hD;refine wpOp_atK rfl rfl ?_;simp only [zA,zB,zC,zD,zE,zF,zJ,zK,zG,zH,zI] at hK ⊢;go_simp;exact hK _ _ (Below.refl _ _) rfl
      · clear hD;refine wpOp_atK rfl rfl ?_;simp only [zA,zB,zC,zD,zE,zF,zJ,zK,zG,zH,zI] at hK ⊢;go_simp;exact hK _ _ (Below.refl _ _) rfl
      · have e1 := hD 1 (by kernel_rfl)
        replace e1 : ν 1 = (.int .i64 (n : Int)) := e1
        clear hD;refine wpOp_atK rfl rfl ?_;simp only [zA,zB,zC,zD,zE,zF,zJ,zK,zG,zH,zI, e1] at hK ⊢;go_simp;refine hK _ _ (Below.refl _ _) ?_;show Value.int .i64 _ = Value.int .i64 _
        congr 1
      · have e0 := hD 0 (by kernel_rfl)
        replace e0 : ν 0 = (.slice (some ⟨A, 0, none⟩) 8 8) := e0
        have e2 := hD 2 (by kernel_rfl)
        replace e2 : ν 2 = (.int .i64 (q0 : Int)) := e2
        clear hD;refine wpOp_atK rfl rfl ?_;simp only [zA,zB,zC,zD,zE,zF,zJ,zK,zG,zH,zI, e0, e2] at hK ⊢;go_simp;exact hK _ _ (Below.refl _ _) rfl
      · have e3 := hD 3 (by kernel_rfl)
        replace e3 : ν 3 = (.pointer (some ⟨A, q0, none⟩)) := e3
        clear hD;refine wpOp_atK rfl rfl ?_;simp only [zA,zB,zC,zD,zE,zF,zJ,zK,zG,zH,zI, e3] at hK ⊢;have hcl := cell_ext hB C0.out;go_simp;exact hK _ _ (Below.refl _ _) rfl
      · clear hD;refine wpOp_atK rfl rfl ?_;simp only [zA,zB,zC,zD,zE,zF,zJ,zK,zG,zH,zI] at hK ⊢;go_simp;exact hK _ _ (Below.refl _ _) rfl
      · clear hD;refine wpOp_atK rfl rfl ?_;simp only [zA,zB,zC,zD,zE,zF,zJ,zK,zG,zH,zI] at hK ⊢;go_simp;exact hK _ _ (Below.refl _ _) rfl
      · have e6 := hD 6 (by kernel_rfl)
        replace e6 : ν 6 = (.int .i64 (n : Int)) := e6
        clear hD;refine wpOp_atK rfl rfl ?_;simp only [zA,zB,zC,zD,zE,zF,zJ,zK,zG,zH,zI, e6] at hK ⊢;go_simp;refine hK _ _ (Below.refl _ _) ?_;show Value.int .i64 _ = Value.int .i64 _
        congr 1
        exact Go.IntWalk.i64_in _ (by omega)
      · have e7 := hD 7 (by kernel_rfl)
        replace e7 : ν 7 = (.int .i64 (d1 : Int)) := e7
        clear hD;refine wpOp_atK rfl rfl ?_;simp only [zA,zB,zC,zD,zE,zF,zJ,zK,zG,zH,zI, e7] at hK ⊢;go_simp;refine hK _ _ (Below.refl _ _) ?_;show Value.int .i64 _ = Value.int .i64 _
        congr 1
      · have e5 := hD 5 (by kernel_rfl)
        replace e5 : ν 5 = (.slice (some ⟨A, 0, none⟩) 8 8) := e5
        have e8 := hD 8 (by kernel_rfl)
        replace e8 : ν 8 = (.int .i64 (q1 : Int)) := e8
        clear hD;refine wpOp_atK rfl rfl ?_;simp only [zA,zB,zC,zD,zE,zF,zJ,zK,zG,zH,zI, e5, e8] at hK ⊢;go_simp;exact hK _ _ (Below.refl _ _) rfl
      · have e9 := hD 9 (by kernel_rfl)
        replace e9 : ν 9 = (.pointer (some ⟨A, q1, none⟩)) := e9
        clear hD;refine wpOp_atK rfl rfl ?_;simp only [zA,zB,zC,zD,zE,zF,zJ,zK,zG,zH,zI, e9] at hK ⊢;have hcl := cell_ext hB C1.out;go_simp;exact hK _ _ (Below.refl _ _) rfl
      · clear hD;refine wpOp_atK rfl rfl ?_;simp only [zA,zB,zC,zD,zE,zF,zJ,zK,zG,zH,zI] at hK ⊢;go_simp;exact hK _ _ (Below.refl _ _) rfl
      · clear hD;refine wpOp_atK rfl rfl ?_;simp only [zA,zB,zC,zD,zE,zF,zJ,zK,zG,zH,zI] at hK ⊢;go_simp;exact hK _ _ (Below.refl _ _) rfl
      · have e12 := hD 12 (by kernel_rfl)
        replace e12 : ν 12 = (.int .i64 (n : Int)) := e12
        clear hD;refine wpOp_atK rfl rfl ?_;simp only [zA,zB,zC,zD,zE,zF,zJ,zK,zG,zH,zI, e12] at hK ⊢;go_simp;refine hK _ _ (Below.refl _ _) ?_;show Value.int .i64 _ = Value.int .i64 _
        congr 1
        exact Go.IntWalk.i64_in _ (by omega)
      · have e13 := hD 13 (by kernel_rfl)
        replace e13 : ν 13 = (.int .i64 (d2 : Int)) := e13
        clear hD;refine wpOp_atK rfl rfl ?_;simp only [zA,zB,zC,zD,zE,zF,zJ,zK,zG,zH,zI, e13] at hK ⊢;go_simp;refine hK _ _ (Below.refl _ _) ?_;show Value.int .i64 _ = Value.int .i64 _
        congr 1
      · have e11 := hD 11 (by kernel_rfl)
        replace e11 : ν 11 = (.slice (some ⟨A, 0, none⟩) 8 8) := e11
        have e14 := hD 14 (by kernel_rfl)
        replace e14 : ν 14 = (.int .i64 (q2 : Int)) := e14
        clear hD;refine wpOp_atK rfl rfl ?_;simp only [zA,zB,zC,zD,zE,zF,zJ,zK,zG,zH,zI, e11, e14] at hK ⊢;go_simp;exact hK _ _ (Below.refl _ _) rfl
      · have e15 := hD 15 (by kernel_rfl)
        replace e15 : ν 15 = (.pointer (some ⟨A, q2, none⟩)) := e15
        clear hD;refine wpOp_atK rfl rfl ?_;simp only [zA,zB,zC,zD,zE,zF,zJ,zK,zG,zH,zI, e15] at hK ⊢;have hcl := cell_ext hB C2.out;go_simp;exact hK _ _ (Below.refl _ _) rfl
      · clear hD;refine wpOp_atK rfl rfl ?_;simp only [zA,zB,zC,zD,zE,zF,zJ,zK,zG,zH,zI] at hK ⊢;go_simp;exact hK _ _ (Below.refl _ _) rfl
      · clear hD;refine wpOp_atK rfl rfl ?_;simp only [zA,zB,zC,zD,zE,zF,zJ,zK,zG,zH,zI] at hK ⊢;go_simp;exact hK _ _ (Below.refl _ _) rfl
      · have e18 := hD 18 (by kernel_rfl)
        replace e18 : ν 18 = (.int .i64 (n : Int)) := e18
        clear hD;refine wpOp_atK rfl rfl ?_;simp only [zA,zB,zC,zD,zE,zF,zJ,zK,zG,zH,zI, e18] at hK ⊢;go_simp;refine hK _ _ (Below.refl _ _) ?_;show Value.int .i64 _ = Value.int .i64 _
        congr 1
        exact Go.IntWalk.i64_in _ (by omega)
      · have e17 := hD 17 (by kernel_rfl)
        replace e17 : ν 17 = (.slice (some ⟨A, 0, none⟩) 8 8) := e17
        have e19 := hD 19 (by kernel_rfl)
        replace e19 : ν 19 = (.int .i64 (q3 : Int)) := e19
        clear hD;refine wpOp_atK rfl rfl ?_;simp only [zA,zB,zC,zD,zE,zF,zJ,zK,zG,zH,zI, e17, e19] at hK ⊢;go_simp;exact hK _ _ (Below.refl _ _) rfl
      · have e20 := hD 20 (by kernel_rfl)
        replace e20 : ν 20 = (.pointer (some ⟨A, q3, none⟩)) := e20
        clear hD;refine wpOp_atK rfl rfl ?_;simp only [zA,zB,zC,zD,zE,zF,zJ,zK,zG,zH,zI, e20] at hK ⊢;have hcl := cell_ext hB C3.out;go_simp;exact hK _ _ (Below.refl _ _) rfl
      · have e4 := hD 4 (by kernel_rfl)
        replace e4 : ν 4 = (.slice r0.sa r0.xs.length r0.sc) := e4
        have e10 := hD 10 (by kernel_rfl)
        replace e10 : ν 10 = (.slice r1.sa r1.xs.length r1.sc) := e10
        have e16 := hD 16 (by kernel_rfl)
        replace e16 : ν 16 = (.slice r2.sa r2.xs.length r2.sc) := e16
        have e21 := hD 21 (by kernel_rfl)
        replace e21 : ν 21 = (.slice r3.sa r3.xs.length r3.sc) := e21
        clear hD;refine wpOp_atK rfl rfl ?_;simp only [zA,zB,zC,zD,zE,zF,zJ,zK,zG,zH,zI, e4, e10, e16, e21] at hK ⊢;go_simp;exact hK _ _ (ext_alloc _ _) ⟨_, rfl, heap_alloc_new _ _⟩
      · have e22 := hD 22 (by kernel_rfl);unfold specB at e22;simp only [List.getD_cons_zero, List.getD_cons_succ, specK] at e22;clear hD;refine wpOp_atK rfl rfl ?_;simp only [zA,zB,zC,zD,zE,zF,zJ,zK,zG,zH,zI] at hK ⊢;obtain ⟨g9, e22', h22⟩ := e22;simp only [e22'] at hK ⊢;go_simp;refine (of18_any (some ⟨g9, 0, none⟩) 4 4 [r0, r1, r2, r3] w1 (lrows_lit h22 rfl (fun r hm => (HIR.out r hm).ext hB)) (by omega)).mono ?_;rintro e w3 ⟨pa, pc, ba, bc, rfl, ho, hp, hb3⟩;exact hK _ _ hb3 ⟨pa, pc, ba, bc, rfl, ho.mono hB.size, hp.mono hB.size⟩
      · clear hD;refine wpOp_atK rfl rfl ?_;simp only [zA,zB,zC,zD,zE,zF,zJ,zK,zG,zH,zI] at hK ⊢;go_simp;exact hK _ _ (ext_alloc _ _) ⟨rfl, by simp, heap_alloc_new _ _⟩
    · intro ν lo hi w1 hB hS hI hD;have e0 : ν 0 = (.slice (some ⟨A, 0, none⟩) 8 8) := hS 0 (by omega);have e1 : ν 1 = (.int .i64 (n : Int)) := hS 1 (by omega);have e2 : ν 2 = (.int .i64 (q0 : Int)) := hS 2 (by omega);have e3 : ν 3 = (.pointer (some ⟨A, q0, none⟩)) := hS 3 (by omega);have e4 : ν 4 = (.slice r0.sa r0.xs.length r0.sc) := hS 4 (by omega);have e5 : ν 5 = (.slice (some ⟨A, 0, none⟩) 8 8) := hS 5 (by omega);have e6 : ν 6 = (.int .i64 (n : Int)) := hS 6 (by omega);have e7 : ν 7 = (.int .i64 (d1 : Int)) := hS 7 (by omega);have e8 : ν 8 = (.int .i64 (q1 : Int)) := hS 8 (by omega);have e9 : ν 9 = (.pointer (some ⟨A, q1, none⟩)) := hS 9 (by omega);have e10 : ν 10 = (.slice r1.sa r1.xs.length r1.sc) := hS 10 (by omega);have e11 : ν 11 = (.slice (some ⟨A, 0, none⟩) 8 8) := hS 11 (by omega);have e12 : ν 12 = (.int .i64 (n : Int)) := hS 12 (by omega);have e13 : ν 13 = (.int .i64 (d2 : Int)) := hS 13 (by omega);have e14 : ν 14 = (.int .i64 (q2 : Int)) := hS 14 (by omega);have e15 : ν 15 = (.pointer (some ⟨A, q2, none⟩)) := hS 15 (by omega);have e16 : ν 16 = (.slice r2.sa r2.xs.length r2.sc) := hS 16 (by omega);have e17 : ν 17 = (.slice (some ⟨A, 0, none⟩) 8 8) := hS 17 (by omega);have e18 : ν 18 = (.int .i64 (n : Int)) := hS 18 (by omega);have e19 : ν 19 = (.int .i64 (q3 : Int)) := hS 19 (by omega);have e20 : ν 20 = (.pointer (some ⟨A, q3, none⟩)) := hS 20 (by omega);have e21 : ν 21 = (.slice r3.sa r3.xs.length r3.sc) := hS 21 (by omega);have e22 := hS 22 (by omega);unfold specB at e22;simp only [List.getD_cons_zero, List.getD_cons_succ, specK] at e22;have e23 := hS 23 (by omega);unfold specB at e23;simp only [List.getD_cons_zero, List.getD_cons_succ, specK] at e23;obtain ⟨e24, l24, h24⟩ := hS 24 (by omega);clear hS;simp only [List.drop_succ_cons, List.drop_zero, zA,zB,zC,zD,zE,zF,zJ,zK,zG,zH,zI, e0, e1, e2, e3, e4, e5, e6, e7, e8, e9, e10, e11, e12, e13, e14, e15, e16, e17, e18, e19, e20, e21, e24];obtain ⟨pa, pc, ba, bc, e23', ho, hp⟩ := e23;simp only [e23'];have i24 := hI 24 (by omega);generalize lo 24 = F at *;refine wpList_store_row (o := ⟨none, .store 25 _ _, _, _, _, _⟩) rfl 25 _ _ rfl F #[.slice pa 1 pc, .slice ba 4 bc] rfl rfl 25 _ h24 size_func rfl (by simp [Value.oneCell']) ?_;have hF1 := i24.1;have hb6 := below_setRow (g := F) hB hF1 #[.slice pa 1 pc, .slice ba 4 bc];have hr6 := setRow_heap w1 F _ #[.slice pa 1 pc, .slice ba 4 bc] _ _ h24;have ho6 := OwnR.kept ho (gr_setRow w1 F #[.slice pa 1 pc, .slice ba 4 bc]) (.inr (own_other ho.1 h24 (by decide)));have hp6 := OwnI.kept hp (gr_setRow w1 F #[.slice pa 1 pc, .slice ba 4 bc]) (.inr (own_other hp.1 h24 (by decide)));have hf6 := func_ok HIL.out ho6 hp6;generalize w1.setRow F #[.slice pa 1 pc, .slice ba 4 bc] = W6 at *;have HF6 := Lib.hid hf6;have HR6 := Lib.hid hr6;have HB6 := Lib.hid (ext_trans HBn.out hb6);obtain ⟨f, hfe⟩ : ∃ f, f = fOf pa pc ba bc ([r0, r1, r2, r3].map (·.xs)) := ⟨_, rfl⟩
      have hfn : f.pn ≤ 17592186044416 := by rw [hfe]; show 1 ≤ _; omega
      have hFV : (funcO pa 1 pc ba 4 bc : Obj) = fO f := by rw [hfe]; rfl
      rw [← hfe] at HF6;have HR7 : Hid (W6.heap[F]? = some (fO f)) := by rw [Hid, ← hFV]; exact HR6.out
      clear hI hD hB e0 e1 e2 e3 e4 e5 e6 e7 e8 e9 e10 e11 e12 e13 e14 e15 e16 e17 e18 e19 e20 e21 e22 e24 e23' ho hp h24 i24 hF1 hb6 hr6 ho6 hp6 hf6 hfe hFV HR6
      go_upto_region 7 with (first
       | ((with_reducible show wpList _ _ _ (⟨some 51, _, _, _, _, _⟩ :: _) _ _); refine wpList_load_row (o := ⟨some 51, .load 25 _, _, _, _, _⟩) rfl 25 _ rfl F rfl 25 _ (0, 0) _ HR7.out Tryz.underlying25 rfl size_func ?_)
       | (go_at_call 31
          refine (build17_any f.pa f.pn f.pc f.ba f.bn f.bc (hOf f.bs) W6 HF6.out.2.x.1).mono ?_;intro e w7 hp7;obtain ⟨v, en, rfl, hsm, hb7⟩ := hp7.sm;obtain ⟨ta, tn, tc, ls, rfl, ht7, hnc, htn, htc⟩ := hsm;have HT7 := Lib.hid ht7;have HTC := Lib.hid htc;have HF7 := Lib.hid (HF6.out.ext hb7);have HR8 := Lib.hid (block_ext hb7 HR7.out);have HB7 := Lib.hid (ext_trans HB6.out hb7)
          clear hp7 hb7 ht7 htc))
      clear HF6 HR7 HB6 HIR C0 C1 C2 C3 HIL;obtain ⟨hh, hhd⟩ : ∃ q, q = tn * 2 / 3 := ⟨_, rfl⟩
      have hhn : hh ≤ tn := by omega
      have ehh : (tn : Int) * 2 / 3 = (hh : Int) := by omega
      have hhc : (hh : Int) ≤ (tc : Int) := by omega
      clear hhd;have HER1 : Hid (∀ n' : ExtW w7, Calls Tryz.prog 3 #[funcVR f, .slice ta tn tc, .int .i64 ((m4 : Int) - 1)] n'.val fun e w'' => e = .returned (.bool true) ∧ ∃ m : ExtW w7, w'' = m.val) := fun n' => quiet_ext (edgeRows_walk f hfn ta tn tc ls _ n'.val (HF7.out.ext n'.ext) (HT7.out.ext n'.ext));have HER3 : Hid (∀ n' : ExtW w7, Calls Tryz.prog 3 #[funcVR f, .slice ta hh tc, .int .i64 (m4 : Int)] n'.val fun e w'' => e = .returned (.bool true) ∧ ∃ m : ExtW w7, w'' = m.val) := fun n' => quiet_ext (edgeRows_walk f hfn ta hh tc (ls.take hh) _ n'.val (HF7.out.ext n'.ext) ((HT7.out.take hhn).ext n'.ext));have HES : Hid (∀ n' : ExtW w7, Calls Tryz.prog 4 #[funcVR f, edgeV ⟨(m5 : Int), (m53 : Int) - 1, (m35 : Int)⟩] n'.val fun e w'' => e = .returned (.bool true) ∧ ∃ m : ExtW w7, w'' = m.val) := fun n' => quiet_ext (edgeSpots_walk f hfn _ n'.val (HF7.out.ext n'.ext));have QF : Hid (∀ w', (∃ n' : ExtW w7, w' = n'.val) → w'.heap[F]? = some (fO f)) := fun w' ⟨n', e⟩ => by rw [e]; exact block_ext n'.ext HR8.out
      have HNE : Nonempty (ExtW w7) := ⟨⟨w7, Below.refl _ _⟩⟩
      go_cut [94] (fun s94 wx => s94 = .bool false ∧ Hid (Below w7.heap.size w7 wx))
      case first =>
       by_cases hm : m3 = 0
       · have d3 : ((m3 : Int) == 0) = true := by simp; omega
         clear hm;refine region_ext (by kernel_rfl) (by kernel_rfl) ?_
         repeat (first
          | go_big_quiet_skip
          | ((with_reducible show wpQuiet _ _ _ _ (⟨some 55, _, _, _, _, _⟩ :: _) _); refine wpQuiet_load_row (o := ⟨some 55, .load 25 _, _, _, _, _⟩) (by kernel_rfl) 25 _ rfl F rfl 25 _ (0, 0) _ QF.out Tryz.underlying25 rfl size_func ?_; simp only [zJ,zG,zH,zI])
          | ((with_reducible show wpQuiet _ _ _ _ (⟨some 63, _, _, _, _, _⟩ :: _) _); refine wpQuiet_load_row (o := ⟨some 63, .load 25 _, _, _, _, _⟩) (by kernel_rfl) 25 _ rfl F rfl 25 _ (0, 0) _ QF.out Tryz.underlying25 rfl size_func ?_; simp only [zJ,zG,zH,zI])
          | ((with_reducible show wpQuiet _ _ _ _ (⟨some 82, _, _, _, _, _⟩ :: _) _); refine wpQuiet_load_row (o := ⟨some 82, .load 25 _, _, _, _, _⟩) (by kernel_rfl) 25 _ rfl F rfl 25 _ (0, 0) _ QF.out Tryz.underlying25 rfl size_func ?_; simp only [zJ,zG,zH,zI])
          | go_big_quiet_step (first | (go_at_call 3; (with_reducible first | exact HER1.out _ | exact HER3.out _)) | (go_at_call 4; exact HES.out _)))
         refine wpQuiet_nil ?_;rintro _ ⟨n', rfl⟩
         go_wp2_with fail
         go_meet
         exact ⟨rfl, n'.ext⟩
       · have d3 : ((m3 : Int) == 0) = false := by simp; omega
         clear hm;refine region_ext (by kernel_rfl) (by kernel_rfl) ?_
         repeat (first
          | go_big_quiet_skip
          | ((with_reducible show wpQuiet _ _ _ _ (⟨some 55, _, _, _, _, _⟩ :: _) _); refine wpQuiet_load_row (o := ⟨some 55, .load 25 _, _, _, _, _⟩) (by kernel_rfl) 25 _ rfl F rfl 25 _ (0, 0) _ QF.out Tryz.underlying25 rfl size_func ?_; simp only [zJ,zG,zH,zI])
          | ((with_reducible show wpQuiet _ _ _ _ (⟨some 63, _, _, _, _, _⟩ :: _) _); refine wpQuiet_load_row (o := ⟨some 63, .load 25 _, _, _, _, _⟩) (by kernel_rfl) 25 _ rfl F rfl 25 _ (0, 0) _ QF.out Tryz.underlying25 rfl size_func ?_; simp only [zJ,zG,zH,zI])
          | go_big_quiet_step (first | (go_at_call 3; (with_reducible exact HER1.out _)) | (go_at_call 4; exact HES.out _)))
         refine wpQuiet_nil ?_;rintro _ ⟨n', rfl⟩
         go_wp2_with fail
         go_meet
         exact ⟨rfl, n'.ext⟩
      case rest =>
       obtain ⟨rfl, HBc⟩ := hcut;clear HER1 HER3 HES QF HNE;have HR9 := Lib.hid (block_ext HBc.out HR8.out);have HF9 := Lib.hid (HF7.out.ext HBc.out);have HB9 := Lib.hid (ext_trans HB7.out HBc.out);clear HBc
       go_upto_region 10 with (first
        | ((with_reducible show wpList _ _ _ (⟨some 95, _, _, _, _, _⟩ :: _) _ _); refine wpList_load_row (o := ⟨some 95, .load 25 _, _, _, _, _⟩) rfl 25 _ rfl F rfl 25 _ (0, 0) _ HR9.out Tryz.underlying25 rfl size_func ?_)
        | (go_at_call 27
           refine (all18_any f.pa f.pn f.pc f.ba f.bn f.bc (hOf f.bs) wc HF9.out.2.x.1).mono ?_;rintro e w10 ⟨v6, rfl, ho, hb10⟩;obtain ⟨xa, xc, rfl⟩ := OwnR.form ho;obtain ⟨xs, hxs⟩ : ∃ l, l = allE (tsOf (hOf f.bs)) := ⟨_, rfl⟩
           rw [← hxs] at ho ⊢;obtain ⟨xn, hxn⟩ : ∃ k, k = xs.length := ⟨_, rfl⟩
           have HXN := Lib.hid hxn;rw [← hxn] at ho ⊢;have HX10 := Lib.hid ho;have HR10 := Lib.hid (block_ext hb10 HR9.out);have HF10 := Lib.hid (HF9.out.ext hb10);have HB10 := Lib.hid (ext_trans HB9.out hb10);have hx2 := ho.2;rw [← hxn] at hx2
           clear hxs hxn ho hb10))
       go_wp2
       go_loopw [7] (fun s7 wi => ∃ i : Nat, i ≤ xn ∧ s7 = .int .i64 (i : Int) ∧ Hid (Below w10.heap.size w10 wi)) (fun s7 _ => xn - (intOf s7).toNat)
       case atStart => exact ⟨0, by omega, rfl, Below.refl _ _⟩
       case round =>
        obtain ⟨i, hi, rfl, HBi⟩ := hrel;by_cases hil : i < xn
        · have hil' : (i : Int) < (xn : Int) := by omega
          have hform : ∃ g, xa = some ⟨g, 0, none⟩ := by
           obtain ⟨g, c', e⟩ := own_form HX10.out.1 (by have := HXN.out; omega);injection e with e _ _;exact ⟨g, e⟩
          obtain ⟨xg, rfl⟩ := hform;have hrg := (OwnR.ext HX10.out HBi.out).range csE_len ⟨0, 0, 0⟩ (k := i) (by rw [← HXN.out]; exact hil);obtain ⟨x, hx⟩ : ∃ x, x = xs.getD i ⟨0, 0, 0⟩ := ⟨_, rfl⟩
          rw [← hx] at hrg;have HRG := Lib.hid hrg;clear hrg hx;obtain ⟨V, hV⟩ : ∃ V, V = wr := ⟨_, rfl⟩
          rw [← hV] at HRG HBi ⊢;clear hV;have HES : Hid (∀ n' : ExtW V, Calls Tryz.prog 4 #[funcVR f, edgeV x] n'.val fun e w'' => e = .returned (.bool true) ∧ ∃ m : ExtW V, w'' = m.val) := fun n' => quiet_ext (edgeSpots_walk f hfn x n'.val (HF10.out.ext (ext_trans HBi.out n'.ext)));have QF : Hid (∀ w', (∃ n' : ExtW V, w' = n'.val) → w'.heap[F]? = some (fO f)) := fun w' ⟨n', e⟩ => by rw [e]; exact block_ext n'.ext (block_ext HBi.out HR10.out)
          have QX : Hid (∀ w', (∃ n' : ExtW V, w' = n'.val) → w'.rangeAt xg (i * 3) (csE x)) := fun w' ⟨n', e⟩ => by rw [e]; exact fun j v hv => cell_ext n'.ext (HRG.out j v hv)
          have HNE : Nonempty (ExtW V) := ⟨⟨V, Below.refl _ _⟩⟩
          go_upto_region 13 with (fail)
          refine region_ext (by kernel_rfl) (by kernel_rfl) ?_
          repeat (first
           | go_big_quiet_skip
           | ((with_reducible show wpQuiet _ _ _ _ (⟨some 103, _, _, _, _, _⟩ :: _) _); refine wpQuiet_load_row (o := ⟨some 103, .load 25 _, _, _, _, _⟩) (by kernel_rfl) 25 _ rfl F rfl 25 _ (0, 0) _ QF.out Tryz.underlying25 rfl size_func ?_; simp only [zJ,zG,zH,zI])
           | ((with_reducible show wpQuiet _ _ _ _ (⟨some 107, _, _, _, _, _⟩ :: _) _); refine wpQuiet_load_mid (o := ⟨some 107, .load 46 _, _, _, _, _⟩) (by kernel_rfl) 46 _ rfl xg (i * 3) rfl (csE x) _ QX.out Tryz.underlying46 rfl (by rw [csE_len]; kernel_rfl) ?_; simp only [zJ,zG,zH,zI])
           | go_big_quiet_step (first | (go_at_call 4; exact HES.out _)))
          refine wpQuiet_nil ?_;rintro _ ⟨n', rfl⟩;have HB8 := Lib.hid (ext_trans HBi.out n'.ext);clear HES QF QX;go_wp2
          go_roundw
          case rel => exact ⟨i + 1, by omega, by go_num, HB8⟩
          case measure => simp [intOf]; omega
        · obtain rfl : i = xn := by omega
          have HBZ := Lib.hid (ext_trans HB10.out HBi.out);go_wp2
          go_roundw
          case rel => exact ⟨n + 1 + m5, by omega, by go_num, HBZ⟩
          case measure => simp [intOf]; omega
  · have hlt' : ¬ (n : Int) < 4096 := by omega
    have HBW := Lib.hid (ext_trans HB.out HBn.out);clear HL HB
    go_upto_region 16 with (first
     | (go_at_call 30
        obtain ⟨hl6, hb6⟩ := lit6 wr _ rfl;refine (of18_any _ 6 6 _ _ hl6 (by omega)).mono ?_;rintro e w2 ⟨pa, pc, ba, bc, he, ho, hp, hb2⟩;have hf : FuncOK w2 (fOf pa pc ba bc [[1], [2, 5], [3], [2, 4], [1], []]) := func_ok list6_ok ho hp;obtain ⟨f, hfe⟩ : ∃ f, f = fOf pa pc ba bc [[1], [2, 5], [3], [2, 4], [1], []] := ⟨_, rfl⟩
        rw [← hfe] at hf;have hfn : f.pn ≤ 17592186044416 := (by rw [hfe]; show 1 ≤ _; omega)
        obtain rfl : e = .returned (funcVR f) := (by rw [he, hfe]; rfl)
        have HF2 := Lib.hid hf;have HB2 := Lib.hid (ext_trans HBW.out (ext_trans hb6 hb2))
        clear hl6 hb6 he ho hp hb2 hf hfe)
     | ((with_reducible show wpList _ _ _ (⟨none, _, _, _, _, _⟩ :: _) _ _); refine wpList_store_row (o := ⟨none, .store 25 _ _, _, _, _, _⟩) rfl 25 _ _ rfl w2.heap.size #[.slice f.pa f.pn f.pc, .slice f.ba f.bn f.bc] rfl rfl 25 _ (heap_alloc_new _ _) (by kernel_rfl) rfl rfl ?_))
    obtain ⟨W3, hW3⟩ : ∃ W, W = w2.alloc (fO f) := ⟨_, rfl⟩
    have hRF : W3.heap[w2.heap.size]? = some (fO f) := by rw [hW3]; exact heap_alloc_new _ _
    have hB3 : Below w2.heap.size w2 W3 := by rw [hW3]; exact ext_alloc _ _
    have HF3 := Lib.hid (HF2.out.ext hB3);have HB3 := Lib.hid (ext_trans HB2.out hB3);have HRF := Lib.hid hRF;rw [show w2.alloc (Obj.cells #[Value.slice f.pa f.pn f.pc, Value.slice f.ba f.bn f.bc] 25) = W3 from hW3.symm];generalize w2.heap.size = F at *;clear hRF hB3 hW3 HF2 HB2
    go_upto_region 17 with (first
     | ((with_reducible show wpList _ _ _ (⟨some 118, _, _, _, _, _⟩ :: _) _ _); refine wpList_load_row (o := ⟨some 118, .load 25 _, _, _, _, _⟩) rfl 25 _ rfl F rfl 25 _ (0, 0) _ HRF.out Tryz.underlying25 rfl size_func ?_)
     | (go_at_call 31
        refine (build17_any f.pa f.pn f.pc f.ba f.bn f.bc (hOf f.bs) W3 HF3.out.2.x.1).mono ?_;intro e w7 hp7;obtain ⟨v, en, rfl, hsm, hb7⟩ := hp7.sm;obtain ⟨ta, tn, tc, ls, rfl, ht7, hnc, htn, htc⟩ := hsm;have HT7 := Lib.hid ht7;have HF7 := Lib.hid (HF3.out.ext hb7);have HR7 := Lib.hid (block_ext hb7 HRF.out);have HB7 := Lib.hid (ext_trans HB3.out hb7)
        clear hp7 hb7 ht7 htc hnc htn))
    clear HF3 HRF HB3;have ER : ∀ (g : FuncR) (hg : g.pn ≤ 17592186044416) (hk : ∀ W', Below w7.heap.size w7 W' → FuncOK W' g) (a : Option Addr) (n c : Nat) (l : List TileR) (ht : ∀ W', Below w7.heap.size w7 W' → TilesOK W' a n l) (k : Int) (W' : World), Below w7.heap.size w7 W' → Calls Tryz.prog 3 #[funcVR g, .slice a n c, .int .i64 k] W' fun e w'' => e = .returned (.bool true) ∧ Below w7.heap.size w7 w'' := fun g hg hk a n c l ht k W' hb => (edgeRows_walk g hg a n c l k W' (hk _ hb) (ht _ hb)).mono fun e w'' h => ⟨h.1, ext_trans hb h.2⟩;have HER1 := Lib.hid (ER f hfn (fun _ hb => HF7.out.ext hb) ta tn tc ls (fun _ hb => HT7.out.ext hb) 1);have HER2 := Lib.hid (ER f hfn (fun _ hb => HF7.out.ext hb) ta tn tc ls (fun _ hb => HT7.out.ext hb) 2);have HER3 := Lib.hid (ER nilF (by decide) (fun _ _ => nilF_ok _) ta tn tc ls (fun _ hb => HT7.out.ext hb) 0);have HER4 := Lib.hid (ER f hfn (fun _ hb => HF7.out.ext hb) none 0 0 [] (fun _ _ => tiles_nil _) 0);have HES : Hid (∀ W', Below w7.heap.size w7 W' → Calls Tryz.prog 4 #[funcVR nilF, edgeV ⟨0, 0, 0⟩] W' fun e w'' => e = .returned (.bool true) ∧ Below w7.heap.size w7 w'') := fun W' hb => (edgeSpots_walk nilF (by decide) _ W' (nilF_ok _)).mono fun e w'' h => ⟨h.1, ext_trans hb h.2⟩;have HAW : Hid (∀ W', Below w7.heap.size w7 W' → Calls Tryz.prog 10 #[] W' fun e w'' => e = .returned (.bool true) ∧ Below w7.heap.size w7 w'') := fun W' hb => (awake18_any W').mono fun e w'' h => ⟨h.1, ext_trans hb h.2⟩;have QF : Hid (∀ W', Below w7.heap.size w7 W' → W'.heap[F]? = some (fO f)) := fun W' hb => block_ext hb HR7.out;have hb0 : Below w7.heap.size w7 w7 := Below.refl _ _;clear ER
    go_wp2_with (first
     | ((with_reducible show wpList _ _ _ (⟨some 122, _, _, _, _, _⟩ :: _) _ _); refine wpList_load_row (o := ⟨some 122, .load 25 _, _, _, _, _⟩) rfl 25 _ rfl F rfl 25 _ (0, 0) _ (QF.out _ (by assumption)) Tryz.underlying25 rfl size_func ?_)
     | ((with_reducible show wpList _ _ _ (⟨some 126, _, _, _, _, _⟩ :: _) _ _); refine wpList_load_rowW (o := ⟨some 126, .load 25 _, _, _, _, _⟩) (by kernel_rfl) 25 _ rfl F rfl 25 _ (0, 0) _ (QF.out _ (by assumption)) Tryz.underlying25 rfl size_func ?_)
     | ((with_reducible show wpList _ _ _ (⟨some 136, _, _, _, _, _⟩ :: _) _ _); refine wpList_load_rowW (o := ⟨some 136, .load 25 _, _, _, _, _⟩) (by kernel_rfl) 25 _ rfl F rfl 25 _ (0, 0) _ (QF.out _ (by assumption)) Tryz.underlying25 rfl size_func ?_)
     | (go_at_call 10; refine (HAW.out _ (by assumption)).mono ?_; rintro e wk ⟨rfl, hbk⟩)
     | (go_at_call 4; refine (HES.out _ (by assumption)).mono ?_; rintro e wk ⟨rfl, hbk⟩)
     | (go_at_call 3; (with_reducible refine (HER4.out _ (by assumption)).mono ?_); rintro e wk ⟨rfl, hbk⟩)
     | (go_at_call 3; (with_reducible refine (HER3.out _ (by assumption)).mono ?_); rintro e wk ⟨rfl, hbk⟩)
     | (go_at_call 3; (with_reducible refine (HER2.out _ (by assumption)).mono ?_); rintro e wk ⟨rfl, hbk⟩)
     | (go_at_call 3; (with_reducible refine (HER1.out _ (by assumption)).mono ?_); rintro e wk ⟨rfl, hbk⟩))
    go_ret
    exact ⟨rfl, ext_trans HB7.out (by assumption)⟩
end

section
open Go.ChangeShapes Go.WideShapes Go.ChangeAt Go.RowKit
theorem ownG : ownKnob Tryz.prog.godebug = none := by kernel_rfl
end
end Go.Proofs.YtblhmdhfhaencaaGreat
