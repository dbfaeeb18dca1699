/-
 Slices of records of the call's own; a variable that holds one, across rounds. No program in sight.
-/
import Derived.Test.YtblhmdhfhaencaaGreatTD
import Derived.Shelf.Sort.Plain
import Derived.Shelf.Slices.Reverse
import Derived.Ground.Names2Prog
import Derived.Shelf.Slices.Clone
import Derived.Shelf.Slices.CompactI
import Derived.Shelf.Slices.In.SortNone
import Derived.Shelf.SlicesE.Reverse
import Derived.Test.YtblhmdhfhaencaaGreatProg
import Derived.Test.YtblhmdhfhaencaaGreatEA
import Derived.Deep.LoopGhost
import Derived.Shelf.Small.Wraps
import Derived.Shelf.Bits.Mul64
import Derived.Deep.OwnRows
import Derived.Laws.CopyOwn
import Derived.Deep.DeepCutAuto
import Derived.Test.YtblhmdhfhaencaaGreatBP
import Derived.BigQuiet
namespace Go.Proofs.YtblhmdhfhaencaaGreat
set_option linter.unusedSimpArgs false
set_option linter.unusedVariables false
set_option linter.unusedSectionVars false
set_option maxRecDepth 100000
set_option maxHeartbeats 40000000
section
open Go.RowKit
def OwnR {α : Type} (e : TypeId) (size : Nat) (cs : α → List Value) (w : World) (base : Nat) (v : Value) (ls : List α) : Prop := w.ownsRow base e size v ls.length (ls.flatMap cs) ∧ ls.length ≤ 17592186044416
section
variable {α : Type} {e : TypeId} {size : Nat} {cs : α → List Value} {w w' : World} {base base' : Nat} {v : Value} {ls : List α}
theorem OwnR.nil (e : TypeId) (size : Nat) (cs : α → List Value) (w : World) (base : Nat) : OwnR e size cs w base (.slice none 0 0) [] := ⟨World.ownsRow_nil _ _ _ _, by simp⟩
theorem OwnR.mono (h : OwnR e size cs w base v ls) (hb : base' ≤ base) : OwnR e size cs w base' v ls := by
 refine ⟨⟨h.1.1, ?_⟩, h.2⟩
 rcases h.1.2 with h0 | ⟨g, cap, cur, hv, h1, r⟩
 · exact .inl h0
 · exact .inr ⟨g, cap, cur, hv, Nat.le_trans hb h1, r⟩
theorem OwnR.kept {row : Option Nat} (h : OwnR e size cs w base v ls) (hg : w.grownBy w' row) (hne : v.ownBlock = none ∨ v.ownBlock ≠ row) : OwnR e size cs w' base v ls := ⟨h.1.kept hg hne, h.2⟩
theorem OwnR.ext (h : OwnR e size cs w base v ls) (hb : Below w.heap.size w w') : OwnR e size cs w' base v ls := by
 refine ⟨h.1.kept (row := none) ⟨hb.os, hb.tape, hb.output, hb.size, fun k hk _ => hb.block k hk⟩ ?_, h.2⟩
 cases h1 : v.ownBlock with
 | none => exact .inl rfl
 | some k => exact .inr (by simp)
theorem OwnR.form (h : OwnR e size cs w base v ls) : ∃ a c, v = .slice a ls.length c := by
 rcases h.1.2 with ⟨rfl, h0⟩ | ⟨g, cap, cur, hv, _⟩
 · have h0 : ls.length = 0 := h0;rw [h0];exact ⟨none, 0, rfl⟩
 · exact ⟨_, _, hv⟩
theorem OwnR.recs {a : Option Addr} {n c : Nat} (hs : ∀ x, (cs x).length = size) (h : OwnR e size cs w base (.slice a n c) ls) : Recs size cs w a n ls := by
 obtain ⟨a', c', e1, e2, _⟩ := recs_of_own hs h.1 h.2
 injection e1 with h1 h2 h3
 subst h1 h2 h3
 exact e2
theorem OwnR.low {k : Nat} (h : OwnR e size cs w base v ls) (hk : v.ownBlock = some k) : base ≤ k ∧ k < w.heap.size := ⟨(h.1.lt k hk).1, (h.1.lt k hk).2⟩
theorem Steady.ownR (D base : Nat) (v : Value) (ls : List α) : Steady D (fun W => OwnR e size cs W base v ls) := (Steady.ownsRow _ _ _ _ _ _ _).and (Steady.pure _ _)
end
def TV (B : Nat) (ty : TypeId) (W : World) (k : Nat) : Prop := k = B ∨ ∃ v, W.heap[B]? = some (.cells #[v] ty (0, 0)) ∧ v.ownBlock = some k
theorem TV.ext {B : Nat} {ty : TypeId} {W W' : World} (h : W'.heap[B]? = W.heap[B]?) {k : Nat} (ht : TV B ty W' k) : TV B ty W k := by
 rcases ht with ht | ⟨v, hv, hk⟩
 · exact .inl ht
 · exact .inr ⟨v, h ▸ hv, hk⟩
theorem tch_var {W W' : World} {B : Nat} {ty : TypeId} {v v' : Value} (hB : W.heap[B]? = some (.cells #[v] ty (0, 0))) (hB' : W'.heap[B]? = some (.cells #[v'] ty (0, 0))) (hs : W.heap.size ≤ W'.heap.size)
  (hk : ∀ k, k < W.heap.size → k ≠ B → v.ownBlock ≠ some k → W'.heap[k]? = W.heap[k]?) (ho : ∀ k, v'.ownBlock = some k → v.ownBlock = some k ∨ W.heap.size ≤ k) : Tch (TV B ty) W W' := by
 refine ⟨hs, fun k h1 h2 => hk k h1 (fun e => h2 (.inl e)) (fun e => h2 (.inr ⟨v, hB, e⟩)), fun k ht => ?_⟩
 rcases ht with ht | ⟨u, hu, huk⟩
 · exact .inl (.inl ht)
 · rw [hB'] at hu;simp only [Option.some.injEq, Obj.cells.injEq, Array.mk.injEq, List.cons.injEq, and_true] at hu;obtain ⟨rfl, _⟩ := hu;rcases ho k huk with h | h
   · exact .inl (.inr ⟨v, hB, h⟩)
   · exact .inr h
theorem tch_below {W W' : World} {B : Nat} {ty : TypeId} (hB : B < W.heap.size) (hb : Below W.heap.size W W') : Tch (TV B ty) W W' :=
 ⟨hb.size, fun k hk _ => hb.block k hk, fun _ ht => .inl (ht.ext (hb.block B hB))⟩
section
variable {P : Program}
theorem range_listTB {α : Type} {g : Operand} {ps : Array Tmp} {assign body : Code} {Q : Exit → Act → World → Prop} {a : Act} {w : World} {gf : Nat} {lb : Array Value}
  (hg : a.eval g = .func (.func gf) #[] lb) (eg : ∀ args w, (callFunc gf args).run P w = .ok (.enter gf args) w)
  {enc : α → Array Value} {l : List α} (I : World → Prop) (hit : IterTI P gf lb enc l I) (hps : ∀ x, (enc x).size = ps.size)
  (J : List α → List α → World → Prop) (Jx : Code → World → Prop)
  (hJ : ∀ d r, Steady w.heap.size (J d r)) (hJx : ∀ c, Steady w.heap.size (Jx c)) (hInv : ∀ d r W, J d r W → I W)
  (T : World → Nat → Prop) (hT0 : ∀ d r W k, J d r W → T W k → k < W.heap.size) (hTg : ∀ W W' row, W.grownBy W' row → (∀ q, row = some q → w.heap.size ≤ q ∧ ∃ o : Obj, W.heap[q]? = some o ∧ isBook o = true) → (∃ d r, J d r W) → ∀ k, T W' k → T W k)
  (h0 : J [] l w)
  (hround : ∀ (lp : Nat) (d : List α) (x : α) (r : List α) (W : World), l = d ++ x :: r → J d (x :: r) W →
    assign.wpIn (Fence.wide.inRound lp) 0 P (Exit.then (fun a1 W1 => Keep W W1 ∧ J d (x :: r) W1 ∧ Tch T W W1 ∧ ∃ G : World → Prop, Steady w.heap.size G ∧ G W1 ∧ ∀ (lp : Nat) (W2 : World), J d (x :: r) W2 → G W2 →
     body.wpIn (Fence.wide.inRound lp) 0 P (roundEnd (fun W' => Keep W2 W' ∧ J (d ++ [x]) r W' ∧ Tch T W2 W') (fun c W' => Keep W2 W' ∧ Jx c W')) a1 W2) (fun _ _ _ => False)) { tmps := (ps.zip (enc x)).foldl (fun t (p, v) => t.setIfInBounds p v) a.tmps, defers := [] } W)
  (hdone : ∀ (D : Nat) (W : World), w.heap.size ≤ D → J l [] W → W.heap[D]? = some (.deferred (some [])) → Q .normal { a with defers := { target := .collected D, args := #[] } :: a.defers } W)
  (hstop : ∀ (D : Nat) (c : Code) (W : World), w.heap.size ≤ D → Jx c W → W.heap[D]? = some (.deferred (some [])) → c.wpIn Fence.wide 0 P Q { a with defers := { target := .collected D, args := #[] } :: a.defers } W) :
  (Code.rangeFunc g ps assign body).wpIn Fence.wide 0 P Q a w := by
 refine range_outerT (enc := enc) hg eg hit hps (fun s W => ∃ d, l = d ++ s ∧ J d s W) Jx
  (fun s x a1 W => ∃ G : World → Prop, Steady w.heap.size G ∧ G W ∧ ∀ (d : List α) (lp : Nat) (W2 : World), l = d ++ s → J d s W2 → G W2 → body.wpIn (Fence.wide.inRound lp) 0 P (roundEnd (fun W' => Keep W2 W' ∧ J (d ++ [x]) (nxL s x) W' ∧ Tch T W2 W') (fun c W' => Keep W2 W' ∧ Jx c W')) a1 W2)
  (fun s => Steady.ex fun d => (Steady.pure _ _).and (hJ d s)) hJx (fun _ _ _ => fun W W' row h hg hr => let ⟨G, h1, h2, h3⟩ := h; ⟨G, h1, h1 W W' row h2 hg hr, h3⟩) (fun s W ⟨d, _, h⟩ => hInv d s W h) T (fun s W k ⟨d, _, h⟩ ht => hT0 d s W k h ht) (fun W W' row hg hr ⟨s, d, _, h⟩ => hTg W W' row hg hr ⟨d, s, h⟩) ⟨[], rfl, h0⟩ ?_ ?_ ?_ hstop
 · rintro lp s x W hok ⟨d, hd, hj⟩;have hs := okL_cons hok;generalize nxL s x = r at hs ⊢;subst hs;refine wpIn_mono (hround lp d x r W hd hj) ?_;rintro e a1 W1 he;cases e with
   | normal =>
     obtain ⟨h1, h2, hT1, G, h4, h5, h3⟩ := he;refine ⟨h1, ⟨d, hd, h2⟩, ⟨G, h4, h5, fun d' lp' W2 hd' hj' hG' => ?_⟩, hT1⟩;have : d' = d := by
      have := hd'.symm.trans hd;exact List.append_cancel_right this
     subst this;exact h3 lp' W2 hj' hG'
   | _ => exact he.elim
 · rintro lp s x a1 W hok ⟨d, hd, hj⟩ ⟨G, _, hG, hA⟩;refine wpIn_mono (hA d lp W hd hj hG) ?_;rintro e a3 W3 he;cases e with
   | normal =>
     refine ⟨he.1, ⟨d ++ [x], ?_, he.2.1⟩, he.2.2⟩;rw [hd, List.append_assoc]
     congr 1
     exact okL_cons hok
   | ret => exact he
   | exit id => exact he
   | goto t => exact he
   | panic ch => exact he.elim
   | outgrown => exact he.elim
 · rintro D s W hD hf ⟨d, hd, hj⟩ hk;have hf : s = [] := hf;subst hf;rw [List.append_nil] at hd;subst hd;exact hdone D W hD hj hk
end
end

section
open Go.Shelf
def lays189_ren : Go.Shelf.Ren := ⟨fun | 189 => 94 | 125 => 161 | 257 => 160 | 128 => 205 | 129 => 206 | 294 => 196 | 295 => 197 | 296 => 198 | 297 => 199 | 298 => 200 | 299 => 201 | 216 => 202 | 300 => 203 | 301 => 204 | 328 => 215 | 329 => 216 | 330 => 217 | 331 => 218 | 332 => 219 | 215 => 136 | 343 => 221 | n => n, fun | 28 => 22 | 3 => 3 | 46 => 209 | 0 => 0 | 51 => 226 | 53 => 228 | 4 => 4 | 183 => 267 | 182 => 266 | 131 => 179 | 5 => 5 | 9 => 9 | 218 => 281 | 222 => 285 | 228 => 287 | 229 => 95 | n => n, fun | n => n⟩
theorem lays189 : Go.Proofs.Lays.n189 Tryz.prog lays189_ren := {
 mixed := by kernel_rfl
 f125 := Tryz.func161.trans (congrArg some (by kernel_rfl))
 f128 := Tryz.func205.trans (congrArg some (by kernel_rfl))
 f129 := Tryz.func206.trans (congrArg some (by kernel_rfl))
 f189 := Tryz.func94.trans (congrArg some (by kernel_rfl))
 f215 := Tryz.func136.trans (congrArg some (by kernel_rfl))
 f216 := Tryz.func202.trans (congrArg some (by kernel_rfl))
 f257 := Tryz.func160.trans (congrArg some (by kernel_rfl))
 f294 := Tryz.func196.trans (congrArg some (by kernel_rfl))
 f295 := Tryz.func197.trans (congrArg some (by kernel_rfl))
 f296 := Tryz.func198.trans (congrArg some (by kernel_rfl))
 f297 := Tryz.func199.trans (congrArg some (by kernel_rfl))
 f298 := Tryz.func200.trans (congrArg some (by kernel_rfl))
 f299 := Tryz.func201.trans (congrArg some (by kernel_rfl))
 f300 := Tryz.func203.trans (congrArg some (by kernel_rfl))
 f301 := Tryz.func204.trans (congrArg some (by kernel_rfl))
 f328 := Tryz.func215.trans (congrArg some (by kernel_rfl))
 f329 := Tryz.func216.trans (congrArg some (by kernel_rfl))
 f330 := Tryz.func217.trans (congrArg some (by kernel_rfl))
 f331 := Tryz.func218.trans (congrArg some (by kernel_rfl))
 f332 := Tryz.func219.trans (congrArg some (by kernel_rfl))
 f343 := Tryz.func221.trans (congrArg some (by kernel_rfl))
 t0 := Tryz.underlying0
 a0 := Tryz.isAgg0
 z0 := Tryz.sizeOf0
 v0 := Tryz.zeroValue0
 t3 := Tryz.underlying3
 a3 := Tryz.isAgg3
 z3 := Tryz.sizeOf3
 v3 := Tryz.zeroValue3
 t4 := Tryz.underlying4
 a4 := Tryz.isAgg4
 z4 := Tryz.sizeOf4
 v4 := Tryz.zeroValue4
 t5 := Tryz.underlying5
 a5 := Tryz.isAgg5
 z5 := Tryz.sizeOf5
 v5 := Tryz.zeroValue5
 t9 := Tryz.underlying9
 a9 := Tryz.isAgg9
 z9 := Tryz.sizeOf9
 v9 := Tryz.zeroValue9
 t28 := Tryz.underlying22
 a28 := Tryz.isAgg22
 z28 := Tryz.sizeOf22
 v28 := Tryz.zeroValue22
 t46 := Tryz.underlying209
 a46 := Tryz.isAgg209
 z46 := Tryz.sizeOf209
 v46 := Tryz.zeroValue209
 t51 := Tryz.underlying226
 a51 := Tryz.isAgg226
 z51 := Tryz.sizeOf226
 v51 := Tryz.zeroValue226
 t53 := Tryz.underlying228
 a53 := Tryz.isAgg228
 z53 := Tryz.sizeOf228
 v53 := Tryz.zeroValue228
 t131 := Tryz.underlying179
 a131 := Tryz.isAgg179
 z131 := Tryz.sizeOf179
 v131 := Tryz.zeroValue179
 t182 := Tryz.underlying266
 a182 := Tryz.isAgg266
 z182 := Tryz.sizeOf266
 v182 := Tryz.zeroValue266
 t183 := Tryz.underlying267
 a183 := Tryz.isAgg267
 z183 := Tryz.sizeOf267
 v183 := Tryz.zeroValue267
 t218 := Tryz.underlying281
 a218 := Tryz.isAgg281
 z218 := Tryz.sizeOf281
 v218 := Tryz.zeroValue281
 t222 := Tryz.underlying285
 a222 := Tryz.isAgg285
 z222 := Tryz.sizeOf285
 v222 := Tryz.zeroValue285
 t228 := Tryz.underlying287
 a228 := Tryz.isAgg287
 z228 := Tryz.sizeOf287
 v228 := Tryz.zeroValue287
 t229 := Tryz.underlying95
 a229 := Tryz.isAgg95
 z229 := Tryz.sizeOf95
 v229 := Tryz.zeroValue95 }
open Go.Sort Go.RowKit in
theorem slices_Sort_int (blk off cap : Nat) (zs : List Int) (w : World) (hH : Holds (Value.int .i64) w blk off zs.toArray) (hblk : blk < w.heap.size) (hsz : zs.length < 4611686018427387904) :
  Calls Tryz.prog 94 #[.slice (some ⟨blk, off, none⟩) zs.length cap] w fun e w' =>
   e = .returned (.tuple #[]) ∧ ∃ n os, w' = grow (putRow (Value.int .i64) (Sort.ahead w n) blk off (zs.mergeSort fun x y => decide (x ≤ y)).toArray) os := Any.slices_Sort_int lays189 blk off cap zs w hH hblk hsz
def lays112_ren : Go.Shelf.Ren := ⟨fun | 112 => 117 | n => n, fun | 28 => 22 | 3 => 3 | 4 => 4 | 0 => 0 | n => n, fun | n => n⟩
theorem lays112 : Go.Proofs.Lays.n112 Tryz.prog lays112_ren := {
 mixed := by kernel_rfl
 f112 := Tryz.func117.trans (congrArg some (by kernel_rfl))
 t0 := Tryz.underlying0
 a0 := Tryz.isAgg0
 z0 := Tryz.sizeOf0
 v0 := Tryz.zeroValue0
 t3 := Tryz.underlying3
 a3 := Tryz.isAgg3
 z3 := Tryz.sizeOf3
 v3 := Tryz.zeroValue3
 t4 := Tryz.underlying4
 a4 := Tryz.isAgg4
 z4 := Tryz.sizeOf4
 v4 := Tryz.zeroValue4
 t28 := Tryz.underlying22
 a28 := Tryz.isAgg22
 z28 := Tryz.sizeOf22
 v28 := Tryz.zeroValue22 }
open Go.RowKit Go.Lib Go.Sort in
theorem slices_Reverse_int (blk off cap : Nat) (zs : List Int) (w : World) (hH : Holds (Value.int .i64) w blk off zs.toArray) (hsz : zs.length ≤ 9223372036854775807) :
  Calls Tryz.prog 117 #[.slice (some ⟨blk, off, none⟩) zs.length cap] w fun e w' => e = .returned (.tuple #[]) ∧ ∃ n, w' = putRow (Value.int .i64) (Sort.ahead w n) blk off zs.reverse.toArray := Any.slices_Reverse_int lays112 blk off cap zs w hH hsz
open Go.RowKit Go.Lib Go.Sort in
theorem slices_Reverse_int_empty (a : Option Addr) (cap : Nat) (w : World) :
  Calls Tryz.prog 117 #[.slice a 0 cap] w fun e w' => e = .returned (.tuple #[]) ∧ w' = w := Any.slices_Reverse_int_empty lays112 a cap w
def laysNm220_ren : Go.Shelf.Ren := ⟨fun | 20 => 95 | n => n, fun | 22 => 22 | 3 => 3 | 4 => 4 | 0 => 0 | n => n, fun | n => n⟩
theorem laysNm220 : Go.Proofs.Lays2.n20 Tryz.prog laysNm220_ren := {
 mixed := by kernel_rfl
 f20 := Tryz.func95.trans (congrArg some (by kernel_rfl))
 t0 := Tryz.underlying0
 a0 := Tryz.isAgg0
 z0 := Tryz.sizeOf0
 v0 := Tryz.zeroValue0
 t3 := Tryz.underlying3
 a3 := Tryz.isAgg3
 z3 := Tryz.sizeOf3
 v3 := Tryz.zeroValue3
 t4 := Tryz.underlying4
 a4 := Tryz.isAgg4
 z4 := Tryz.sizeOf4
 v4 := Tryz.zeroValue4
 t22 := Tryz.underlying22
 a22 := Tryz.isAgg22
 z22 := Tryz.sizeOf22
 v22 := Tryz.zeroValue22
 i3 := by kernel_rfl }
open Go.RowKit Go.Lib Go.Sort in
theorem slices_Compact_int (blk off cap : Nat) (zs : List Int) (w : World) (hH : Holds (Value.int .i64) w blk off zs.toArray) (hsz : zs.length ≤ 9223372036854775807) (hcap : zs.length ≤ cap) :
  Calls Tryz.prog 95 #[.slice (some ⟨blk, off, none⟩) zs.length cap] w fun e w' => e = .returned (.slice (some ⟨blk, off, none⟩) (Lib.compact zs).length cap) ∧ ∃ q, w' = putRow (Value.int .i64) (Sort.ahead w q) blk off (Lib.compact zs ++ List.replicate (zs.length - (Lib.compact zs).length) 0).toArray := Any.slices_Compact_int laysNm220 blk off cap zs w hH hsz hcap
open Go.RowKit Go.Lib Go.Sort in
theorem slices_Compact_int_empty (a : Option Addr) (cap : Nat) (w : World) :
  Calls Tryz.prog 95 #[.slice a 0 cap] w fun e w' => e = .returned (.slice a 0 cap) ∧ w' = w := Any.slices_Compact_int_empty laysNm220 a cap w
open Go.RowKit Go.Sort in
theorem slices_Sort_int_none (p : Option Addr) (cap : Nat) (w : World) :
  Calls Tryz.prog 94 #[.slice p 0 cap] w fun e w' => e = .returned (.tuple #[]) ∧ w' = w := Any.slices_Sort_int_none lays189 p cap w
end

section
open Go.RowKit Go.Sort
theorem heap_mapBlock (w : World) (g k : Nat) (f : Array Value → Array Value) : (mapBlock w g f).heap[k]? = if g = k then (w.heap[k]?).map (onCells f) else w.heap[k]? := by
 show (w.heap.modify g (onCells f))[k]? = _
 rw [Array.getElem?_modify]
theorem grown_putRow (w : World) (g q : Nat) (ys : List Int) : w.grownBy (putRow (Value.int .i64) (Sort.ahead w q) g 0 ys.toArray) (some g) := by
 refine ⟨rfl, rfl, rfl, by simp [Sort.ahead], fun k _ hne => ?_⟩
 unfold putRow
 rw [heap_mapBlock, if_neg (fun e => hne (by rw [e]))]
 rfl
theorem grown_grow {w w' : World} {row : Option Nat} (h : w.grownBy w' row) (os : Array Obj) : w.grownBy (grow w' os) row := by
 refine ⟨h.os, h.tape, h.output, ?_, fun k hk hne => ?_⟩
 · have := h.size;simp [grow];omega
 · rw [heap_grow_old w' os (Nat.lt_of_lt_of_le hk h.size)];exact h.block k hk hne
theorem own_holds {w : World} {base g n c : Nat} {xs : List Int} (h : OwnI w base (.slice (some ⟨g, 0, none⟩) n c) xs) : Holds (Value.int .i64) w g 0 xs.toArray := by
 intro j hj
 have hj' : j < xs.length := by simpa using hj
 have hn := h.cap.2.2
 obtain ⟨b, o, e, hc, _⟩ := h.ints.2.2 j (by omega)
 injection e with e
 injection e with e1 e2
 subst e1 e2
 refine ⟨?_, ?_⟩
 · rw [hc];simp [List.getD_eq_getElem?_getD, hj']
 · rcases h.1.2 with ⟨hv, _⟩ | ⟨g', cap, cur, hv, _, hh, _⟩
   · cases hv
   · injection hv with e1 _ _;injection e1 with e1;injection e1 with e1 _ _;subst e1;exact frozen_of_row _ _ _ _ _ hh
theorem own_putRow {w : World} {base g n c : Nat} {xs : List Int} (h : OwnI w base (.slice (some ⟨g, 0, none⟩) n c) xs) (q : Nat) (ys : List Int) (hl : ys.length = xs.length) (hy : ∀ y ∈ ys, I64 y) :
  OwnI (putRow (Value.int .i64) (Sort.ahead w q) g 0 ys.toArray) base (.slice (some ⟨g, 0, none⟩) n c) ys := by
 have hn := h.cap.2.2
 refine ⟨⟨by simp [intVals], ?_⟩, hy, by have := h.2.2; omega⟩
 rcases h.1.2 with ⟨hv, _⟩ | ⟨g', cap, cur, hv, hb, hh, h1, h2, h3, h4⟩
 · cases hv
 · injection hv with e1 e2 e3;injection e1 with e1;injection e1 with e1 _ _;subst e1 e3;refine .inr ⟨g, c, putCells (Value.int .i64) 0 ys.toArray cur, by rw [hn, hl], hb, ?_, by omega, h2, by simp [putCells, h3], ?_⟩
   · unfold putRow;rw [heap_mapBlock, if_pos rfl];show (w.heap[g]?).map _ = _;rw [hh];rfl
   · apply List.ext_getElem?;intro k;rw [List.getElem?_take];by_cases hk : k < ys.length
     · have hkc : k < cur.size := by omega
       rw [if_pos (by omega)];simp [putCells, intVals, hk, hkc]
     · rw [if_neg (by omega), List.getElem?_eq_none (by simp [intVals]; omega)]
theorem own_ahead {w : World} {base : Nat} {v : Value} {xs : List Int} (h : OwnI w base v xs) (os : Array Obj) : OwnI (grow w os) base v xs :=
 h.ext ⟨rfl, rfl, rfl, by simp [grow], fun k hk => heap_grow_old w os hk⟩
def TurnPost (w : World) (base : Nat) (v : Value) (ys : List Int) (e : Ending) (w' : World) : Prop := e = .returned (.tuple #[]) ∧ OwnI w' base v ys ∧ w.grownBy w' v.ownBlock
theorem grown_refl (w : World) (row : Option Nat) : w.grownBy w row := ⟨rfl, rfl, rfl, Nat.le_refl _, fun _ _ _ => rfl⟩
theorem sortI_any (base : Nat) (v : Value) (xs : List Int) (w : World) (h : OwnI w base v xs) :
  Calls Tryz.prog 94 #[v] w (TurnPost w base v (xs.mergeSort fun x y => decide (x ≤ y))) := by
 rcases id h.1.2 with ⟨rfl, h0⟩ | ⟨g, cap, cur, rfl, hb, hh, _⟩
 · have h0 : xs = [] := List.eq_nil_of_length_eq_zero h0;subst h0;refine (slices_Sort_int_none none 0 w).mono ?_;rintro e w' ⟨rfl, rfl⟩;exact ⟨rfl, by simpa using h, grown_refl _ _⟩
 · refine (slices_Sort_int g 0 cap xs w (own_holds h) (Array.getElem?_eq_some_iff.1 hh).1 (by have := h.2.2; omega)).mono ?_;rintro e w' ⟨rfl, n, os, rfl⟩;have hp := List.mergeSort_perm xs fun x y => decide (x ≤ y);refine ⟨rfl, own_ahead (own_putRow h n _ (List.length_mergeSort _) (fun y hy => h.2.1 y (hp.mem_iff.1 hy))) os, ?_⟩;exact grown_grow (grown_putRow w g n _) os
theorem reverseI_any (base : Nat) (v : Value) (xs : List Int) (w : World) (h : OwnI w base v xs) :
  Calls Tryz.prog 117 #[v] w (TurnPost w base v xs.reverse) := by
 rcases id h.1.2 with ⟨rfl, h0⟩ | ⟨g, cap, cur, rfl, hb, hh, _⟩
 · have h0 : xs = [] := List.eq_nil_of_length_eq_zero h0;subst h0;refine (slices_Reverse_int_empty none 0 w).mono ?_;rintro e w' ⟨rfl, rfl⟩;exact ⟨rfl, by simpa using h, grown_refl _ _⟩
 · refine (slices_Reverse_int g 0 cap xs w (own_holds h) (by have := h.2.2; omega)).mono ?_;rintro e w' ⟨rfl, n, rfl⟩;exact ⟨rfl, own_putRow h n _ (by simp) (fun y hy => h.2.1 y (by simpa using hy)), grown_putRow w g n _⟩
def CompactPost (w : World) (base : Nat) (v : Value) (ys : List Int) (e : Ending) (w' : World) : Prop := ∃ v', e = .returned v' ∧ OwnI w' base v' ys ∧ w.grownBy w' v.ownBlock
theorem compact_len (xs : List Int) : (Lib.compact xs).length ≤ xs.length := by
 unfold Lib.compact Lib.compactUpTo
 rw [List.length_map]
 have := List.length_filter_le (Lib.keeps xs.toArray) (List.range xs.length)
 simpa using this
theorem compact_mem (xs : List Int) : ∀ y ∈ Lib.compact xs, y ∈ xs := by
 intro y hy
 unfold Lib.compact Lib.compactUpTo at hy
 rw [List.mem_map] at hy
 obtain ⟨k, hk, rfl⟩ := hy
 have := List.mem_range.1 (List.mem_filter.1 hk).1
 simp [this]
theorem ownI_trunc {w : World} {base g c n : Nat} {xs ys : List Int} (h : OwnI w base (.slice (some ⟨g, 0, none⟩) n c) (xs ++ ys)) : OwnI w base (.slice (some ⟨g, 0, none⟩) xs.length c) xs := by
 refine ⟨⟨by simp [intVals], ?_⟩, fun z hz => h.2.1 z (by simp [hz]), by have := h.2.2; simp at this; omega⟩
 rcases h.1.2 with ⟨hv, _⟩ | ⟨g', cap, cur, hv, hb, hh, h1, h2, h3, h4⟩
 · cases hv
 · injection hv with e1 e2 e3;injection e1 with e1;injection e1 with e1 _ _;subst e1 e3;refine .inr ⟨g, c, cur, rfl, hb, hh, by simp at h1; omega, h2, h3, ?_⟩;have h5 : (cur.toList.take ((xs ++ ys).length * 1)).take xs.length = (intVals (xs ++ ys)).take xs.length := by rw [h4]
   rw [List.take_take] at h5;simpa [intVals] using h5
theorem compactI_any (base : Nat) (v : Value) (xs : List Int) (w : World) (h : OwnI w base v xs) :
  Calls Tryz.prog 95 #[v] w (CompactPost w base v (Lib.compact xs)) := by
 rcases id h.1.2 with ⟨rfl, h0⟩ | ⟨g, cap, cur, rfl, hb, hh, h1, _⟩
 · have h0 : xs = [] := List.eq_nil_of_length_eq_zero h0;subst h0;refine (slices_Compact_int_empty none 0 w).mono ?_;rintro e w' ⟨rfl, rfl⟩;exact ⟨_, rfl, h, grown_refl _ _⟩
 · refine (slices_Compact_int g 0 cap xs w (own_holds h) (by have := h.2.2; omega) h1).mono ?_;rintro e w' ⟨rfl, n, rfl⟩;have hc := compact_len xs
   have h9 := own_putRow h n (Lib.compact xs ++ List.replicate (xs.length - (Lib.compact xs).length) 0) (by simp; omega) (fun y hy => by
    rcases List.mem_append.1 hy with hy | hy
    · exact h.2.1 y (compact_mem xs y hy)
    · have := (List.mem_replicate.1 hy).2;subst this
      unfold I64; omega)
   exact ⟨_, rfl, ownI_trunc h9, grown_putRow w g n _⟩
end

section
open Go.RowKit
structure TileR where
 d : TileD
 ba : Option Addr
 bn : Nat
 bc : Nat
def tileC (t : TileR) : List Value := [.int .i64 t.d.kind, .int .i64 t.d.parent, .slice t.ba t.bn t.bc]
theorem tileC_len (t : TileR) : (tileC t).length = 3 := rfl
def TilesOK (w : World) (a : Option Addr) (n : Nat) (ls : List TileR) : Prop := Recs 3 tileC w a n ls ∧ ∀ t ∈ ls, Ints w t.ba t.bn t.d.blocks ∧ t.bn ≤ t.bc ∧ I64 t.d.kind ∧ I64 t.d.parent
theorem TilesOK.ext {w w' : World} {a : Option Addr} {n : Nat} {ls : List TileR} (h : TilesOK w a n ls) (hb : Below w.heap.size w w') : TilesOK w' a n ls := ⟨h.1.ext tileC_len hb, fun t ht => ⟨(h.2 t ht).1.ext hb, (h.2 t ht).2⟩⟩
def tdOf (ls : List TileR) : List TileD := ls.map (·.d)
theorem tdOf_len (ls : List TileR) : (tdOf ls).length = ls.length := by simp [tdOf]
theorem tdOf_at (ls : List TileR) (k : Nat) (t : TileR) (h : ls[k]? = some t) : (tdOf ls).getD k zTile = t.d := by simp [tdOf, List.getD_eq_getElem?_getD, h]
abbrev tileO (t : TileR) : Obj := .cells #[.int .i64 t.d.kind, .int .i64 t.d.parent, .slice t.ba t.bn t.bc] 76
theorem TilesOK.cells {w : World} {a : Option Addr} {n : Nat} {ls : List TileR} (h : TilesOK w a n ls) {k : Nat} (hk : k < n) : ∃ t b o, ls[k]? = some t ∧ (Ints w t.ba t.bn t.d.blocks ∧ t.bn ≤ t.bc ∧ I64 t.d.kind ∧ I64 t.d.parent) ∧ a = some ⟨b, o, none⟩ ∧
  w.cell? ⟨b, o + k * 3, none⟩ = some (.int .i64 t.d.kind) ∧ w.cell? ⟨b, o + k * 3 + 1, none⟩ = some (.int .i64 t.d.parent) ∧ w.cell? ⟨b, o + k * 3 + 2, none⟩ = some (.slice t.ba t.bn t.bc) := by
 have hk' : k < ls.length := by rw [h.1.1]; exact hk
 obtain ⟨b, o, e, hc⟩ := h.1.2.2 k ls[k] (List.getElem?_eq_getElem hk')
 exact ⟨ls[k], b, o, List.getElem?_eq_getElem hk', h.2 _ (List.getElem_mem hk'), e, hc 0 (by omega), hc 1 (by omega), hc 2 (by omega)⟩
theorem parents_any (a : Option Addr) (n c : Nat) (ls : List TileR) (w : World) (h : TilesOK w a n ls) :
  Calls Tryz.prog 92 #[.slice a n c] w fun e w' => e = .returned (.bool (parentsB (tdOf ls))) ∧ Below w.heap.size w w' := by
 have hn := h.1.2.1
 have HL := Lib.hid h.1.1
 have H := Lib.hid h
 clear h
 go_enter Tryz.func92, Tryz.ntmps92
 go_wp2
 go_loopw [7] (fun i wr => ∃ (k : Nat), k ≤ n ∧ i = .int .i64 k ∧ Hid (∀ j, j < k → -1 ≤ parL (tdOf ls) j ∧ parL (tdOf ls) j < j) ∧ Hid (Below w.heap.size w wr)) (fun i _ => n - (intOf i).toNat)
 case atStart => exact ⟨0, by omega, rfl, fun j hj => absurd hj (by omega), Below.refl _ _⟩
 case round =>
  obtain ⟨k, hk, rfl, HR, HB⟩ := hrel;by_cases hlt : k < n
  · obtain ⟨t, b, o, hlk, hok, rfl, c0, c1, c2⟩ := (H.out.ext HB.out).cells hlt;obtain ⟨_, _, _, hp1, hp2⟩ := hok;have htd := tdOf_at ls k t hlk;have HTD : Hid (parL (tdOf ls) k = t.d.parent) := by rw [Hid, parL, htd]
    clear hlk htd;have hlt' : (k : Int) < (n : Int) := by omega
    by_cases hg1 : t.d.parent < -1
    · have HE : Hid (parentsB (tdOf ls) = false) := by
       rw [Hid, Bool.eq_false_iff];intro h;have := (parentsB_iff _).1 h k (by rw [tdOf_len, HL.out]; exact hlt);rw [HTD.out] at this;omega
      go_wp2
      go_ret
      exact ⟨by rw [HE.out]; rfl, HB.out.alloc HB.out.size _⟩
    · by_cases hg2 : t.d.parent < k
      · have HR2 : Hid (∀ j, j < k + 1 → -1 ≤ parL (tdOf ls) j ∧ parL (tdOf ls) j < j) := fun j hj => by
         by_cases e : j = k
         · subst e; rw [HTD.out]; omega
         · exact HR.out j (by omega)
        go_wp2
        go_roundw
        case rel => exact ⟨k + 1, by omega, by go_num, HR2, HB.out.alloc HB.out.size _⟩
        case measure => simp [intOf]; omega
      · have HE : Hid (parentsB (tdOf ls) = false) := by
         rw [Hid, Bool.eq_false_iff];intro h;have := (parentsB_iff _).1 h k (by rw [tdOf_len, HL.out]; exact hlt);rw [HTD.out] at this;omega
        go_wp2
        go_ret
        exact ⟨by rw [HE.out]; rfl, HB.out.alloc HB.out.size _⟩
  · obtain rfl : k = n := by omega
    have HE : Hid (parentsB (tdOf ls) = true) := (parentsB_iff _).2 fun j hj => HR.out j (by rw [tdOf_len, HL.out] at hj; exact hj);go_wp2
    go_ret
    exact ⟨by rw [HE.out]; rfl, HB.out⟩
end

section
open Go.RowKit
def mfind : List MapEntry → Int → Option Value
 | [], _ => none
 | e :: l, k => match e.key with
   | .int .i64 j => if k = j then some e.val else mfind l k
   | _ => mfind l k
def intKeys (l : List MapEntry) : Prop := ∀ e ∈ l, ∃ k : Int, e.key = .int .i64 k
def IMap (w : World) (b : Nat) (f : Int → Option Value) : Prop :=
 ∃ es clock, w.heap[b]? = some (.map es clock) ∧ intKeys es.toList ∧ ∀ k, mfind es.toList k = f k
def upd (f : Int → Option Value) (k : Int) (v : Value) : Int → Option Value := fun j => if j = k then some v else f j
theorem findNow_int (q : IntKind) (k : Int) : ∀ (l : List MapEntry) (i : Nat), intKeys l →
  (Instr.findNow (.int q) (.int .i64 k) l i = some none ∧ mfind l k = none) ∨
  ∃ j e, l[j]? = some e ∧ Instr.findNow (.int q) (.int .i64 k) l i = some (some (i + j, e.val)) ∧ e.key = .int .i64 k ∧ mfind l k = some e.val ∧
    ∀ v, intKeys (l.modify j fun e => { e with key := .int .i64 k, val := v }) ∧ ∀ k', mfind (l.modify j fun e => { e with key := .int .i64 k, val := v }) k' = upd (mfind l) k v k' := by
 intro l
 induction l with
 | nil => intro i _; exact Or.inl ⟨rfl, rfl⟩
 | cons e l ih =>
   intro i hk;obtain ⟨j, hj⟩ := hk e (by simp);have hk' : intKeys l := fun x hx => hk x (by simp [hx]);by_cases h : k = j
   · subst h;refine Or.inr ⟨0, e, rfl, ?_, hj, ?_, fun v => ⟨?_, fun k' => ?_⟩⟩
     · simp [Instr.findNow, Instr.sameNow, hj]
     · simp [mfind, hj]
     · intro x hx;simp at hx;rcases hx with rfl | hx
       · exact ⟨k, rfl⟩
       · exact hk' x hx
     · simp only [List.modify_zero_cons, mfind, upd, hj]
       split <;> rfl
   · have hb : (k == j) = false := by simpa using h
     rcases ih (i + 1) hk' with ⟨h1, h2⟩ | ⟨m, e', h0, h1, h2, h3, h4⟩
     · exact Or.inl ⟨by simp [Instr.findNow, Instr.sameNow, hj, hb, h1], by simp [mfind, hj, h, h2]⟩
     · refine Or.inr ⟨m + 1, e', by simpa using h0, ?_, h2, ?_, fun v => ⟨?_, fun k' => ?_⟩⟩
       · simp [Instr.findNow, Instr.sameNow, hj, hb, h1]; omega
       · simp [mfind, hj, h, h3]
       · intro x hx;simp at hx;rcases hx with rfl | hx
         · exact ⟨j, hj⟩
         · exact (h4 v).1 x hx
       · have := (h4 v).2 k';simp only [List.modify_succ_cons, mfind, upd, hj] at this ⊢;rw [this];by_cases e1 : k' = j
         · subst e1; simp [Ne.symm h]
         · simp [e1]
theorem mfind_push (l : List MapEntry) (k : Int) (v : Value) (b : Nat) (k' : Int) (hn : mfind l k = none) (hk : intKeys l) :
  mfind (l ++ [{ key := .int .i64 k, val := v, born := b }]) k' = upd (mfind l) k v k' := by
 induction l with
 | nil => simp [mfind, upd]
 | cons e l ih =>
   obtain ⟨j, hj⟩ := hk e (by simp);simp only [mfind, hj] at hn
   split at hn
   · cases hn
   · rename_i hkj
     have := ih hn (fun x hx => hk x (by simp [hx]));simp only [List.cons_append, mfind, hj, upd] at this ⊢;rw [this];by_cases e1 : k' = j
     · subst e1; simp [Ne.symm hkj]
     · simp [e1]
section
variable {P : Program} {t kt et : TypeId} {w : World} {b : Nat} {f : Int → Option Value}
theorem IMap.lt (h : IMap w b f) : b < w.heap.size := by obtain ⟨es, c, hb, _⟩ := h; exact (Array.getElem?_eq_some_iff.1 hb).1
theorem IMap.made (w : World) : IMap (w.alloc (.map #[] 0)) w.heap.size (fun _ => none) :=
 ⟨#[], 0, World.alloc_heap_new w _, by intro e he; simp at he, fun k => rfl⟩
theorem IMap.of_block {w' : World} (h : IMap w b f) (hb : w'.heap[b]? = w.heap[b]?) : IMap w' b f := by
 obtain ⟨es, c, h1, h2⟩ := h; exact ⟨es, c, hb.trans h1, h2⟩
theorem IMap.ext {w' : World} (h : IMap w b f) (hb : Below w.heap.size w w') : IMap w' b f := h.of_block (hb.block b h.lt)
theorem IMap.grown {w' : World} {row : Option Nat} (h : IMap w b f) (hg : w.grownBy w' row) (hne : some b ≠ row) : IMap w' b f := h.of_block (hg.block b h.lt hne)
theorem IMap.setCell (h : IMap w b f) (p : Addr) (v : Value) : IMap (w.setCell p v) b f := by
 obtain ⟨es, c, h1, h2⟩ := h
 refine ⟨es, c, ?_, h2⟩
 by_cases e : b = p.block
 · subst e;obtain ⟨hlt, hk'⟩ := Array.getElem?_eq_some_iff.1 h1;show (w.heap.modify p.block _)[p.block]? = _;rw [Array.getElem?_eq_getElem (by rw [Array.size_modify]; exact hlt), Array.getElem_modify_self, hk']
 · exact (Below.heap_setCell w p v b e).trans h1
theorem run_checkKey_int (hk : P.underlying kt = some (.int .i64)) (em : Bool) (k : Int) (w : World) : (Instr.checkKey em 10000 kt (.int .i64 k)).run P w = .ok () w := by
 have : ∀ n, (Instr.checkKey em (n + 1) kt (.int .i64 k)).run P w = .ok () w := fun n => by simp [Instr.checkKey, run_underlying hk]
 exact this 9999
theorem sameBits_int (k : Int) : Instr.sameBits 10000 (.int .i64 k) (.int .i64 k) = true := by
 have : ∀ n, Instr.sameBits n (.int .i64 k) (.int .i64 k) = true := fun n => by cases n <;> simp [Instr.sameBits]
 exact this 10000
theorem run_findKey_int (hk : P.underlying kt = some (.int .i64)) (k : Int) (l : List MapEntry) (r : Option (Nat × Value)) (w : World) (h : Instr.findNow (.int .i64) (.int .i64 k) l 0 = some r) :
  (Instr.findKey kt (.int .i64 k) l).run P w = .ok r w := by
 simp [Instr.findKey, run_underlying hk, h]
theorem IMap.look (h : IMap w b f) (ht : P.underlying t = some (.map kt et)) (hk : P.underlying kt = some (.int .i64)) {z : Value} (hz : (zeroValue et).run P w = .ok z w) (k : Int) :
  (Instr.lookup t (.map (some b)) (.int .i64 k) false).run P w = .ok ((f k).getD z) w := by
 obtain ⟨es, c, hb, hi, hf⟩ := h
 have hgo : (getObj b).run P w = .ok (.map es c) w := by simp [getObj, Sem.run, hb]
 rcases findNow_int .i64 k es.toList 0 hi with ⟨h1, h2⟩ | ⟨j, e, _, h1, _, h2, _⟩
 · rw [hf] at h2;simp [Instr.lookup, run_underlying ht, Sem.run_bind, hgo, run_checkKey_int hk, run_findKey_int hk k _ _ w h1, hz, h2, Result.andThen]
 · rw [hf] at h2;simp [Instr.lookup, run_underlying ht, Sem.run_bind, hgo, run_checkKey_int hk, run_findKey_int hk k _ _ w h1, h2, Result.andThen]
theorem IMap.put (h : IMap w b f) (ht : P.underlying t = some (.map kt et)) (hk : P.underlying kt = some (.int .i64)) (k : Int) (v : Value) :
  ∃ o, (Instr.mapUpdate t (.map (some b)) (.int .i64 k) v).run P w = .ok () (w.putObj b o) ∧ IMap (w.putObj b o) b (upd f k v) := by
 have hlt := h.lt
 obtain ⟨es, c, hb, hi, hf⟩ := h
 have hgo : (getObj b).run P w = .ok (.map es c) w := by simp [getObj, Sem.run, hb]
 have hso : ∀ o, (setObj b o).run P w = .ok () (w.putObj b o) := fun o => by simp [setObj, Sem.run, hb, World.putObj]
 rcases findNow_int .i64 k es.toList 0 hi with ⟨h1, h2⟩ | ⟨j, e, hj, h1, hek, h2, h3⟩
 · refine ⟨.map (es.push { key := .int .i64 k, val := v, born := c }) (c + 1), ?_, ?_⟩
   · simp [Instr.mapUpdate, run_underlying ht, Sem.run_bind, hgo, run_checkKey_int hk, run_findKey_int hk k _ _ w h1, hso, Result.andThen]
   · refine ⟨_, _, World.putObj_heap_same hlt, ?_, fun k' => ?_⟩
     · intro x hx;simp at hx;rcases hx with hx | rfl
       · exact hi x (by simpa using hx)
       · exact ⟨k, rfl⟩
     · rw [Array.toList_push, mfind_push _ _ _ _ _ h2 hi];simp only [upd, hf]
 · have hes : es[0 + j]? = some e := by simpa using hj
   refine ⟨.map (es.modify (0 + j) fun e => { e with key := .int .i64 k, val := v }) c, ?_, ?_⟩
   · simp [Instr.mapUpdate, run_underlying ht, Sem.run_bind, hgo, run_checkKey_int hk, run_findKey_int hk k _ _ w h1, hso, Result.andThen, Instr.keyThatStays];simp at hes;simp [hes, hek, sameBits_int, hso]
   · refine ⟨_, _, World.putObj_heap_same hlt, ?_, fun k' => ?_⟩
     · have := (h3 v).1;simpa [Array.toList_modify] using this
     · have := (h3 v).2 k';rw [Array.toList_modify, Nat.zero_add, this];simp only [upd, hf]
end
end

section
open Go.RowKit
def totL (l : List TileD) : Nat := (l.map fun t => t.blocks.length).sum
theorem sum_take (l : List TileD) : ∀ m, ((l.take m).map fun t => t.blocks.length).sum ≤ totL l := by
 induction l with
 | nil => intro m; simp [totL]
 | cons t l ih =>
   intro m;cases m with
   | zero => simp [totL]
   | succ m => have := ih m; simp only [totL, List.take_succ_cons, List.map_cons, List.sum_cons] at this ⊢; omega
theorem blkL_le (l : List TileD) (k : Nat) : (blkL l k).length ≤ totL l := by
 induction l generalizing k with
 | nil => simp [totL, blkL]
 | cons t l ih =>
   cases k with
   | zero => simp [totL, blkL]
   | succ k => have := ih k; simp only [totL, List.map_cons, List.sum_cons, blkL, List.getD_cons_succ] at this ⊢; omega
theorem rawL_len (l : List TileD) (k m : Nat) (hm : m ≤ l.length) : (rawL l k m).length ≤ 2 * totL l := by
 have h1 : ∀ m, m ≤ l.length → (((List.range m).filter fun n => n != k && descB l k n).flatMap (blkL l)).length ≤ ((l.take m).map fun t => t.blocks.length).sum := by
  intro m
  induction m with
  | zero => intro _; simp
  | succ m ih =>
    intro hm;have := ih (by omega);rw [List.range_succ, List.filter_append, List.flatMap_append, List.length_append, List.take_add_one, List.getElem?_eq_getElem (by omega), List.map_append, List.sum_append];have e : (blkL l m).length = (l[m]'(by omega)).blocks.length := by simp [blkL, List.getD_eq_getElem?_getD, show m < l.length by omega]
    by_cases hc : (m != k && descB l k m) = true
    · simp only [List.filter_cons, hc, if_true, List.filter_nil, List.flatMap_cons, List.flatMap_nil, List.append_nil, Option.toList_some, List.map_cons, List.map_nil, List.sum_cons, List.sum_nil];omega
    · have hc' : (m != k && descB l k m) = false := by simpa using hc
      simp only [List.filter_cons, hc', List.filter_nil, Option.toList_some, List.map_cons, List.map_nil, List.sum_cons, List.sum_nil];simp only [Bool.false_eq_true, if_false, List.flatMap_nil, List.length_nil];omega
 have h2 := h1 m hm
 have h3 := sum_take l m
 have h4 := blkL_le l k
 rw [rawL, List.length_append]
 omega
theorem rawL_zero (l : List TileD) (k : Nat) : rawL l k 0 = blkL l k := by simp [rawL]
def upB (l : List TileD) (k m : Nat) : Bool := decide (0 ≤ parL l m) && descB l k (parL l m).toNat
theorem upB_self {l : List TileD} (hp : parentsB l = true) (k : Nat) (hk : k < l.length) : upB l k k = false := by
 rw [Bool.eq_false_iff]
 intro h
 simp only [upB, Bool.and_eq_true, decide_eq_true_eq] at h
 have h1 := (parentsB_iff l).1 hp k hk
 have := descB_ge hp k _ (by omega) h.2
 omega
theorem rawL_step {l : List TileD} (hp : parentsB l = true) (k m : Nat) (hk : k < l.length) (hm : m < l.length) : rawL l k (m + 1) = if upB l k m then rawL l k m ++ blkL l m else rawL l k m := by
 have e : (m != k && descB l k m) = upB l k m := by
  by_cases h : m = k
  · subst h; rw [upB_self hp m hm]; simp
  · have h1 : (m != k) = true := by simpa using h
    have h2 : (m == k) = false := by simpa using h
    rw [h1, Bool.true_and, descB_eq hp k m hm, h2, Bool.false_or];rfl
 simp only [rawL, List.range_succ, List.filter_append, List.filter_cons, List.filter_nil, e, List.flatMap_append]
 cases upB l k m <;> simp
def belowF (l : List TileD) (k m : Nat) : Int → Option Value := fun x => if x = k ∨ (0 ≤ x ∧ x < m ∧ descB l k x.toNat = true) then some (.int .i64 1) else none
theorem belowF_zero (l : List TileD) (k : Nat) : upd (fun _ => none) (k : Int) (.int .i64 1) = belowF l k 0 := by
 funext x
 by_cases e : x = k
 · simp [upd, belowF, e]
 · have : ¬ (0 ≤ x ∧ x < ((0 : Nat) : Int) ∧ descB l k x.toNat = true) := fun h => by omega
   simp only [upd, belowF, if_neg e];rw [if_neg (fun h => h.elim e this)]
theorem belowF_step {l : List TileD} (hp : parentsB l = true) (k m : Nat) (hk : k < l.length) (hm : m < l.length) : belowF l k (m + 1) = if upB l k m then upd (belowF l k m) (m : Int) (.int .i64 1) else belowF l k m := by
 funext x
 have hd : m ≠ k → descB l k m = upB l k m := fun h => by
  have h2 : (m == k) = false := by simpa using h
  rw [descB_eq hp k m hm, h2, Bool.false_or];rfl
 by_cases e : x = m
 · subst e;by_cases hmk : m = k
   · subst hmk;rw [upB_self hp m hm];simp [belowF]
   · have hne : ¬ (m : Int) = k := by omega
     cases hu : upB l k m with
     | true =>
       have : belowF l k (m + 1) (m : Int) = some (.int .i64 1) := by
        unfold belowF;rw [if_pos (.inr ⟨by omega, by omega, by simpa [hd hmk] using hu⟩)]
       rw [this]; simp [upd]
     | false =>
       have h1 : belowF l k (m + 1) (m : Int) = none := by
        unfold belowF;rw [if_neg];rintro (h | ⟨_, _, h⟩)
        · exact hne h
        · rw [Int.toNat_natCast, hd hmk, hu] at h; cases h
       have h2 : belowF l k m (m : Int) = none := by
        unfold belowF;rw [if_neg];rintro (h | ⟨_, h, _⟩)
        · exact hne h
        · omega
       rw [h1]; simp [h2]
 · have h1 : belowF l k (m + 1) x = belowF l k m x := by
    unfold belowF
    congr 1
    rw [eq_iff_iff];constructor
    · rintro (h | ⟨a, b, c⟩)
      · exact .inl h
      · exact .inr ⟨a, by omega, c⟩
    · rintro (h | ⟨a, b, c⟩)
      · exact .inl h
      · exact .inr ⟨a, by omega, c⟩
   rw [h1];cases upB l k m <;> simp [upd, e]
theorem belowF_par {l : List TileD} (hp : parentsB l = true) (k m : Nat) (hm : m < l.length) : (decide (0 ≤ parL l m) && (belowF l k m (parL l m)).isSome) = upB l k m := by
 have h1 := (parentsB_iff l).1 hp m hm
 unfold upB
 by_cases h0 : 0 ≤ parL l m
 · rw [decide_eq_true h0, Bool.true_and, Bool.true_and];unfold belowF;by_cases hd : descB l k (parL l m).toNat = true
   · rw [if_pos (.inr ⟨h0, by omega, hd⟩), hd]; rfl
   · rw [if_neg]
     · have : descB l k (parL l m).toNat = false := by simpa using hd
       rw [this]; rfl
     · rintro (h | ⟨_, _, h⟩)
       · rw [h, Int.toNat_natCast, descB_self] at hd; exact hd rfl
       · exact hd h
 · rw [decide_eq_false h0]; rfl
theorem compact_inv (d : Array Int) (hs : ∀ i, i + 1 < d.size → d[i]! ≤ d[i + 1]!) : ∀ m, m ≤ d.size → (Lib.compactUpTo d m).Pairwise (· < ·) ∧ (∀ y, y ∈ Lib.compactUpTo d m ↔ ∃ j, j < m ∧ d[j]! = y) ∧ (0 < m → ∀ y ∈ Lib.compactUpTo d m, y ≤ d[m - 1]!) := by
 intro m
 induction m with
 | zero => intro _; refine ⟨by simp [Lib.compactUpTo], fun y => ⟨fun h => by simp [Lib.compactUpTo] at h, fun ⟨j, h, _⟩ => by omega⟩, fun h => by omega⟩
 | succ m ih =>
   intro hm;obtain ⟨h1, h2, h3⟩ := ih (by omega);rw [Lib.compactUpTo_succ];have hle : 0 < m → ∀ y ∈ Lib.compactUpTo d m, y ≤ d[m]! := fun h0 y hy => by
    have := h3 h0 y hy;have h4 := hs (m - 1) (by omega);rw [show m - 1 + 1 = m by omega] at h4;omega
   by_cases hk : Lib.keeps d m = true
   · rw [if_pos hk];have hlt : ∀ y ∈ Lib.compactUpTo d m, y < d[m]! := fun y hy => by
      have h0 : 0 < m := by
       rcases Nat.eq_zero_or_pos m with e | e
       · subst e; simp [Lib.compactUpTo] at hy
       · exact e
      simp only [Lib.keeps, decide_eq_true_eq] at hk;have hk := hk.resolve_left (by omega);have := h3 h0 y hy;have h4 := hs (m - 1) (by omega);rw [show m - 1 + 1 = m by omega] at h4;omega
     refine ⟨?_, fun y => ?_, fun _ y hy => ?_⟩
     · rw [List.pairwise_append];exact ⟨h1, by simp, fun y hy z hz => by simp at hz; subst hz; exact hlt y hy⟩
     · rw [List.mem_append, h2];constructor
       · rintro (⟨j, hj, e⟩ | h)
         · exact ⟨j, by omega, e⟩
         · simp at h; exact ⟨m, by omega, h.symm⟩
       · rintro ⟨j, hj, e⟩;by_cases hjm : j = m
         · subst hjm; exact .inr (by simp [e])
         · exact .inl ⟨j, by omega, e⟩
     · rcases List.mem_append.1 hy with hy | hy
       · have := hlt y hy; simp; omega
       · simp at hy; subst hy; simp
   · rw [if_neg hk, List.append_nil];have hk' : m ≠ 0 ∧ d[m]! = d[m - 1]! := by
      simp only [Lib.keeps, decide_eq_true_eq, not_or] at hk;exact ⟨hk.1, Classical.not_not.1 hk.2⟩
     refine ⟨h1, fun y => ?_, fun _ y hy => by have := hle (by omega) y hy; simpa using this⟩;rw [h2];constructor
     · rintro ⟨j, hj, e⟩; exact ⟨j, by omega, e⟩
     · rintro ⟨j, hj, e⟩;by_cases hjm : j = m
       · subst hjm; exact ⟨j - 1, by omega, by rw [← hk'.2, e]⟩
       · exact ⟨j, by omega, e⟩
theorem compact_sort (xs : List Int) : Lib.compact (xs.mergeSort fun x y => decide (x ≤ y)) = sortD xs := by
 have hp := List.mergeSort_perm xs fun x y => decide (x ≤ y)
 have hso := List.pairwise_mergeSort (le := fun x y : Int => decide (x ≤ y)) (fun a b c h1 h2 => by simp at *; omega) (fun a b => by simp; omega) xs
 generalize xs.mergeSort (fun x y => decide (x ≤ y)) = ys at *
 have hs : ∀ i, i + 1 < ys.toArray.size → ys.toArray[i]! ≤ ys.toArray[i + 1]! := fun i hi => by
  have hi' : i + 1 < ys.length := by simpa using hi
  have := List.pairwise_iff_getElem.1 hso i (i + 1) (by omega) hi' (by omega);simp at this;simp [show i < ys.length by omega, hi'];exact this
 have h := compact_inv ys.toArray hs ys.length (by simp)
 refine sorted_eq _ _ h.1 (sorted_sortD xs) fun y => ?_
 rw [mem_sortD, ← hp.mem_iff]
 show y ∈ Lib.compactUpTo ys.toArray ys.length ↔ _
 rw [h.2.1]
 constructor
 · rintro ⟨j, hj, rfl⟩; simp [hj]
 · intro hy;obtain ⟨j, hj, e⟩ := List.mem_iff_getElem.1 hy;exact ⟨j, hj, by simp [hj, e]⟩
end

section
open Go.RowKit
theorem zero_int (w : World) : (zeroValue 3).run Tryz.prog w = .ok (.int .i64 0) w := by kernel_rfl
def AllJ (w : World) (ls : List TileR) (k m M : Nat) (v : Value) (wr : World) : Prop :=
 IMap wr M (belowF (tdOf ls) k m) ∧ OwnI wr (M + 1) v (rawL (tdOf ls) k m) ∧ Below w.heap.size w wr ∧ w.heap.size ≤ M ∧ M < wr.heap.size
theorem all_any (a : Option Addr) (n c : Nat) (ls : List TileR) (k : Int) (w : World) (h : TilesOK w a n ls) (hk : I64 k) (hT : totL (tdOf ls) ≤ 1000000) :
  Calls Tryz.prog 39 #[.slice a n c, .int .i64 k] w (IntsPost w (allL (tdOf ls) k)) := by
 have hn := h.1.2.1
 have HL := Lib.hid h.1.1
 have H := Lib.hid h
 obtain ⟨hk1, hk2⟩ := hk
 clear h
 by_cases hr : 0 ≤ k ∧ k < n
 rotate_left
 · have HE : Hid (allL (tdOf ls) k = []) := by
    rw [Hid, allL, if_neg];rw [tdOf_len, HL.out];exact fun h => hr ⟨h.1, h.2.1⟩
   by_cases h0 : k < 0
   all_goals
    go_enter Tryz.func39, Tryz.ntmps39
    go_wp2
    go_ret
    rw [HE.out];exact ⟨_, rfl, OwnI.nil _ _, Below.refl _ _⟩
 obtain ⟨hr1, hr2⟩ := hr
 have hr3 : ¬ k < 0 := by omega
 obtain ⟨kn, rfl⟩ : ∃ kn : Nat, k = (kn : Int) := ⟨k.toNat, by omega⟩
 by_cases hp : parentsB (tdOf ls) = true
 rotate_left
 · have HE : Hid (allL (tdOf ls) (kn : Int) = []) := by
    rw [Hid, allL, if_neg];exact fun h => hp h.2.2
   have hp' : parentsB (tdOf ls) = false := by simpa using hp
   have HP := Lib.hid hp';clear hp hp'
   go_enter Tryz.func39, Tryz.ntmps39
   go_wp2_with (go_at_call 92; refine (parents_any a n c ls w H.out).mono ?_; rintro e w1 ⟨rfl, hb⟩; rw [HP.out]; have HB := Lib.hid hb; clear hb)
   go_ret
   rw [HE.out];exact ⟨_, rfl, OwnI.nil _ _, HB.out⟩
 have HP := Lib.hid hp
 have hkl : kn < ls.length := by rw [HL.out]; omega
 have HEA : Hid (allL (tdOf ls) (kn : Int) = sortD (rawL (tdOf ls) kn (tdOf ls).length)) := by
  rw [Hid, allL, if_pos ⟨by omega, by rw [tdOf_len]; omega, hp⟩, Int.toNat_natCast]
 clear hp
 have hmm := @run_makeMap Tryz.prog
 go_enter Tryz.func39, Tryz.ntmps39
 go_upto_region 3 with (first
  | (go_at_call 92
     refine (parents_any a n c ls w H.out).mono ?_;rintro e w1 ⟨rfl, hb⟩;rw [HP.out];have HB := Lib.hid hb
     clear hb))
 obtain ⟨o0, hput0, hmap0⟩ := IMap.put (P := Tryz.prog) (IMap.made w1) Tryz.underlying157 Tryz.underlying3 (kn : Int) (.int .i64 1)
 rw [belowF_zero (tdOf ls)] at hmap0
 have HM0 := Lib.hid hmap0
 clear hmap0
 go_upto_region 4 with (fail)
 obtain ⟨W, hW⟩ : ∃ W, W = (w1.alloc (.map #[] 0)).putObj w1.heap.size o0 := ⟨_, rfl⟩
 rw [← hW]
 rw [← hW] at HM0
 have hWB : Below w1.heap.size w1 W := by rw [hW]; exact ((Below.refl _ w1).alloc (Nat.le_refl _) _).grown (grownBy_putObj' _ w1.heap.size o0) (by simp) (fun k e => by cases e; exact Nat.le_refl _)
 have hWs : W.heap.size = w1.heap.size + 1 := by rw [hW]; simp
 have HWB := Lib.hid hWB
 have HWs := Lib.hid hWs
 obtain ⟨t, b, o, hlk, hok, rfl, c0, c1, c2⟩ := ((H.out.ext HB.out).ext hWB).cells (k := kn) (by omega)
 have HTK : Hid (blkL (tdOf ls) kn = t.d.blocks) := by rw [Hid, blkL, tdOf_at ls kn t hlk]
 have HOK := Lib.hid hok.1
 clear hput0 hmm hW hWB hWs hlk hok
 go_upto_region 5 with (first
  | (go_at_call 93
     refine (cloneInts_any t.ba t.bn t.bc t.d.blocks W HOK.out).mono ?_;rintro e w2 ⟨v, rfl, ho, hb⟩;have HO := Lib.hid ho;have HB2 := Lib.hid hb
     clear ho hb))
 have HJ0 : Hid (AllJ w ls kn 0 w1.heap.size v w2) := by
  refine ⟨HM0.out.ext HB2.out, ?_, ext_trans (ext_trans HB.out HWB.out) HB2.out, HB.out.size, ?_⟩
  · have h1 := HO.out.mono (base' := w1.heap.size + 1) (by rw [HWs.out]; omega);rw [rawL_zero, HTK.out];exact h1
  · have := HB2.out.size; rw [HWs.out] at this; omega
 generalize w1.heap.size = M at *
 clear c0 c1 c2 HOK HTK HO HB2 HM0 HWB HWs HB
 go_wp2
 go_loopg [6, 33] n (fun gg s6 s33 wr => ∃ (m : Nat), s33 = .int .i64 (m : Int) ∧ m ≤ n ∧ n ≤ gg + m ∧ Hid (AllJ w ls kn m M s6 wr))
 case atStart => exact ⟨0, rfl, Nat.zero_le _, Nat.le_refl _, HJ0⟩
 case round =>
  obtain ⟨m, rfl, hm, hgg, HJ⟩ := hrel;clear HJ0;by_cases hlt : m < n
  · have hml : m < (tdOf ls).length := by rw [tdOf_len, HL.out]; exact hlt
    have hkl2 : kn < (tdOf ls).length := by rw [tdOf_len]; exact hkl
    obtain ⟨t, b2, o2, hlk, hok, e2, c0', c1', c2'⟩ := H.out.cells hlt;have c0 := cell_ext HJ.out.2.2.1 c0';have c1 := cell_ext HJ.out.2.2.1 c1';have c2 := cell_ext HJ.out.2.2.1 c2';clear c0' c1' c2';injection e2 with e2;injection e2 with e2 e3;subst e2 e3;have htd := tdOf_at ls m t hlk;have HTP : Hid (parL (tdOf ls) m = t.d.parent) := by rw [Hid, parL, htd]
    have HTB : Hid (blkL (tdOf ls) m = t.d.blocks) := by rw [Hid, blkL, htd]
    have HRS := Lib.hid (rawL_step HP.out kn m hkl2 hml);have HBS := Lib.hid (belowF_step HP.out kn m hkl2 hml);have HBP := Lib.hid (belowF_par HP.out kn m hml);have HRL := Lib.hid (rawL_len (tdOf ls) kn m (by omega));have HOK := Lib.hid hok.1;have hp1 := hok.2.2.2.1;have hp2 := hok.2.2.2.2;have hbl : t.d.blocks.length = t.bn := hok.1.1;have hble := blkL_le (tdOf ls) m;rw [HTB.out, hbl] at hble;have HBL := Lib.hid hbl;clear hlk htd hok hbl;go_upto_region 8 with (fail)
    obtain ⟨W1, hW1⟩ : ∃ W1, W1 = wr.alloc (tileO t) := ⟨_, rfl⟩
    rw [← hW1];have hB1 : Below wr.heap.size wr W1 := by rw [hW1]; exact ext_alloc _ _
    have hx1 : W1.heap[wr.heap.size]? = some (tileO t) := by rw [hW1, heap_alloc_new]
    have d1 : W1.cell? ⟨wr.heap.size, 1, none⟩ = some (.int .i64 t.d.parent) := by rw [cell_of_row _ _ _ _ _ _ hx1]; rfl
    have d2 : W1.cell? ⟨wr.heap.size, 2, none⟩ = some (.slice t.ba t.bn t.bc) := by rw [cell_of_row _ _ _ _ _ _ hx1]; rfl
    have HIM := Lib.hid (HJ.out.1.ext hB1);have HO := Lib.hid (HJ.out.2.1.ext hB1);have HBW := Lib.hid (ext_trans HJ.out.2.2.1 hB1);have hMs : M < W1.heap.size := by have := HJ.out.2.2.2.2; have := hB1.size; omega
    have hwM := HJ.out.2.2.2.1;have hqM : M < wr.heap.size := HJ.out.2.2.2.2;have hlk := IMap.look (w := W1) (P := Tryz.prog) HIM.out Tryz.underlying157 Tryz.underlying3 (zero_int _) t.d.parent;have HX1 := Lib.hid hx1;have HB1 := Lib.hid hB1;clear hW1 hx1 hB1 c0 c1 c2 HJ;generalize hq : wr.heap.size = q at *;clear hq;have HUP : Hid ((decide (0 ≤ t.d.parent) && (belowF (tdOf ls) kn m t.d.parent).isSome) = upB (tdOf ls) kn m) := by rw [Hid, ← HTP.out]; exact HBP.out
    have HLK : Hid (∀ x, belowF (tdOf ls) kn m x = none ∨ belowF (tdOf ls) kn m x = some (.int .i64 1)) := fun x => by
     unfold belowF;by_cases hc : x = kn ∨ (0 ≤ x ∧ x < m ∧ descB (tdOf ls) kn x.toNat = true)
     · exact .inr (if_pos hc)
     · exact .inl (if_neg hc)
    cases hu : upB (tdOf ls) kn m with
    | false =>
      have HN : Hid (AllJ w ls kn (m + 1) M u6 W1) := by
       refine ⟨?_, ?_, HBW.out, hwM, hMs⟩
       · rw [HBS.out, hu]; exact HIM.out
       · rw [HRS.out, hu]; exact HO.out
      have hu2 := HUP.out;rw [hu] at hu2;by_cases h0 : 0 ≤ t.d.parent
      · have hno : belowF (tdOf ls) kn m t.d.parent = none := by
         rcases HLK.out t.d.parent with e | e
         · exact e
         · rw [e, decide_eq_true h0] at hu2; cases hu2
        rw [hno] at hlk;simp only [Option.getD_none] at hlk;clear hu2 hu hno;go_wp2
        go_roundg (n - (m + 1))
        case measure => omega
        case rel => exact ⟨m + 1, by go_num, by omega, by omega, HN⟩
      · clear hu2 hu hlk;go_wp2
        go_roundg (n - (m + 1))
        case measure => omega
        case rel => exact ⟨m + 1, by go_num, by omega, by omega, HN⟩
    | true =>
      have hu2 := HUP.out;rw [hu] at hu2;have h0 : 0 ≤ t.d.parent := by
       by_cases h0 : 0 ≤ t.d.parent
       · exact h0
       · rw [decide_eq_false h0] at hu2; cases hu2
      have hyes : belowF (tdOf ls) kn m t.d.parent = some (.int .i64 1) := by
       rcases HLK.out t.d.parent with e | e
       · rw [e, decide_eq_true h0] at hu2; cases hu2
       · exact e
      rw [hyes] at hlk;simp only [Option.getD_some] at hlk;obtain ⟨o1, hput1, hmap1⟩ := IMap.put (P := Tryz.prog) HIM.out Tryz.underlying157 Tryz.underlying3 (m : Int) (.int .i64 1);have hgp := grownBy_putObj' W1 M o1;have HIM2 : Hid (IMap (W1.putObj M o1) M (belowF (tdOf ls) kn (m + 1))) := by rw [Hid, HBS.out, hu]; exact hmap1
      have HR2 : Hid (rawL (tdOf ls) kn (m + 1) = rawL (tdOf ls) kn m ++ t.d.blocks) := by rw [Hid, HRS.out, hu, ← HTB.out]; rfl
      have hlow : ∀ r, u6.ownBlock = some r → M + 1 ≤ r := fun r e => (HO.out.1.lt r e).1
      have HO2 := Lib.hid (HO.out.kept hgp (by
       cases e : u6.ownBlock with
       | none => exact .inl rfl
       | some r => exact .inr fun e2 => by injection e2 with e2; have := hlow r e; omega))
      have HBW2 := Lib.hid (HBW.out.grown hgp (by omega) (fun r e => by cases e; exact hwM));have hx2 : (W1.putObj M o1).heap[q]? = some (tileO t) := (World.putObj_heap_other (by omega)).trans HX1.out;have d3 : (W1.putObj M o1).cell? ⟨q, 2, none⟩ = some (.slice t.ba t.bn t.bc) := by rw [cell_of_row _ _ _ _ _ _ hx2]; rfl
      have HI2 : Hid (Ints (W1.putObj M o1) t.ba t.bn t.d.blocks) := HOK.out.ext HBW2.out;have hsz2 : (W1.putObj M o1).heap.size = W1.heap.size := by simp
      obtain ⟨av, cv, hv⟩ := HO.out.form;have hrl := HRL.out;have hh := HO.out.2.1;clear hu2 hu hyes hmap1 hgp hx2;have HHH := Lib.hid hh;clear hh
      go_wp2_with (
       (at_builtin
        refine wpList_appendR (W1.putObj M o1) rfl (.tmp 50) (.tmp 52) 22 3 rfl (M + 1) _ 1 8 Tryz.underlying22 infoI rfl (by omega) u6 (rawL (tdOf ls) kn m).length _ rfl HO2.out.1 t.ba t.bn t.bc rfl (intVals t.d.blocks) (by rw [intVals_len, HBL.out, Nat.mul_one]) HI2.out.news (intVals_one _) (by simp only [maxLen]; omega) (by omega) (by simp; omega) ?_;intro v3 w3 ho3 hg3 hv3;have HO3 := Lib.hid ho3;have HG3 := Lib.hid hg3
        clear ho3 hg3 hv3))
      go_roundg (n - (m + 1))
      case measure => omega
      case rel =>
       refine ⟨m + 1, by go_num, by omega, by omega, HIM2.out.grown HG3.out (fun e => by have := hlow M e.symm; omega), ?_, HBW2.out.grown HG3.out (by rw [hsz2]; omega) (fun r e => by have := hlow r e; omega), hwM, by have := HG3.out.size; rw [hsz2] at this; omega⟩;rw [HR2.out];refine ⟨?_, ?_, by rw [List.length_append, HBL.out]; omega⟩
       · have e3 : (rawL (tdOf ls) kn m ++ t.d.blocks).length = (rawL (tdOf ls) kn m).length + t.bn := by rw [List.length_append, HBL.out]
         have e4 : intVals (rawL (tdOf ls) kn m ++ t.d.blocks) = intVals (rawL (tdOf ls) kn m) ++ intVals t.d.blocks := by simp [intVals]
         rw [e3, e4];exact HO3.out
       · intro z hz;rcases List.mem_append.1 hz with hz | hz
         · exact HHH.out z hz
         · exact HOK.out.mem z hz
  · obtain rfl : m = n := by omega
    have HJ1 := HJ.out.2.1;have HJ2 := Lib.hid HJ.out.2.2;have HO := Lib.hid HJ1;clear HJ1 HJ
    go_wp2_with (first
     | (go_at_call 95
        refine (compactI_any _ _ _ w4 HO4.out).mono ?_;rintro e w5 ⟨v5, rfl, ho, hg⟩;have HO5 := Lib.hid ho;have HG5 := Lib.hid hg
        clear ho hg)
     | (go_at_call 94
        refine (sortI_any _ _ _ wr HO.out).mono ?_;rintro e w4 ⟨rfl, ho, hg⟩;have HO4 := Lib.hid ho;have HG4 := Lib.hid hg
        clear ho hg))
    go_ret
    have e1 : (tdOf ls).length = m := by rw [tdOf_len, HL.out]
    rw [HEA.out, e1, ← compact_sort];have hlow : ∀ r, u6.ownBlock = some r → M + 1 ≤ r := fun r e => (HO.out.1.lt r e).1;have hs4 := HG4.out.size;refine ⟨_, rfl, HO5.out.mono (by have := HJ2.out.2.1; omega), (HJ2.out.1.grown HG4.out HJ2.out.1.size (fun r e => by have := hlow r e; have := HJ2.out.2.1; omega)).grown HG5.out (by have := HJ2.out.1.size; omega) (fun r e => by have := hlow r e; have := HJ2.out.2.1; omega)⟩
end

section
open Go.Shelf
def lays212_ren : Go.Shelf.Ren := ⟨fun | 212 => 194 | 263 => 213 | 264 => 214 | n => n, fun | 46 => 209 | 51 => 226 | 146 => 277 | 53 => 228 | 148 => 279 | n => n, fun | n => n⟩
theorem lays212 : Go.Proofs.Lays.n212 Tryz.prog lays212_ren := {
 mixed := by kernel_rfl
 f212 := Tryz.func194.trans (congrArg some (by kernel_rfl))
 f263 := Tryz.func213.trans (congrArg some (by kernel_rfl))
 f264 := Tryz.func214.trans (congrArg some (by kernel_rfl))
 t46 := Tryz.underlying209
 a46 := Tryz.isAgg209
 z46 := Tryz.sizeOf209
 v46 := Tryz.zeroValue209
 t51 := Tryz.underlying226
 a51 := Tryz.isAgg226
 z51 := Tryz.sizeOf226
 v51 := Tryz.zeroValue226
 t53 := Tryz.underlying228
 a53 := Tryz.isAgg228
 z53 := Tryz.sizeOf228
 v53 := Tryz.zeroValue228
 t146 := Tryz.underlying277
 a146 := Tryz.isAgg277
 z146 := Tryz.sizeOf277
 v146 := Tryz.zeroValue277
 t148 := Tryz.underlying279
 a148 := Tryz.isAgg279
 z148 := Tryz.sizeOf279
 v148 := Tryz.zeroValue279 }
open Go.RowKit Go.Lib in
theorem bits_Mul (x y : Nat) (hx : x < 18446744073709551616) (hy : y < 18446744073709551616) (w : World) :
  Calls Tryz.prog 194 #[.int .u64 x, .int .u64 y] w fun e w' => e = .returned (.tuple #[.int .u64 ((x * y / 18446744073709551616 : Nat) : Int), .int .u64 ((x * y % 18446744073709551616 : Nat) : Int)]) ∧ w' = w := Any.bits_Mul lays212 x y hx hy w
end

section
open Go.RowKit
theorem op_copyS {P : Program} {o : Oper} {a : Act} {w : World} {K : Act → World → Prop} {Q : Exit → Act → World → Prop} (hgd : o.guard = none) (d s : Operand) (dT sT : TypeId)
  (ho : o.op = .call { callee := .builtin .copy, args := #[d, s], argTypes := #[dT, sT] }) (elem : TypeId) (hu : P.underlying dT = some (.slice elem)) (hsz : (P.info? elem).map (·.size) = some 1)
  (dp sp : Option Addr) (dLen dCap sLen sCap : Nat) (hd : a.eval d = .slice dp dLen dCap) (hs : a.eval s = .slice sp sLen sCap)
  (g off : Nat) (cur : List Value) (t : TypeId) (hg : w.heap[g]? = some (.cells cur.toArray t (0, 0))) (cs : List Value) (hn : cs.length = Nat.min sLen dLen)
  (hpos : 0 < cs.length → dp = some ⟨g, off, none⟩ ∧ ∃ ad, sp = some ad ∧ ∀ j v, cs[j]? = some v → w.cell? (ad.add j) = some v)
  (hfit : off + cs.length ≤ cur.length) (h1 : ∀ v ∈ cs, v.oneCell' = true) (B : Nat) (w0 : World) (hb : Below B w0 w) (hBg : B ≤ g)
  (h : ∀ w', Hid (w'.heap[g]? = some (.cells (splice cur off cs).toArray t (0, 0))) → Below B w0 w' → K (a.put o.dst (goInt cs.length)) w') : Oper.wp P o a w K Q := by
 have := step_copy_splice (P := P) (ops := #[]) (Q := Q) (E := True) hgd d s dT sT ho elem hu hsz dp sp dLen dCap sLen sCap hd hs g off cur t hg cs hn hpos hfit h1 B w0 hb hBg h
 rwa [if_pos (by simp [Region.wanted, hgd])] at this
def repL (x : Int) (n j : Nat) : List Value := List.replicate j (.int .i64 x) ++ List.replicate (n - j) (.int .i64 0)
theorem repL_len (x : Int) (n j : Nat) (h : j ≤ n) : (repL x n j).length = n := by simp [repL]; omega
theorem repL_splice (x : Int) (n j m : Nat) (h : j + m ≤ n) : splice (repL x n j) j (List.replicate m (.int .i64 x)) = repL x n (j + m) := by
 unfold splice repL
 rw [List.take_append_of_le_length (by simp), List.take_of_length_le (by simp), List.drop_append, List.length_replicate, List.length_replicate, List.drop_of_length_le (by simp), List.nil_append, List.drop_replicate, ← List.append_assoc] <;> try rw [List.replicate_append_replicate, show n - j - (j + m - j) = n - (j + m) by omega]
theorem repL_at (x : Int) (n j i : Nat) (hi : i < j) : (repL x n j)[i]? = some (.int .i64 x) := by
 unfold repL
 rw [List.getElem?_append_left (by simpa using hi)]
 simp [hi]
theorem repeat_any (n g : Nat) (x : Int) (hx : I64 x) (h1 : 1 ≤ n) (h2 : n ≤ 1000000) (w : World) (hc : w.cell? ⟨g, 0, none⟩ = some (.int .i64 x)) :
  Calls Tryz.prog 158 #[.slice (some ⟨g, 0, none⟩) 1 1, .int .i64 (n : Int)] w (IntsPost w (List.replicate n x)) := by
 have HC := Lib.hid hc
 clear hc
 have e1 : 1 * n / 18446744073709551616 = 0 := Nat.div_eq_of_lt (by omega)
 have e2 : 1 * n % 18446744073709551616 = n := by rw [Nat.one_mul]; exact Nat.mod_eq_of_lt (by omega)
 have E1 := Lib.hid e1
 have E2 := Lib.hid e2
 clear e1 e2
 have hmk := run_make_row' (P := Tryz.prog) 22 3 (.int .i64 0) 8 Tryz.underlying22 infoI rfl .i64 .i64 n (by omega) (by omega) w
 go_enter Tryz.func158, Tryz.ntmps158
 go_upto_region 7 with (first
  | (go_at_call 194
     refine (bits_Mul 1 n (by omega) (by omega) w).mono ?_;rintro e w' ⟨rfl, he⟩;obtain rfl := he.symm
     rw [E1.out, E2.out]))
 obtain ⟨W, hW⟩ : ∃ W, W = w.alloc (.cells (madeCells #[.int .i64 0] n) 3) := ⟨_, rfl⟩
 rw [← hW]
 have hg0 : W.heap[w.heap.size]? = some (.cells (repL x n 0).toArray 3 (0, 0)) := by
  rw [hW, heap_alloc_new]
  congr 2
  apply Array.ext_getElem?;intro k;by_cases hk : k < n
  · simp [madeCells, repL, hk, Nat.mod_one]
  · rw [Array.getElem?_eq_none (by simp [madeCells]; omega), Array.getElem?_eq_none (by simp [repL]; omega)]
 have hB : Below w.heap.size w W := by rw [hW]; exact (Below.refl _ w).alloc (Nat.le_refl _) _
 have HG0 := Lib.hid hg0
 have HB := Lib.hid hB
 have hsz : (Tryz.prog.info? 3).map (·.size) = some 1 := by kernel_rfl
 have HSZ := Lib.hid hsz
 have HCW := Lib.hid (cell_ext hB HC.out)
 clear hW hg0 hB hmk hsz
 go_wp2_with (
  (refine wpList_copy_splice (o := ⟨some 33, _, _, _, _, _⟩) rfl (.tmp 31) (.tmp 32) 22 22 rfl 3 Tryz.underlying22 HSZ.out (some ⟨w.heap.size, 0, none⟩) (some ⟨g, 0, none⟩) n n 1 1 rfl rfl w.heap.size 0 (repL x n 0) 3 HG0.out (List.replicate 1 (.int .i64 x)) (by simp [Nat.min_def]; omega) (fun _ => ⟨rfl, _, rfl, fun j v hj => by
    have hj0 : j = 0 := by have := (List.getElem?_eq_some_iff.1 hj).1; simpa using this
    subst hj0;have hv : v = .int .i64 x := by simpa using hj.symm
    subst hv;rw [addr_add]
    exact HCW.out⟩) (by rw [repL_len _ _ _ (by omega)]; simp; omega) (by intro v hv; have := (List.mem_replicate.1 hv).2; subst this; rfl) w.heap.size w HB.out (Nat.le_refl _) ?_
   intro w2 hg2 hb2;have HG2 := hg2;have HB2 := Lib.hid hb2
   clear hg2 hb2))
 rw [repL_splice _ _ _ _ (by omega), Nat.zero_add] at HG2
 clear HG0 HB HCW
 go_loopg [8] n (fun gg s8 wr => ∃ (j : Nat), s8 = .int .i64 (j : Int) ∧ 1 ≤ j ∧ j ≤ n ∧ n ≤ gg + j ∧ Hid (wr.heap[w.heap.size]? = some (.cells (repL x n j).toArray 3 (0, 0))) ∧ Hid (Below w.heap.size w wr))
 case atStart => exact ⟨1, rfl, Nat.le_refl _, h1, by omega, HG2, HB2⟩
 case round =>
  obtain ⟨j, rfl, hj1, hj2, hgg, HG, HB⟩ := hrel;clear HG2 HB2;by_cases hlt : j < n
  · have hm1 : 1 ≤ Nat.min j (n - j) := by simp [Nat.min_def]; split <;> omega
    have hm2 : j + Nat.min j (n - j) ≤ n := by simp [Nat.min_def]; split <;> omega
    have hm3 : Nat.min j (n - j) ≤ j := Nat.min_le_left _ _;have hlt' : (j : Int) < (n : Int) := by omega
    have hj0 : (0 : Int) ≤ (j : Int) := by omega
    go_upto_region 9 with (fail)
    refine z_start (fun w' => ∃ q : ClsW (fun q => Below w.heap.size w q), w' = q.val) (by kernel_rfl) ?_;obtain ⟨v0, F0, G0, hv0⟩ : ∃ v0, Below w.heap.size w v0 ∧ v0.heap[w.heap.size]? = some (.cells (repL x n j).toArray 3 (0, 0)) ∧ wr.drew = v0 := ⟨_, below_drewN HB.out 1, HG.out, rfl⟩
    rw [hv0];clear hv0
    haveI : Nonempty (ClsW (fun q => Below w.heap.size w q)) := cls_ne (Below.refl _ _)
    refine z_reads 0 7 (by kernel_rfl) ⟨⟨_, F0⟩, rfl⟩ ?_;simp only [List.take_succ_cons, List.take_zero, List.drop_succ_cons, List.drop_zero]
    repeat (go_big_quiet_step (fail))
    refine wpQuiet_nil ?_;refine z_one 7 (by kernel_rfl) ?_;refine wpOp_at rfl rfl ?_
    refine op_copyS rfl (.tmp 41) (.tmp 44) 22 22 rfl 3 Tryz.underlying22 HSZ.out (some ⟨w.heap.size, j, none⟩) (some ⟨w.heap.size, 0, none⟩) (n - j) (n - j) j n rfl rfl w.heap.size j (repL x n j) 3 G0 (List.replicate (Nat.min j (n - j)) (.int .i64 x)) (by simp) (fun _ => ⟨rfl, _, rfl, fun i v hi => by
     have hi0 : i < Nat.min j (n - j) := by have := (List.getElem?_eq_some_iff.1 hi).1; simpa using this
     have hv : v = .int .i64 x := by rw [List.getElem?_replicate, if_pos hi0] at hi; injection hi with hi; exact hi.symm
     subst hv;rw [addr_add, cell_of_row _ _ _ _ _ _ G0, Nat.zero_add];have := repL_at x n j i (by omega)
     simpa using this⟩) (by rw [repL_len _ _ _ hj2]; simpa using hm2) (by intro v hv; have := (List.mem_replicate.1 hv).2; subst this; rfl) w.heap.size w F0 (Nat.le_refl _) ?_
    intro w3 hg3 hb3;rw [List.length_replicate];rw [repL_splice _ _ _ _ hm2] at hg3;generalize Nat.min j (n - j) = m at *;simp only [goInt];refine ⟨Or.inr ⟨⟨_, hb3⟩, rfl⟩, ?_⟩
    try simp only [Act.put, List.setIfInBounds_toArray, List.set_cons_succ, List.set_cons_zero]
    refine z_reads 8 2 (by kernel_rfl) ⟨⟨_, hb3⟩, rfl⟩ ?_;simp only [List.take_succ_cons, List.take_zero, List.drop_succ_cons, List.drop_zero]
    repeat (go_big_quiet_step (fail))
    refine wpQuiet_nil ?_;refine z_done (by kernel_rfl) ?_;clear hlt';go_wp2
    go_roundg (n - (j + m))
    case measure => omega
    case rel => exact ⟨j + m, by go_num, by omega, hm2, by omega, hg3, hb3⟩
  · obtain rfl : j = n := by omega
    go_wp2
    go_ret
    refine ⟨_, rfl, ⟨⟨by simp [intVals], .inr ⟨w.heap.size, j, (repL x j j).toArray, by simp, Nat.le_refl _, HG.out, by simp, by unfold maxLen; omega, by simp [repL], by simp [repL, intVals]⟩⟩, ?_, by simp; omega⟩, HB.out⟩;intro z hz;rw [(List.mem_replicate.1 hz).2];exact hx
end

section
open Go.RowKit
def homesAt (l : List TileD) (k i b : Nat) : List Nat := ((List.range k).flatMap fun q => ((blkL l q).filter fun x => x == (b : Int)).map fun _ => q) ++ (((blkL l k).take i).filter fun x => x == (b : Int)).map fun _ => k
theorem homesAt_zero (l : List TileD) (b : Nat) : homesAt l 0 0 b = [] := by simp [homesAt]
theorem homesAt_next (l : List TileD) (k b : Nat) : homesAt l k (blkL l k).length b = homesAt l (k + 1) 0 b := by
 simp only [homesAt, List.take_length, List.range_succ, List.flatMap_append, List.flatMap_cons, List.flatMap_nil, List.append_nil, List.take_zero, List.filter_nil, List.map_nil]
theorem homesAt_end (l : List TileD) (b : Nat) : homesAt l l.length 0 b = homes l b := by simp [homesAt, homes]
theorem homesAt_step (l : List TileD) (k i : Nat) (x : Int) (h : (blkL l k)[i]? = some x) (b : Nat) : homesAt l k (i + 1) b = if (b : Int) = x then homesAt l k i b ++ [k] else homesAt l k i b := by
 have e : (blkL l k).take (i + 1) = (blkL l k).take i ++ [x] := by rw [List.take_add_one, h]; rfl
 simp only [homesAt, e, List.filter_append, List.map_append]
 by_cases hb : (b : Int) = x
 · rw [← hb]; simp
 · have : (x == (b : Int)) = false := by simpa using fun e => hb e.symm
   simp [hb, this]
theorem homesAt_le (l : List TileD) (k i b : Nat) (hk : k < l.length) : ∃ r, homes l b = homesAt l k i b ++ r := by
 have h1 : ∃ r, homesAt l k (blkL l k).length b = homesAt l k i b ++ r := by
  refine ⟨(((blkL l k).drop i).filter fun x => x == (b : Int)).map fun _ => k, ?_⟩;simp only [homesAt, List.take_length, List.append_assoc]
  congr 1
  rw [← List.map_append, ← List.filter_append, List.take_append_drop]
 obtain ⟨r, hr⟩ := h1
 have h2 : ∀ m, k + 1 ≤ m → ∃ r, homesAt l m 0 b = homesAt l (k + 1) 0 b ++ r := by
  intro m
  induction m with
  | zero => intro h; omega
  | succ m ih =>
    intro hm;by_cases e : m = k
    · subst e; exact ⟨[], by simp⟩
    · obtain ⟨r, hr⟩ := ih (by omega);refine ⟨r ++ ((blkL l m).filter fun x => x == (b : Int)).map fun _ => m, ?_⟩;rw [← List.append_assoc, ← hr];simp [homesAt, List.range_succ]
 obtain ⟨r2, hr2⟩ := h2 l.length (by omega)
 refine ⟨r ++ r2, ?_⟩
 rw [← homesAt_end, hr2, ← homesAt_next, hr, List.append_assoc]
def ownV : List Nat → Int
 | [] => -1
 | k :: _ => (k : Int)
theorem ownV_neg (h : List Nat) : ownV h < 0 ↔ h = [] := by cases h <;> simp [ownV]
def curL (l : List TileD) (n k i : Nat) : List Int := (List.range n).map fun b => ownV (homesAt l k i b)
theorem curL_len (l : List TileD) (n k i : Nat) : (curL l n k i).length = n := by simp [curL]
theorem curL_at (l : List TileD) (n k i b : Nat) (h : b < n) : (curL l n k i).getD b 0 = ownV (homesAt l k i b) := by simp [curL, List.getD_eq_getElem?_getD, h]
theorem curL_set (l : List TileD) (n k i b : Nat) (hx : (blkL l k)[i]? = some (b : Int)) (h0 : homesAt l k i b = []) : (curL l n k i).set b (k : Int) = curL l n k (i + 1) := by
 apply List.ext_getElem?
 intro j
 rw [List.getElem?_set]
 simp only [curL, List.length_map, List.length_range, List.getElem?_map]
 by_cases hj : j < n
 · rw [List.getElem?_range hj];by_cases e : b = j
   · subst e;simp [hj, homesAt_step l k i (b : Int) hx b, h0, ownV]
   · rw [if_neg e];have e2 : ¬ (j : Int) = (b : Int) := by omega
     simp [homesAt_step l k i (b : Int) hx j, e2]
 · rw [List.getElem?_eq_none (by simpa using hj)];by_cases e : b = j
   · subst e; simp [hj]
   · simp [e]
theorem curL_skip (l : List TileD) (n k i : Nat) (x : Int) (hx : (blkL l k)[i]? = some x) (h : x < 0 ∨ (n : Int) ≤ x) : curL l n k i = curL l n k (i + 1) := by
 unfold curL
 refine List.map_congr_left fun b hb => ?_
 have := List.mem_range.1 hb
 rw [homesAt_step l k i x hx b, if_neg (by omega)]
theorem curL_next (l : List TileD) (n k : Nat) : curL l n k (blkL l k).length = curL l n (k + 1) 0 := by
 unfold curL
 exact List.map_congr_left fun b _ => by rw [homesAt_next]
theorem curL_zero (l : List TileD) (n : Nat) : curL l n 0 0 = List.replicate n (-1) := by
 apply List.ext_getElem?
 intro j
 by_cases hj : j < n <;> simp [curL, homesAt_zero, ownV, hj]
theorem curL_end (l : List TileD) (n : Nat) (h1 : ∀ b, b < n → (homes l b).length ≤ 1) (h2 : (-1 : Int) ∉ curL l n l.length 0) : ownB l n = true ∧ curL l n l.length 0 = ownL l n := by
 have h3 : ∀ b, b < n → homes l b ≠ [] := fun b hb e => by
  apply h2;unfold curL;rw [List.mem_map];exact ⟨b, List.mem_range.2 hb, by rw [homesAt_end, e]; rfl⟩
 constructor
 · simp only [ownB, List.all_eq_true, List.mem_range, beq_iff_eq];intro b hb;have := h1 b hb;have := List.length_pos_iff.2 (h3 b hb);omega
 · unfold curL ownL;refine List.map_congr_left fun b hb => ?_;rw [homesAt_end, ownF];cases e : homes l b with
   | nil => exact absurd e (h3 b (List.mem_range.1 hb))
   | cons k r => rfl
theorem own_no1 (l : List TileD) (n b : Nat) (hb : b < n) (h : (homes l b).length ≠ 1) : ownB l n = false := by
 rw [Bool.eq_false_iff]
 intro h2
 simp only [ownB, List.all_eq_true, List.mem_range, beq_iff_eq] at h2
 exact h (h2 b hb)
theorem curL_ok (l : List TileD) (n k i : Nat) (hk : k ≤ 20000000000000) : ∀ x ∈ curL l n k i, I64 x := by
 intro x hx
 unfold curL at hx
 rw [List.mem_map] at hx
 obtain ⟨b, _, rfl⟩ := hx
 have hq : ∀ q ∈ homesAt l k i b, q ≤ k := by
  intro q hq;simp only [homesAt, List.mem_append, List.mem_flatMap, List.mem_range, List.mem_map] at hq;rcases hq with ⟨p, hp, _, _, rfl⟩ | ⟨_, _, rfl⟩ <;> omega
 unfold I64
 cases e : homesAt l k i b with
 | nil => simp [ownV]
 | cons q r =>
   have := hq q (by rw [e]; simp);simp only [ownV];omega
def OwJ (w : World) (l : List TileD) (bn k i : Nat) (v : Value) (wr : World) : Prop := OwnI wr w.heap.size v (curL l bn k i) ∧ (∀ b, b < bn → (homesAt l k i b).length ≤ 1) ∧ Below w.heap.size w wr
def OwnPost (w : World) (l : List TileD) (n : Nat) (e : Ending) (w' : World) : Prop :=
 ∃ v, e = .returned v ∧ Below w.heap.size w w' ∧ (ownB l n = true → ∃ g c, v = .slice (some ⟨g, 0, none⟩) n c ∧ OwnI w' w.heap.size v (ownL l n)) ∧ (ownB l n = false → v = nilV)
theorem own_any (d : WalkD) (hd1 : 1 ≤ d.bn) (hd2 : d.bn ≤ 200) (a : Option Addr) (n c : Nat) (ls : List TileR) (w : World) (h : TilesOK w a n ls) :
  Calls Tryz.prog 91 #[walkV d, .slice a n c] w (OwnPost w (tdOf ls) d.bn) := by
 have hn := h.1.2.1
 have HL := Lib.hid h.1.1
 have H := Lib.hid h
 clear h
 go_enter Tryz.func91, Tryz.ntmps91
 go_wp2_with (
  (go_at_call 158
   refine (repeat_any d.bn (w.heap.size + 1) (-1) (by unfold I64; omega) hd1 (by omega) _ (by rw [cell_of_row _ _ _ _ _ _ (heap_at _ _ _ (by simp))]; rfl)).mono ?_;rintro e w2 ⟨v, rfl, ho, hb⟩;have HO := Lib.hid ho;have HB := Lib.hid (ext_trans ((ext_alloc _ _).alloc (by simp) _) hb)
   clear ho hb))
 have hfm : ∃ g c, v = .slice (some ⟨g, 0, none⟩) d.bn c := by
  have := own_form HO.out.1 (by simp; omega);simpa using this
 obtain ⟨G, C, rfl⟩ := hfm
 have HO0 : Hid (OwnI w2 w.heap.size (.slice (some ⟨G, 0, none⟩) d.bn C) (curL (tdOf ls) d.bn 0 0)) := by rw [Hid, curL_zero]; exact HO.out.mono (by simp; omega)
 clear HO
 go_loopg [18] n (fun gg s wr => ∃ (k : Nat), s = .int .i64 (k : Int) ∧ k ≤ n ∧ n ≤ gg + k ∧ Hid (OwJ w (tdOf ls) d.bn k 0 (.slice (some ⟨G, 0, none⟩) d.bn C) wr))
 case atStart => exact ⟨0, rfl, Nat.zero_le _, Nat.le_refl _, HO0.out, fun b _ => by rw [homesAt_zero]; simp, HB.out⟩
 case round =>
  obtain ⟨k, rfl, hk, hgg, HJ⟩ := hrel;clear HO0 HB;by_cases hlt : k < n
  · have hkl : k < (tdOf ls).length := by rw [tdOf_len, HL.out]; exact hlt
    obtain ⟨t, b, o, hlk, hok, rfl, c0', c1', c2'⟩ := H.out.cells hlt;have c0 := cell_ext HJ.out.2.2 c0';have c1 := cell_ext HJ.out.2.2 c1';have c2 := cell_ext HJ.out.2.2 c2';clear c0' c1' c2';have HTB : Hid (blkL (tdOf ls) k = t.d.blocks) := by rw [Hid, blkL, tdOf_at ls k t hlk]
    have HOK := Lib.hid hok.1;have hbl : t.d.blocks.length = t.bn := hok.1.1;have hbn : t.bn ≤ 17592186044416 := hok.1.2.1;have HBL := Lib.hid hbl;have HCW : Hid (∃ t', (tdOf ls).getD k zTile = t') := ⟨_, rfl⟩
    clear hlk hok hbl HCW;generalize htba : t.ba = tba at *;have HTBA := Lib.hid htba;clear htba;go_upto_region 5 with (fail)
    obtain ⟨W1, hW1⟩ : ∃ W1, W1 = wr.alloc (.cells #[.int .i64 t.d.kind, .int .i64 t.d.parent, .slice tba t.bn t.bc] 76) := ⟨_, rfl⟩
    rw [← hW1];have hB1 : Below wr.heap.size wr W1 := by rw [hW1]; exact ext_alloc _ _
    have hx1 : W1.heap[wr.heap.size]? = some (.cells #[.int .i64 t.d.kind, .int .i64 t.d.parent, .slice tba t.bn t.bc] 76 (0, 0)) := by rw [hW1, heap_alloc_new]
    have d2 : W1.cell? ⟨wr.heap.size, 2, none⟩ = some (.slice tba t.bn t.bc) := by rw [cell_of_row _ _ _ _ _ _ hx1]; rfl
    have HJ1 : Hid (OwJ w (tdOf ls) d.bn k 0 (.slice (some ⟨G, 0, none⟩) d.bn C) W1) := ⟨HJ.out.1.ext hB1, HJ.out.2.1, ext_trans HJ.out.2.2 hB1⟩
    have HGlt : G < wr.heap.size := (HJ.out.1.1.lt G rfl).2;clear hW1 hx1 c0 c1 c2 HJ;go_wp2;obtain ⟨wo, rfl⟩ : ∃ wo : World, wo = wr := ⟨_, rfl⟩
    go_loopg [26] t.bn (fun g2 s wr => ∃ (i : Nat), s = .int .i64 (i : Int) ∧ i ≤ t.bn ∧ t.bn ≤ g2 + i ∧ Hid (OwJ w (tdOf ls) d.bn k i (.slice (some ⟨G, 0, none⟩) d.bn C) wr))
    case atStart => exact ⟨0, rfl, Nat.zero_le _, Nat.le_refl _, HJ1⟩
    case round =>
     obtain ⟨i, rfl, hi, hg2, HJ⟩ := hrel;clear HJ1 d2;by_cases hil : i < t.bn
     · obtain ⟨b3, o3, rfl, hcx, hx1, hx2⟩ := (HOK.out.ext HJ.out.2.2).2.2 i hil;have HXI : Hid ((blkL (tdOf ls) k)[i]? = some (t.d.blocks.getD i 0)) := by
        rw [Hid, HTB.out, List.getD_eq_getElem?_getD, List.getElem?_eq_getElem (by rw [HBL.out]; exact hil)];rfl
       have hil' : (i : Int) < (t.bn : Int) := by omega
       generalize t.d.blocks.getD i 0 = x at *;by_cases hxr : 0 ≤ x ∧ x < d.bn
       · obtain ⟨hxr1, hxr2⟩ := hxr;obtain ⟨xn, rfl⟩ : ∃ xn : Nat, x = (xn : Int) := ⟨x.toNat, by omega⟩
         have hxn : xn < d.bn := by omega
         have hcw : wr.cell? ⟨G, xn, none⟩ = some (.int .i64 (ownV (homesAt (tdOf ls) k i xn))) := by
          obtain ⟨b4, o4, e4, h4, _⟩ := HJ.out.1.ints.2.2 xn hxn;injection e4 with e4;injection e4 with e5 e6;subst e5 e6;rw [Nat.zero_add, curL_at _ _ _ _ _ hxn] at h4;exact h4
         by_cases hh : homesAt (tdOf ls) k i xn = []
         · have hown : wr.ownsRow w.heap.size 3 1 (.slice (some ⟨G, 0, none⟩) d.bn C) d.bn (intVals (curL (tdOf ls) d.bn k i)) := by have := HJ.out.1.1; rwa [curL_len] at this
           have hst := hown.stored xn (.int .i64 (k : Int));have hno : ownV (homesAt (tdOf ls) k i xn) = -1 := by rw [hh]; rfl
           rw [hno] at hcw;have HJ2 : Hid (OwJ w (tdOf ls) d.bn k (i + 1) (.slice (some ⟨G, 0, none⟩) d.bn C) (wr.setCell ⟨G, xn, none⟩ (.int .i64 (k : Int)))) := by
            refine ⟨⟨?_, curL_ok _ _ _ _ (by omega), by rw [curL_len]; omega⟩, fun b hb => ?_, HJ.out.2.2.setCell (by have := (HJ.out.1.1.lt G rfl).1; exact this) _⟩
            · have h5 := hst.1;have e5 : (intVals (curL (tdOf ls) d.bn k i)).set xn (.int .i64 (k : Int)) = intVals (curL (tdOf ls) d.bn k (i + 1)) := by
               rw [← curL_set (tdOf ls) d.bn k i xn HXI.out hh];simp [intVals, List.map_set]
              rw [e5] at h5;rw [curL_len];exact h5
            · rw [homesAt_step _ _ _ _ HXI.out];by_cases e : (b : Int) = (xn : Int)
              · have : b = xn := by omega
                subst this;rw [if_pos rfl, hh]; simp
              · rw [if_neg e]; exact HJ.out.2.1 b hb
           have hfw := hown.frozenAt xn;have hlw := (HJ.out.1.1.lt G rfl).2;clear hst hno hh HJ hown;go_wp2
           go_roundg (t.bn - (i + 1))
           case measure => omega
           case rel => exact ⟨i + 1, by go_num, by omega, by omega, HJ2⟩
         · have hge : 0 ≤ ownV (homesAt (tdOf ls) k i xn) := by
            have := mt (ownV_neg (homesAt (tdOf ls) k i xn)).1 hh;omega
           have HE : Hid (ownB (tdOf ls) d.bn = false) := by
            refine own_no1 _ _ xn hxn ?_;obtain ⟨r, hr⟩ := homesAt_le (tdOf ls) k (i + 1) xn hkl;rw [hr, homesAt_step _ _ _ _ HXI.out, if_pos rfl];have := List.length_pos_iff.2 hh;simp;omega
           have HBW := Lib.hid HJ.out.2.2;clear hh HJ;generalize ownV (homesAt (tdOf ls) k i xn) = ov at *;go_wp2
           go_ret
           exact ⟨_, rfl, HBW.out, fun h => by (rw [HE.out] at h; cases h), fun _ => rfl⟩
       · have HJ2 : Hid (OwJ w (tdOf ls) d.bn k (i + 1) (.slice (some ⟨G, 0, none⟩) d.bn C) wr) := by
          refine ⟨?_, fun b hb => ?_, HJ.out.2.2⟩
          · rw [← curL_skip (tdOf ls) d.bn k i x HXI.out (by omega)]; exact HJ.out.1
          · rw [homesAt_step _ _ _ _ HXI.out, if_neg (by omega)]; exact HJ.out.2.1 b hb
         clear HJ;by_cases hx0 : x < 0
         all_goals
          go_wp2
          go_roundg (t.bn - (i + 1))
          case measure => omega
          case rel => exact ⟨i + 1, by go_num, by omega, by omega, HJ2⟩
     · obtain rfl : i = t.bn := by omega
       have HJ2 : Hid (OwJ w (tdOf ls) d.bn (k + 1) 0 (.slice (some ⟨G, 0, none⟩) d.bn C) wr) := by
        have e : t.bn = (blkL (tdOf ls) k).length := by rw [HTB.out, HBL.out]
        refine ⟨?_, fun b hb => ?_, HJ.out.2.2⟩
        · rw [← curL_next, ← e]; exact HJ.out.1
        · rw [← homesAt_next, ← e]; exact HJ.out.2.1 b hb
       clear HJ;go_wp2
       go_roundg (n - (k + 1))
       case measure => omega
       case rel => exact ⟨k + 1, by go_num, by omega, by omega, HJ2⟩
  · obtain rfl : k = n := by omega
    have hlen : (tdOf ls).length = k := by rw [tdOf_len, HL.out]
    have HO := Lib.hid HJ.out.1;have HI := Lib.hid (HJ.out.1.ints);have h1 := HJ.out.2.1;have h1' : ∀ b, b < d.bn → (homes (tdOf ls) b).length ≤ 1 := fun b hb => by have := h1 b hb; rw [← hlen, homesAt_end] at this; exact this
    have HX := Lib.hid (idx_neg_iff (curL (tdOf ls) d.bn k 0) (-1));have HEND : Hid ((-1 : Int) ∉ curL (tdOf ls) d.bn k 0 → ownB (tdOf ls) d.bn = true ∧ curL (tdOf ls) d.bn k 0 = ownL (tdOf ls) d.bn) := fun h => by
     have := curL_end (tdOf ls) d.bn h1' (by rw [hlen]; exact h)
     rwa [hlen] at this
    have HNO : Hid ((-1 : Int) ∈ curL (tdOf ls) d.bn k 0 → ownB (tdOf ls) d.bn = false) := fun h => by
     unfold curL at h;rw [List.mem_map] at h;obtain ⟨b, hb, e⟩ := h;refine own_no1 _ _ b (List.mem_range.1 hb) ?_;have e2 := (ownV_neg (homesAt (tdOf ls) k 0 b)).1 (by omega);rw [← hlen, homesAt_end] at e2;rw [e2]; simp
    have HBW := Lib.hid HJ.out.2.2;clear h1 h1' hlen HJ;by_cases hm : (-1 : Int) ∈ curL (tdOf ls) d.bn k 0
    · have HE := Lib.hid (HNO.out hm);have hd9 : decide (0 ≤ idx (curL (tdOf ls) d.bn k 0) (-1)) = true := by
       have := mt HX.out.1;simp only [decide_eq_true_eq];apply Classical.byContradiction;intro hh;exact (HX.out.1 (by omega)) hm
      have HD9 := Lib.hid hd9;clear hm hd9
      go_wp2_with (go_at_call 159; refine (scontains_any _ _ _ (curL (tdOf ls) d.bn k 0) (-1) wr HI.out).mono ?_; rintro e w' ⟨rfl, rfl⟩; rw [HD9.out])
      go_ret
      exact ⟨_, rfl, HBW.out, fun h => by (rw [HE.out] at h; cases h), fun _ => rfl⟩
    · have HE := Lib.hid (HEND.out hm);have hd9 : decide (0 ≤ idx (curL (tdOf ls) d.bn k 0) (-1)) = false := by
       have := HX.out.2 hm;simp only [decide_eq_false_iff_not];omega
      have HD9 := Lib.hid hd9;clear hm hd9
      go_wp2_with (go_at_call 159; refine (scontains_any _ _ _ (curL (tdOf ls) d.bn k 0) (-1) wr HI.out).mono ?_; rintro e w' ⟨rfl, rfl⟩; rw [HD9.out])
      go_ret
      refine ⟨_, rfl, HBW.out, fun _ => ⟨G, C, rfl, ?_⟩, fun h => by (rw [HE.out.1] at h; cases h)⟩;have := HO.out;rw [HE.out.2] at this;exact this
end

section
open Go.RowKit Go.Shelf
attribute [local go_sem] Oper.semAt_some wide_fn wide_depth wide_fnR wide_depthR
theorem ent1_any (f : Nat → Bool) (S : Nat) (x : Nat) (hx : x < 200) (W : World) (hS : W.heap[S]? = some (setO f)) :
  Calls Tryz.prog 169 (#[.int .i64 (x : Int)] ++ #[.pointer (some ⟨S, 0, none⟩)]) W fun e W' => e = .returned (.bool (!f x)) ∧ Below W.heap.size W W' := by
 show Calls Tryz.prog 169 #[.int .i64 (x : Int), .pointer (some ⟨S, 0, none⟩)] W _
 have hc := set_cell hS x hx
 generalize f x = b at *
 clear hS
 go_enter Tryz.func169, Tryz.ntmps169
 go_wp2
 go_ret
 exact ⟨rfl, Below.refl _ _⟩
theorem enter_ent1 (args : Array Value) (w : World) : (callFunc 169 args).run Tryz.prog w = .ok (.enter 169 args) w := enters_of Tryz.func169 (by kernel_rfl) rfl args w
def entB (ts : List TermD) (f : Nat → Bool) (b : Nat) : Bool := decide (b < ts.length) && (pv ts b).any fun x => !f x
theorem any_intsN (f : Nat → Bool) (l : List Nat) : ((intsN l).any fun z => !f z.toNat) = l.any fun q => !f q := by
 rw [intsN, List.any_map]
 rfl
def EJ (w : World) (d : WalkD) (f : Nat → Bool) (xs : List Int) (W : World) : Prop :=
 W.heap[w.heap.size]? = some (walkO d) ∧ W.heap[w.heap.size + 1]? = some (setO f) ∧ W.heap[w.heap.size + 1 + 1 + 1]? = some (.cells #[.pointer (some ⟨w.heap.size + 1, 0, none⟩)] 189 (0, 0)) ∧
  (∃ v, W.heap[w.heap.size + 1 + 1]? = some (.cells #[v] 22 (0, 0)) ∧ OwnI W (w.heap.size + 1 + 1 + 1 + 1) v xs) ∧ Below w.heap.size w W ∧ w.heap.size + 1 + 1 + 1 < W.heap.size
theorem EJ.steady {w : World} {d : WalkD} {f : Nat → Bool} {xs : List Int} {D : Nat} (hD : w.heap.size ≤ D) : Steady D (EJ w d f xs) := by
 unfold EJ
 exact (Steady.block _ _ rfl).and ((Steady.block _ _ rfl).and ((Steady.block _ _ rfl).and ((Steady.ex fun v => (Steady.block _ _ rfl).and (Steady.ownI _ _ _ _)).and ((Steady.below (Nat.le_refl _) hD).and (Steady.size _ _)))))
theorem EJ.ext {w W W' : World} {d : WalkD} {f : Nat → Bool} {xs : List Int} (h : EJ w d f xs W) (hb : Below W.heap.size W W') : EJ w d f xs W' := (EJ.steady (Nat.le_refl _)).ext h hb
theorem EJ.app {w W W' : World} {d : WalkD} {f : Nat → Bool} {xs : List Int} {v : Value} (hv : W.heap[w.heap.size + 1 + 1]? = some (.cells #[v] 22 (0, 0))) (ho : OwnI W (w.heap.size + 1 + 1 + 1 + 1) v xs) (h : EJ w d f xs W) (hg : W.grownBy W' v.ownBlock) (v' : Value) (x : Int) (hx : I64 x) (hn : xs.length ≤ 1000) (ho' : W'.ownsRow (w.heap.size + 1 + 1 + 1 + 1) 3 1 v' (xs.length + 1) (intVals xs ++ [.int .i64 x])) :
  EJ w d f (xs ++ [x]) (W'.setCell ⟨w.heap.size + 1 + 1, 0, none⟩ v') ∧ Keep W (W'.setCell ⟨w.heap.size + 1 + 1, 0, none⟩ v') := by
 obtain ⟨h1, h2, h3, _, h5, h6⟩ := h
 have low : ∀ q, q < w.heap.size + 1 + 1 + 1 + 1 → v.ownBlock ≠ some q := fun q hq e => by have := (ho.1.lt q e).1; omega
 have g := grown_setCell W' (w.heap.size + 1 + 1) 0 v'
 have hv2 := grown_row hg hv (low _ (by omega))
 refine ⟨⟨grown_row g (grown_row hg h1 (low _ (by omega))) (by simp; omega), grown_row g (grown_row hg h2 (low _ (by omega))) (by simp), grown_row g (grown_row hg h3 (low _ (by omega))) (by simp), ⟨v', ?_, ?_⟩, (h5.grown hg h5.size (fun r e => by have := (ho.1.lt r e).1; omega)).setCell (by simp; omega) _, by have := hg.size; simp; omega⟩,
  (Keep.grown hg (own_nobook ho.1)).trans (Keep.setCell _ _ _)⟩
 · have := heap_setCell_same W' (w.heap.size + 1 + 1) 0 _ _ v' hv2;simpa using this
 · have e3 : (xs ++ [x]).length = xs.length + 1 := by simp
   have e4 : intVals (xs ++ [x]) = intVals xs ++ [.int .i64 x] := by simp [intVals]
   refine OwnI.kept (w := W') ⟨by rw [e3, e4]; exact ho', fun z hz => ?_, by rw [e3]; omega⟩ g ?_
   · rcases List.mem_append.1 hz with h | h
     · exact ho.2.1 z h
     · simp only [List.mem_singleton] at h;subst h; exact hx
   · cases e : v'.ownBlock with
     | none => exact .inl rfl
     | some k =>
       have := (ho'.lt k e).1;refine .inr ?_;intro e2;injection e2 with e2;omega
theorem entries_any (d : WalkD) (ts : List TermD) (f : Nat → Bool) (w : World) (hok : WalkOK w d ts) (hg : goodB ts = true) :
  Calls Tryz.prog 106 #[walkV d, .agg (setA f)] w (IntsPost w (intsN (entriesS ts f))) := by
 refine (callsIn_wide (n := 0)).1 ?_
 refine callsIn_of_wp_marks Tryz.func106 rfl trivial ?_
 simp only [Tryz.ntmps106, List.size_toArray, List.length_cons, List.length_nil, Nat.reduceAdd, Nat.reduceSub, Array.replicate_succ, Array.replicate_zero, List.push_toArray, List.append_toArray, List.nil_append, List.cons_append]
 have HOK := Lib.hid hok
 have HPV := Lib.hid (WalkOK.nx_lt (w := w) (d := d) hg).2
 have hdl : ts.length = d.bn := hok.1
 have hdn : d.bn ≤ 200 := hok.2.1
 have HDL := Lib.hid hdl
 clear hok hg hdl
 gi_wp2_with (gi_at_call 88; refine (callsIn_wide.2 (each_any _ _)).mono ?_; rintro e w' ⟨rfl, rfl⟩)
 refine range_list (ps := #[7]) (gf := 139) (lb := #[.pointer (some ⟨w.heap.size + 1 + 1 + 1, 0, none⟩)]) (enc := encN) (l := listS f) rfl enter_each _ (each_iterI f (w.heap.size + 1 + 1 + 1) (w.heap.size + 1)) (fun _ => rfl)
  (fun dn r W => Hid (EJ w d f (intsN (dn.filter (entB ts f))) W)) (fun _ _ => False)
  (fun dn r => EJ.steady (by simp; omega)) (fun c => Steady.pure _ _) (fun dn r W h => ⟨by rw [cell_of_row _ _ _ _ _ _ h.out.2.2.1]; rfl, h.out.2.1⟩) ?start ?round ?done ?stop
 case start =>
  refine ⟨?_, ?_, ?_, ⟨_, ?_, OwnI.nil _ _⟩, ?_, by simp⟩
  · rw [Below.heap_alloc _ _ _ (by simp; omega), Below.heap_alloc _ _ _ (by simp; omega), Below.heap_alloc _ _ _ (by simp)]; exact heap_alloc_new _ _
  · rw [Below.heap_alloc _ _ _ (by simp), Below.heap_alloc _ _ _ (by simp)]; exact heap_at _ _ _ (by simp)
  · exact heap_at _ _ _ (by simp)
  · rw [Below.heap_alloc _ _ _ (by simp)]; exact heap_at _ _ _ (by simp)
  · exact (((ext_alloc _ _).alloc (by simp) _).alloc (by simp; omega) _).alloc (by simp; omega) _
 case round =>
  rintro lp dn x r W hd hJ;unfold encN
  gi_wp2
  refine ⟨Keep.refl _, hJ, ?_⟩;clear hJ lp W;rintro lp W hJ;obtain ⟨j1, j2, j3, ⟨v, j4, jo⟩, jb, js⟩ := hJ.out;have hxl : x < 200 := listS_lt f x (by rw [hd]; simp);have hc3 : W.cell? ⟨w.heap.size, 3, none⟩ = some (.slice d.fa d.bn d.fc) := by rw [cell_of_row _ _ _ _ _ _ j1]; rfl
  by_cases hxb : x < d.bn
  · obtain ⟨b, o, ra, rc, rfa, hcr, hir⟩ := (HOK.out.ext jb).2.2.2.2.2 x (pv ts x) (by simp [fromRows, HDL.out, hxb]);rw [rfa] at hc3;have J2 := Lib.hid j2;have HIR := Lib.hid hir;have HPX : Hid (∀ z ∈ intsN (pv ts x), ∃ q : Nat, z = (q : Int) ∧ q < 200) := fun z hz => by
     simp only [intsN, List.mem_map] at hz;obtain ⟨q, hq, rfl⟩ := hz;exact ⟨q, rfl, HPV.out x q hq⟩
    have hxb' : (x : Int) < (d.bn : Int) := by omega
    clear j1 j2 j3 j4 jo jb js hir;by_cases hent : entB ts f x = true
    · have HANY : Hid (((intsN (pv ts x)).any fun z => !f z.toNat) = true) := by
       rw [Hid, any_intsN];simp only [entB, Bool.and_eq_true] at hent;exact hent.2
      have HFL : Hid (intsN ((dn ++ [x]).filter (entB ts f)) = intsN (dn.filter (entB ts f)) ++ [(x : Int)]) := by
       rw [Hid, List.filter_append, List.filter_cons, if_pos hent];simp [intsN]
      have hlen : (intsN (dn.filter (entB ts f))).length ≤ 1000 := by
       have h1 := listS_len f;rw [hd] at h1;have h2 := List.length_filter_le (entB ts f) dn;simp [intsN] at h1 ⊢;omega
      clear hent
      gi_wp2_with (first
       | (gi_at_call 168
          refine (CallsIn.inRound _ (callsIn_wide.2 (containsFunc_any 169 #[.pointer (some ⟨w.heap.size + 1, 0, none⟩)] enter_ent1 (fun z => !f z.toNat) _ _ _ (intsN (pv ts x)) W (fun z W' hz hb => ?_) HIR.out))).mono ?_
          · obtain ⟨q, rfl, hq⟩ := HPX.out z hz;exact ent1_any f (w.heap.size + 1) q hq W' (block_ext hb J2.out)
          rintro e w2 ⟨rfl, hb2⟩;rw [HANY.out];have HJ2 := Lib.hid (hJ.out.ext hb2);have HK2 := Lib.hid (Keep.ext hb2);clear hb2;obtain ⟨v2, hv2, ho2⟩ := HJ2.out.2.2.2.1;obtain ⟨av, cv, rfl⟩ := ho2.form;have hcv : w2.cell? ⟨w.heap.size + 1 + 1, 0, none⟩ = some (.slice av (intsN (dn.filter (entB ts f))).length cv) := (by rw [cell_of_row _ _ _ _ _ _ hv2]; rfl)
          have HV2 := Lib.hid hv2;have HO2 := Lib.hid ho2;have hsz2 := HJ2.out.2.2.2.2.2
          clear hv2 ho2)
       | (gi_at_builtin
          refine listIn_of (by repeat (first | exact noOut_round | refine noOut_then ?_ | refine noOut_block ?_)) _ _ _ rfl ?_;refine wpList_append1 rfl w2 (.tmp 22) (.tmp 24) 22 3 rfl (w.heap.size + 1 + 1 + 1 + 1) _ 1 8 Tryz.underlying22 infoI rfl (by omega) (.slice av (intsN (dn.filter (entB ts f))).length cv) (intsN (dn.filter (entB ts f))).length _ [.int .i64 (x : Int)] rfl HO2.out.1 w2.heap.size rfl rfl rfl (by simp [Value.oneCell']) (by simp only [maxLen]; omega) (by omega) (by omega) ?_;intro g cap w3 hown3 hg3 hat3;have HAPP := Lib.hid (HJ2.out.app HV2.out HO2.out hg3 _ (x : Int) (by unfold I64; omega) hlen hown3);have hv3 := grown_row hg3 HV2.out (fun e => by have := (HO2.out.1.lt _ e).1; omega);have hc3' : w3.cell? ⟨w.heap.size + 1 + 1, 0, none⟩ = some (.slice av (intsN (dn.filter (entB ts f))).length cv) := (by rw [cell_of_row _ _ _ _ _ _ hv3]; rfl)
          have hf3 : w3.frozen? ⟨w.heap.size + 1 + 1, 0, none⟩ = false := frozen_of_row _ _ _ _ _ hv3;have hl3 : w.heap.size + 1 + 1 < w3.heap.size := lt_of_heap hv3
          clear hown3 hg3 hat3 hv3 hcv))
      go_wp2;refine ⟨HK2.out.trans HAPP.out.2, ?_⟩;have e9 := HFL.out;rw [List.filter_append] at e9;simp only [Hid, List.filter_append, e9];exact HAPP.out.1
    · have hent' : entB ts f x = false := by simpa using hent
      have HANY : Hid (((intsN (pv ts x)).any fun z => !f z.toNat) = false) := by
       rw [Hid, any_intsN];simp only [entB, Bool.and_eq_false_iff] at hent';rcases hent' with h | h
       · rw [HDL.out] at h; simp at h; omega
       · exact h
      have HFL : Hid (intsN ((dn ++ [x]).filter (entB ts f)) = intsN (dn.filter (entB ts f))) := by
       rw [Hid, List.filter_append, List.filter_cons, if_neg hent];simp
      clear hent hent'
      gi_wp2_with (
       (gi_at_call 168
        refine (CallsIn.inRound _ (callsIn_wide.2 (containsFunc_any 169 #[.pointer (some ⟨w.heap.size + 1, 0, none⟩)] enter_ent1 (fun z => !f z.toNat) _ _ _ (intsN (pv ts x)) W (fun z W' hz hb => ?_) HIR.out))).mono ?_
        · obtain ⟨q, rfl, hq⟩ := HPX.out z hz;exact ent1_any f (w.heap.size + 1) q hq W' (block_ext hb J2.out)
        rintro e w2 ⟨rfl, hb2⟩;rw [HANY.out];have HJ2 := Lib.hid (hJ.out.ext hb2);have HK2 := Lib.hid (Keep.ext hb2)
        clear hb2))
      refine ⟨HK2.out, ?_⟩;have e9 := HFL.out;rw [List.filter_append] at e9;simp only [Hid, List.filter_append, e9];exact HJ2.out
  · have hxb' : ¬ (x : Int) < (d.bn : Int) := by omega
    have HFL : Hid (intsN ((dn ++ [x]).filter (entB ts f)) = intsN (dn.filter (entB ts f))) := by
     rw [Hid, List.filter_append, List.filter_cons, if_neg (by simp only [entB, Bool.and_eq_true, decide_eq_true_eq, HDL.out]; exact fun h => hxb h.1)];simp
    clear j1 j2 j3 j4 jo jb js hxb
    gi_wp2
    refine ⟨Keep.refl _, ?_⟩;have e9 := HFL.out;rw [List.filter_append] at e9;simp only [Hid, List.filter_append, e9];exact hJ.out
 case done =>
  rintro D W hD hJ hK;obtain ⟨v, hv, ho⟩ := hJ.out.2.2.2.1;obtain ⟨av, cv, rfl⟩ := ho.form;have HJ := hJ;have HV := Lib.hid hv;have hcv : W.cell? ⟨w.heap.size + 1 + 1, 0, none⟩ = some (.slice av (intsN ((listS f).filter (entB ts f))).length cv) := by rw [cell_of_row _ _ _ _ _ _ hv]; rfl
  have hfv : W.frozen? ⟨w.heap.size + 1 + 1, 0, none⟩ = false := frozen_of_row _ _ _ _ _ hv;have hlv := lt_of_heap hv;have HO := Lib.hid ho;clear hv ho hJ
  gi_wp2
  have hDP : D ≠ w.heap.size + 1 + 1 := by simp at hD; omega
  have g := grown_setCell W (w.heap.size + 1 + 1) 0 (.slice av (intsN ((listS f).filter (entB ts f))).length cv);have hK2 := grown_row g hK (by simp; omega)
  have ho2 : OwnI (W.setCell ⟨w.heap.size + 1 + 1, 0, none⟩ (.slice av (intsN ((listS f).filter (entB ts f))).length cv)) (w.heap.size + 1 + 1 + 1 + 1) (.slice av (intsN ((listS f).filter (entB ts f))).length cv) (intsN ((listS f).filter (entB ts f))) := HO.out.kept g (by
   cases e : (Value.slice av (intsN ((listS f).filter (entB ts f))).length cv).ownBlock with
   | none => exact .inl rfl
   | some k =>
     have := (HO.out.1.lt k e).1;refine .inr ?_;intro e2;injection e2 with e2
     omega)
  have hb2 : Below w.heap.size w (W.setCell ⟨w.heap.size + 1 + 1, 0, none⟩ (.slice av (intsN ((listS f).filter (entB ts f))).length cv)) := HJ.out.2.2.2.2.1.setCell (by simp; omega) _;have hv2 : (W.setCell ⟨w.heap.size + 1 + 1, 0, none⟩ (.slice av (intsN ((listS f).filter (entB ts f))).length cv)).heap[w.heap.size + 1 + 1]? = some (.cells #[.slice av (intsN ((listS f).filter (entB ts f))).length cv] 22 (0, 0)) := by
   have := heap_setCell_same W (w.heap.size + 1 + 1) 0 _ _ (.slice av (intsN ((listS f).filter (entB ts f))).length cv) HV.out;simpa using this
  generalize W.setCell ⟨w.heap.size + 1 + 1, 0, none⟩ (.slice av (intsN ((listS f).filter (entB ts f))).length cv) = W2 at *;have ho3 := (Steady.ownI D (w.heap.size + 1 + 1 + 1 + 1) (.slice av (intsN ((listS f).filter (entB ts f))).length cv) (intsN ((listS f).filter (entB ts f)))).put (.deferred none) (l := D) ho2 (Nat.le_refl _) hK2 rfl;have hb3 := (Steady.below (n₀ := w.heap.size) (B := w.heap.size) (w₀ := w) (Nat.le_refl _) (Nat.le_refl _)).put (.deferred none) (l := D) hb2 (by simp at hD; omega) hK2 rfl;have hv3 : (W2.putObj D (.deferred none)).heap[w.heap.size + 1 + 1]? = some (.cells #[.slice av (intsN ((listS f).filter (entB ts f))).length cv] 22 (0, 0)) := (World.putObj_heap_other (by omega)).trans hv2;have hc3 : (W2.putObj D (.deferred none)).cell? ⟨w.heap.size + 1 + 1, 0, none⟩ = some (.slice av (intsN ((listS f).filter (entB ts f))).length cv) := by rw [cell_of_row _ _ _ _ _ _ hv3]; rfl
  refine ⟨by simp, .inl ⟨_, _, rfl, run_takeDeferred hK2, ?_⟩⟩;exact ⟨.slice av (intsN ((listS f).filter (entB ts f))).length cv, by simp [results, Tryz.results106, go_sem, hc3], _, rfl, ho3.mono (by omega), hb3⟩
 case stop => rintro D c W hD h; exact h.elim
end

section
section
variable {P : Program} {ops : Array Oper} {rest : List Oper} {o : Oper} {a : Act}
theorem wpList_load_rowW {w : World} {Q : Exit → Act → World → Prop} (hw : Region.wanted o (yielded ops a.tmps) = true) (ty : TypeId) (x : Operand) (ho : o.op = .load ty x)
  (g : Nat) (hx : a.eval x = .pointer (some ⟨g, 0, none⟩)) (t : TypeId) (cs : Array Value) (fr : Nat × Nat) (d : TypeDesc) (hg : w.heap[g]? = some (.cells cs t fr))
  (hu : P.underlying ty = some d) (hd : (match d with | .struct _ | .array _ _ => true | _ => false) = true) (hi : (P.info? ty).map (·.size) = some cs.size)
  (h : wpList P ops Q rest (a.put o.dst (.agg cs)) w) : wpList P ops Q (o :: rest) a w :=
 BigFrame.wpList_want hw fun _ hK => wp_load_row ty x ho g hx t cs fr d hg hu hd hi (hK _ _ h)
theorem wpQuiet_load_row {C : World → Prop} {Q : Act → Prop} (hw : Region.wanted o (yielded ops a.tmps) = true) (ty : TypeId) (x : Operand) (ho : o.op = .load ty x)
  (g : Nat) (hx : a.eval x = .pointer (some ⟨g, 0, none⟩)) (t : TypeId) (cs : Array Value) (fr : Nat × Nat) (d : TypeDesc) (hg : ∀ w, C w → w.heap[g]? = some (.cells cs t fr))
  (hu : P.underlying ty = some d) (hd : (match d with | .struct _ | .array _ _ => true | _ => false) = true) (hi : (P.info? ty).map (·.size) = some cs.size)
  (h : wpQuiet P ops C Q rest (a.put o.dst (.agg cs))) : wpQuiet P ops C Q (o :: rest) a :=
 BigFrame.wpQuiet_want hw fun _ hK => ⟨.agg cs, fun w hC => by
  unfold Oper.quietAt execOp;simp only [ho, hx, Instr.loadAt, Instr.sureAddr, Sem.run_bind, Sem.run_pure, Result.andThen_ok, run_loadVar_row w g t ty cs fr d (hg w hC) hu hd hi]
  exact ⟨rfl, rfl⟩, hK _ h⟩
theorem wpOp_atW {l : List Oper} {Q : Exit → Act → World → Prop} {e : Nat} {K : Act → World → Prop} {w : World} (ho : l[e]? = some o) (hw : Region.wanted o (yielded l.toArray a.tmps) = true) (h : o.wp P a w K Q) : wpOp P l.toArray Q e K a w := by
 unfold wpOp
 simp only [List.getElem?_toArray, ho]
 rw [if_pos hw]
 exact .inl h
end
end
end Go.Proofs.YtblhmdhfhaencaaGreat
