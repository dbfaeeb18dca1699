/-
 Parts of a function: slices.SortStableFunc, below forty of them.
-/
import Derived.Test.YtblhmdhfhaencaaQM
import Derived.Test.YtblhmdhfhaencaaQO
import Derived.Test.YtblhmdhfhaencaaQT
import Derived.Test.YtblhmdhfhaencaaTI
import Derived.Test.YtblhmdhfhaencaaTH
import Derived.Test.YtblhmdhfhaencaaMarks
import Derived.Sort.LoopGhostIn
namespace Go.Proofs.Ytblhmdhfhaencaa
set_option linter.unusedSimpArgs false
set_option linter.unusedVariables false
set_option linter.unusedSectionVars false
set_option maxRecDepth 100000
set_option maxHeartbeats 40000000
section
open Go.RowKit Go.Shelf

section
variable (af : Nat) (cb : Array Value) (cf : PartD → PartD → Int) (key : PartD → Nat) (base g n c : Nat) (J : List PartD → World → Prop) (S : SortJ af cb cf key base g n c J) (hn : n < 40)
include S hn
theorem stable_any (L : List PartD) (w : World) (h : J L w) :
  Calls Try.prog 85 #[.slice (some ⟨g, 0, none⟩) n c, .int .i64 (n : Int), .func (.func af) #[] cb] w fun e w' => e = .returned (.tuple #[]) ∧ ∃ L', J L' w' ∧ Sh zPart L L' 0 n ∧ Srt zPart key L' 0 n := by
 have H := Lib.hid h
 have HS := Lib.hid S
 clear h S
 have hn2 : (n : Int) < 40 := by omega
 go_enter Try.func85, Try.ntmps85
 go_wp2
 go_loopw [7, 8] (fun s7 s8 wr => ∃ (a0 b0 : Nat) (L1 : List PartD), s7 = .int .i64 (a0 : Int) ∧ s8 = .int .i64 (b0 : Int) ∧ Hid (b0 = a0 + 20 ∧ (a0 = 0 ∨ a0 = 20) ∧ a0 ≤ n) ∧ Hid (J L1 wr) ∧ Hid (Sh zPart L L1 0 n) ∧ Hid (Srt zPart key L1 0 a0)) (fun s7 _ _ => 40 - (intOf s7).toNat)
 case atStart => exact ⟨0, 20, L, by go_num, by go_num, ⟨rfl, .inl rfl, by omega⟩, H, Sh.refl _ _ _, Srt.one key _ (by omega)⟩
 case round =>
  obtain ⟨a0, b0, L1, rfl, rfl, HAB, HJ, HSH, HSR⟩ := hrel
  by_cases hlt : b0 ≤ n
  · have hlt' : (b0 : Int) ≤ (n : Int) := by omega
    go_wp2_with (
     (go_at_call 110
      have h5 := HAB.out
      refine (insertion_any af cb cf key base g n c J HS.out a0 b0 L1 wr HJ.out (by omega) (by omega) hlt).mono ?_
      rintro e w2 ⟨rfl, L2, q1, q2, q3⟩
      have HJ2 := Lib.hid q1
      have HSH2 : Hid (Sh zPart L L2 0 n) := HSH.out.trans (q2.mono (by omega) (by omega))
      have HAB2 : Hid ((b0 = 0 ∨ b0 = 20) ∧ b0 ≤ n) := ⟨by omega, hlt⟩
      have HSR2 : Hid (Srt zPart key L2 0 b0) := by
       have h0 : a0 = 0 := by omega
       rw [h0] at q3
       exact q3
      clear q1 q2 q3 h5))
    go_roundw
    case rel => exact ⟨b0, b0 + 20, L2, rfl, by go_num, ⟨rfl, HAB2.out⟩, HJ2, HSH2, HSR2⟩
    case measure => have h5 := HAB.out; simp [intOf]; omega
  · have hlt' : ¬ (b0 : Int) ≤ (n : Int) := by omega
    go_wp2_with (
     (go_at_call 110
      have h5 := HAB.out
      refine (insertion_any af cb cf key base g n c J HS.out a0 n L1 wr HJ.out (by omega) (by omega) (Nat.le_refl _)).mono ?_
      rintro e w2 ⟨rfl, L2, q1, q2, q3⟩
      have HJ2 := Lib.hid q1
      have HSH2 : Hid (Sh zPart L L2 0 n) := HSH.out.trans (q2.mono (by omega) (by omega))
      have HSA : Hid (Srt zPart key L2 0 a0) := HSR.out.out key q2 (.inl (Nat.le_refl _))
      have HSB : Hid (Srt zPart key L2 a0 n) := q3
      clear q1 q2 q3 h5))
    clear HJ HSH HSR
    go_loopw [6, 7, 8, 9] (fun s6 _ _ _ wi => ∃ (bs : Nat) (L3 : List PartD), s6 = .int .i64 (bs : Int) ∧ Hid (J L3 wi) ∧ Hid (Sh zPart L L3 0 n) ∧ (bs = 20 ∧ Hid (Srt zPart key L3 0 a0 ∧ Srt zPart key L3 a0 n) ∨ bs = 40 ∧ Hid (Srt zPart key L3 0 n))) (fun s6 _ _ _ _ => 60 - (intOf s6).toNat)
    case atStart => exact ⟨20, L2, by go_num, HJ2, HSH2, .inl ⟨rfl, HSA.out, HSB.out⟩⟩
    case round =>
     obtain ⟨bs, L3, rfl, HJ3, HSH3, hbs⟩ := hrel
     clear HJ2 HSH2 HSA HSB
     by_cases hlt2 : bs < n
     · have hlt2' : (bs : Int) < (n : Int) := by omega
       obtain ⟨hb, HSS⟩ := hbs.resolve_right (by omega)
       have h5 := HAB.out
       have ha20 : a0 = 20 := by omega
       clear h5
       subst hb ha20
       clear HAB
       have hlt3 : (20 : Int) < (n : Int) := by omega
       go_wp2
       go_loopw [7, 8] (fun s7 s8 wj => s7 = .int .i64 0 ∧ s8 = .int .i64 40 ∧ wj = wr) (fun _ _ _ => 0)
       case atStart => exact ⟨by go_num, by go_num, rfl⟩
       case round =>
        obtain ⟨rfl, rfl, rfl⟩ := hrel
        have h40 : ¬ (40 : Int) ≤ (n : Int) := by omega
        go_wp2_with (
         (go_at_call 111
          refine (symMerge_any af cb cf key base g n c J HS.out (by omega) n 0 20 n L3 _ (by omega) HJ3.out (by omega) (by omega) (Nat.le_refl _) HSS.out.1 HSS.out.2).mono ?_
          rintro e w5 ⟨rfl, L4, q1, q2, q3⟩
          have HJ4 := Lib.hid q1
          have HSH4 : Hid (Sh zPart L L4 0 n) := HSH3.out.trans q2
          have HSR4 := Lib.hid q3
          clear q1 q2 q3))
        go_roundw
        case rel => (repeat apply Exists.intro); exact ⟨⟨40, L4, by go_num, HJ4, HSH4, .inr ⟨rfl, HSR4⟩⟩, rfl⟩
        case measure => simp [intOf]
     · have hlt2' : ¬ (bs : Int) < (n : Int) := by omega
       have HF : Hid (Srt zPart key L3 0 n) := by
        have h5 := HAB.out
        rcases hbs with ⟨h1, h2⟩ | ⟨_, h2⟩
        · rcases HAB.out.2.1 with h3 | h3
          · subst h3; exact h2.out.2
          · have : n = 20 := by omega
            subst h3
            rw [this]
            exact h2.out.1
        · exact h2.out
       go_wp2
       go_end0
       exact ⟨rfl, L3, HJ3.out, HSH3.out, HF.out⟩
theorem sortStable_any (L : List PartD) (w : World) (h : J L w) :
  Calls Try.prog 53 #[.slice (some ⟨g, 0, none⟩) n c, .func (.func af) #[] cb] w fun e w' => e = .returned (.tuple #[]) ∧ ∃ L', J L' w' ∧ Sh zPart L L' 0 n ∧ Srt zPart key L' 0 n := by
 have H := Lib.hid h
 have HS := Lib.hid S
 clear h S
 go_enter Try.func53, Try.ntmps53
 go_wp2_with (
  (go_at_call 85
   refine (stable_any af cb cf key base g n c J HS.out hn L w H.out).mono ?_
   rintro e w2 ⟨rfl, L2, q1, q2, q3⟩
   have HJ2 := Lib.hid q1
   have HQ2 := Lib.hid q2
   have HQ3 := Lib.hid q3
   clear q1 q2 q3))
 go_end0
 exact ⟨rfl, L2, HJ2.out, HQ2.out, HQ3.out⟩
end
end

section
open Go.RowKit Go.Shelf

theorem enter_cmp (args : Array Value) (w : World) : (callFunc 54 args).run Try.prog w = .ok (.enter 54 args) w := by kernel_rfl
def sortedK (qs : List PartD) : Prop := ∀ i j, i < j → j < qs.length → keyP qs (qs.getD i zPart) ≤ keyP qs (qs.getD j zPart)
theorem key_perm {ps qs : List PartD} (h : ps.Perm qs) (p : PartD) : keyP ps p = keyP qs p := by rw [keyP, keyP, around_perm h]
theorem insNone_any (fv : Value) (w : World) : Calls Try.prog 110 #[.slice none 0 0, .int .i64 0, .int .i64 0, fv] w fun e w' => e = .returned (.tuple #[]) ∧ w = w' := by
 go_enter Try.func110, Try.ntmps110
 go_wp2
 refine wp_loop_rounds 1 ?_
 rw [rounds_succ]
 go_wp2
 go_end0
 exact ⟨rfl, rfl⟩
theorem stableNone_any (fv : Value) (w : World) : Calls Try.prog 85 #[.slice none 0 0, .int .i64 0, fv] w fun e w' => e = .returned (.tuple #[]) ∧ w = w' := by
 go_enter Try.func85, Try.ntmps85
 go_wp2
 refine wp_loop_rounds 1 ?_
 rw [rounds_succ]
 go_wp2_with (go_at_call 110; refine (insNone_any _ _).mono ?_; rintro e w1 ⟨rfl, rfl⟩)
 refine wp_loop_rounds 1 ?_
 rw [rounds_succ]
 go_wp2
 go_end0
 exact ⟨rfl, rfl⟩
theorem sortNone_any (fv : Value) (w : World) : Calls Try.prog 53 #[.slice none 0 0, fv] w fun e w' => e = .returned (.tuple #[]) ∧ w = w' := by
 go_enter Try.func53, Try.ntmps53
 go_wp2_with (go_at_call 85; refine (stableNone_any _ _).mono ?_; rintro e w1 ⟨rfl, rfl⟩)
 go_end0
 exact ⟨rfl, rfl⟩
theorem sortParts_any (P base bv : Nat) (d : WalkD) (v : Value) (L : List PartD) (w : World) (hV : w.heap[bv]? = some (.cells #[.pointer (some ⟨P, 0, none⟩)] 91 (0, 0))) (hB : w.heap[P]? = some (bldO d v)) (hL : PartsIn w base v L) (hn : L.length < 40) (hsm : ∀ p ∈ L, listS p.s ≠ []) (hfi : ∀ p ∈ L, firstP p < 300) :
  Calls Try.prog 53 #[v, .func (.func 54) #[] #[.pointer (some ⟨bv, 0, none⟩)]] w fun e w' => e = .returned (.tuple #[]) ∧ ∃ qs, PartsIn w' base v qs ∧ L.Perm qs ∧ sortedK qs ∧ Chg (fun k => v.ownBlock = some k) w w' := by
 have hown := hL.1
 rcases hown.2 with ⟨hv, h0⟩ | ⟨g, c, cur, hv, _⟩
 · subst hv
   have hL0 : L = [] := List.eq_nil_of_length_eq_zero h0
   subst hL0
   refine (sortNone_any _ w).mono ?_
   rintro e w' ⟨rfl, rfl⟩
   exact ⟨rfl, [], hL, List.Perm.refl _, fun i j _ hj => absurd hj (by simp), Chg.refl _ _⟩
 · subst hv
   have hgP : P ≠ g := fun e => own_other hown hB (by decide) (by rw [e]; rfl)
   have hgV : bv ≠ g := fun e => own_other hown hV (by decide) (by rw [e]; rfl)
   have S : SortJ 54 #[.pointer (some ⟨bv, 0, none⟩)] (cfP L) (keyP L) base g L.length c (fun M W => PartsIn W base (.slice (some ⟨g, 0, none⟩) L.length c) M ∧ M.Perm L ∧ Chg (fun k => k = g) w W) := {
    enter := enter_cmp
    cmp := fun M W ⟨h1, h2, h3⟩ p q hp hq => by
     have h := cmp_any P base bv (some ⟨g, 0, none⟩) L.length c d M p q W (h3.row hV (fun e => hgV e)) (h3.row hB (fun e => hgP e)) h1 (by omega) (hsm p (h2.mem_iff.1 hp)) (hsm q (h2.mem_iff.1 hq))
     refine h.mono ?_
     rintro e w' ⟨rfl, hb⟩
     refine ⟨?_, hb⟩
     rw [cfP, cfP, around_perm h2, around_perm h2]
    less := fun M W ⟨h1, h2, h3⟩ p q hp hq => cf_less L p q (hfi p (h2.mem_iff.1 hp)) (hfi q (h2.mem_iff.1 hq))
    parts := fun M W h => h.1
    turn := fun M M' W W' h hp hP hc => ⟨hP, hp.trans h.2.1, h.2.2.trans hc⟩ }
   refine (sortStable_any _ _ _ _ base g L.length c _ S hn L w ⟨hL, List.Perm.refl _, Chg.refl _ _⟩).mono ?_
   rintro e w' ⟨rfl, qs, ⟨h1, h2, h3⟩, h4, h5⟩
   refine ⟨rfl, qs, h1, h2.symm, fun i j hij hj => ?_, h3.mono fun k hk => by rw [hk]; rfl⟩
   have hl := h2.length_eq
   rw [key_perm h2, key_perm h2]
   exact h5 i j (Nat.zero_le _) hij (by omega)
end

section
open Go.RowKit Go.Shelf

theorem own_heap {W : World} {base og n c : Nat} {xs : List Int} (h : OwnI W base (.slice (some ⟨og, 0, none⟩) n c) xs) : ∃ cur, W.heap[og]? = some (.cells cur 3 (0, 0)) := by
 rcases h.1.2 with ⟨h, _⟩ | ⟨g4, cap4, cur4, h, _, hg4, _⟩
 · cases h
 · injection h with h
   injection h with h
   injection h with h
   subst h
   exact ⟨cur4, hg4⟩
theorem OwnI.put {W : World} {base og n c : Nat} {xs : List Int} (h : OwnI W base (.slice (some ⟨og, 0, none⟩) n c) xs) (x : Nat) {y : Int} (hy : I64 y) : OwnI (W.setCell ⟨og, x, none⟩ (.int .i64 y)) base (.slice (some ⟨og, 0, none⟩) n c) (xs.set x y) := by
 obtain ⟨h1, h2, h3⟩ := h
 have hn : n = xs.length := by
  rcases h1.2 with ⟨h, _⟩ | ⟨g4, cap4, cur4, h, _⟩
  · cases h
  · injection h
 subst hn
 refine ⟨?_, fun z hz => ?_, by rw [List.length_set]; exact h3⟩
 · have h4 := (h1.stored x (.int .i64 y)).1
   rw [List.length_set, show intVals (xs.set x y) = (intVals xs).set x (.int .i64 y) by simp [intVals, List.map_set]]
   exact h4
 · rcases List.mem_or_eq_of_mem_set hz with h | h
   · exact h2 z h
   · rw [h]; exact hy
/-- parts, the row of whose own each block is, tiles -/
structure BdJ (W0 : World) (base : Nat) (vp : Value) (qs : List PartD) (ob og n : Nat) (own : List Int) (out : Value) (ls : List TileR) (W : World) : Prop where
 parts : PartsIn W base vp qs
 cell : W.heap[ob]? = some (.cells #[.slice (some ⟨og, 0, none⟩) n n] 22 (0, 0))
 own : OwnI W base (.slice (some ⟨og, 0, none⟩) n n) own
 tiles : TilesIn W base out ls
 sepo : ∀ t ∈ ls, (bsV t).ownBlock ≠ some og
 ext : Below W0.heap.size W0 W
 bs : base ≤ W.heap.size
 w0 : W0.heap.size ≤ base
section
variable {W0 W W3 : World} {base : Nat} {vp : Value} {qs : List PartD} {ob og n : Nat} {own : List Int} {out : Value} {ls : List TileR}
theorem BdJ.steady {D : Nat} (hD : W0.heap.size ≤ D) : Steady D (BdJ W0 base vp qs ob og n own out ls) := fun W W' row h hg hr =>
 ⟨(Steady.ownR D base vp qs) W W' row h.parts hg hr, (Steady.block D ob rfl) W W' row h.cell hg hr, (Steady.ownI D base _ own) W W' row h.own hg hr, (TilesIn.steady (D := D)) W W' row h.tiles hg hr, h.sepo, (Steady.below (Nat.le_refl _) hD) W W' row h.ext hg hr, Nat.le_trans h.bs hg.size, h.w0⟩
theorem BdJ.ext' (h : BdJ W0 base vp qs ob og n own out ls W) (hb : Below W.heap.size W W3) : BdJ W0 base vp qs ob og n own out ls W3 :=
 ⟨PartsIn.ext h.parts hb, block_ext hb h.cell, h.own.ext hb, h.tiles.ext hb, h.sepo, h.ext.trans (hb.mono (Nat.le_trans h.w0 h.bs)), Nat.le_trans h.bs hb.size, h.w0⟩
/-- a block's own tile is put down -/
theorem BdJ.put (h : BdJ W0 base vp qs ob og n own out ls W) (x : Nat) {y : Int} (hy : I64 y) : BdJ W0 base vp qs ob og n (own.set x y) out ls (W.setCell ⟨og, x, none⟩ (.int .i64 y)) := by
 obtain ⟨cur, hg⟩ := own_heap h.own
 have g := grown_setCell W og x (.int .i64 y)
 have hlow := (h.own.1.lt og rfl).1
 have n1 : vp.ownBlock ≠ some og := own_other h.parts.1 hg (by decide)
 have n2 : out.ownBlock ≠ some og := own_other h.tiles.own.1 hg (by decide)
 have key : ∀ v : Value, v.ownBlock ≠ some og → v.ownBlock = none ∨ v.ownBlock ≠ some og := fun v hv => .inr hv
 refine ⟨OwnR.kept h.parts g (key _ n1), grown_row g h.cell fun e => ?_, h.own.put x hy, ⟨h.tiles.own.kept g (key _ n2), fun t ht => ⟨(h.tiles.each t ht).1.kept g (key _ (h.sepo t ht)), (h.tiles.each t ht).2⟩, h.tiles.sepv, h.tiles.pw⟩, h.sepo, h.ext.grown g h.ext.size (fun q e => by injection e with e; have := h.w0; omega), Nat.le_trans h.bs (by simp), h.w0⟩
 injection e with e
 subst e
 have := h.cell
 rw [hg] at this
 injection this with this
 injection this with _ this _
 exact absurd this (by decide)
theorem BdJ.out_low (h : BdJ W0 base vp qs ob og n own out ls W) {q : Nat} (hq : out.ownBlock = some q) : base ≤ q := (h.tiles.own.low hq).1
/-- one more tile -/
theorem BdJ.add {v' : Value} (h : BdJ W0 base vp qs ob og n own out ls W) (x : TileR) (hx : x.ba = none) (hx2 : x.bn = 0) (hx3 : x.bc = 0) (hx4 : x.d.blocks = []) (hk : I64 x.d.kind ∧ I64 x.d.parent) (hg : W.grownBy W3 out.ownBlock)
  (ho : W3.ownsRow base 53 3 v' (ls.length + 1) (ls.flatMap tileC ++ tileC x)) (hat : v'.ownBlock = out.ownBlock ∨ ∃ q, v'.ownBlock = some q ∧ W.heap.size ≤ q) (hn : ls.length ≤ 1000) : BdJ W0 base vp qs ob og n own v' (ls ++ [x]) W3 := by
 obtain ⟨cur, hgo⟩ := own_heap h.own
 have n1 : out.ownBlock ≠ some ob := own_other h.tiles.own.1 h.cell (by decide)
 have n2 : out.ownBlock ≠ some og := own_other h.tiles.own.1 hgo (by decide)
 have n3 : ∀ q, out.ownBlock = some q → vp.ownBlock ≠ some q := fun q hq e => by
  rcases h.tiles.own.1.2 with ⟨h1, _⟩ | ⟨g4, cap4, cur4, h1, _, hg4, _⟩
  · rw [h1] at hq; cases hq
  · rw [h1] at hq
    simp only [Value.ownBlock, Option.some.injEq] at hq
    subst hq
    exact own_other h.parts.1 hg4 (by decide) e
 have hlow : ∀ q, out.ownBlock = some q → base ≤ q := fun q hq => h.out_low hq
 have key : ∀ v : Value, (∀ q, out.ownBlock = some q → v.ownBlock ≠ some q) → v.ownBlock = none ∨ v.ownBlock ≠ out.ownBlock := fun v hv => by
  cases e : v.ownBlock with
  | none => exact .inl rfl
  | some q => exact .inr fun e2 => hv q e2.symm e
 refine ⟨OwnR.kept h.parts hg (key _ n3), grown_row hg h.cell n1, h.own.kept hg (key _ fun q hq e => n2 (hq.trans e.symm ▸ rfl)), h.tiles.add x hx hx2 hx3 hx4 hk hg ho hat hn, fun t ht => ?_, h.ext.grown hg h.ext.size (fun q e => by have := hlow q e; have := h.w0; omega), Nat.le_trans h.bs hg.size, h.w0⟩
 rcases List.mem_append.1 ht with ht | ht
 · exact h.sepo t ht
 · have : t = x := by simpa using ht
   subst this
   rw [bsV, hx]
   intro e
   cases e
/-- one tile's blocks are turned -/
theorem BdJ.turn {g m c : Nat} (h : BdJ W0 base vp qs ob og n own (.slice (some ⟨g, 0, none⟩) m c) ls W) {k : Nat} {t t' : TileR} (hk : ls[k]? = some t) (hg : W.grownBy W3 (bsV t).ownBlock) (ho : OwnI W3 base (bsV t') t'.d.blocks) (he : t'.d.kind = t.d.kind ∧ t'.d.parent = t.d.parent)
  (hat : (bsV t').ownBlock = (bsV t).ownBlock ∨ ∃ q, (bsV t').ownBlock = some q ∧ W.heap.size ≤ q) : BdJ W0 base vp qs ob og n own (.slice (some ⟨g, 0, none⟩) m c) (ls.set k t') (W3.setCell ⟨g, k * 3 + 2, none⟩ (bsV t')) := by
 obtain ⟨cur, hgo⟩ := own_heap h.own
 have htm := List.mem_of_getElem? hk
 have hbt := (h.tiles.each t htm).1
 have hglow := h.out_low (q := g) rfl
 have hblow : ∀ q, (bsV t).ownBlock = some q → base ≤ q ∧ q < W.heap.size := fun q hq => hbt.1.lt q hq
 have hob := lt_of_heap h.cell
 have hogl := lt_of_heap hgo
 have htile : ∃ cur, W.heap[g]? = some (.cells cur 53 (0, 0)) := by
  rcases h.tiles.own.1.2 with ⟨h1, _⟩ | ⟨g4, cap4, cur4, h1, _, hg4, _⟩
  · cases h1
  · injection h1 with h1; injection h1 with h1; injection h1 with h1
    subst h1
    exact ⟨cur4, hg4⟩
 obtain ⟨tcur, htg⟩ := htile
 have hne : ∀ {a : Nat} {cs : Array Value} {ty : TypeId} {fr : Nat × Nat}, W.heap[a]? = some (.cells cs ty fr) → ty ≠ 3 → (bsV t).ownBlock ≠ some a := fun ha hty => own_other hbt.1 ha hty
 have hgt : W3.heap[g]? = some (.cells tcur 53 (0, 0)) := grown_row hg htg (hne htg (by decide))
 have g2 := grown_setCell W3 g (k * 3 + 2) (bsV t')
 have hcell3 := grown_row hg h.cell (hne h.cell (by decide))
 have gne : ∀ {a : Nat} {cs : Array Value} {ty : TypeId} {fr : Nat × Nat}, W3.heap[a]? = some (.cells cs ty fr) → ty ≠ 53 → (some g : Option Nat) ≠ some a := fun ha hty e => by
  injection e with e
  subst e
  rw [hgt] at ha
  injection ha with ha
  injection ha with _ ha _
  exact hty ha.symm
 have hparts3 : PartsIn W3 base vp qs := OwnR.kept h.parts hg (by
  cases e : vp.ownBlock with
  | none => exact .inl rfl
  | some q =>
    refine .inr fun e2 => ?_
    rcases h.parts.1.2 with ⟨h1, _⟩ | ⟨g4, cap4, cur4, h1, _, hg4, _⟩
    · rw [h1] at e; cases e
    · rw [h1] at e
      simp only [Value.ownBlock, Option.some.injEq] at e
      subst e
      exact hne hg4 (by decide) e2.symm)
 have hparts4 : PartsIn (W3.setCell ⟨g, k * 3 + 2, none⟩ (bsV t')) base vp qs := OwnR.kept hparts3 g2 (.inr fun e => by
  rcases hparts3.1.2 with ⟨h1, _⟩ | ⟨g4, cap4, cur4, h1, _, hg4, _⟩
  · rw [h1] at e; cases e
  · rw [h1] at e
    simp only [Value.ownBlock, Option.some.injEq] at e
    exact gne hg4 (by decide) (by rw [e]))
 have hown3 : OwnI W3 base (.slice (some ⟨og, 0, none⟩) n n) own := h.own.kept hg (.inr fun e => h.sepo t htm (by rw [← e]; rfl))
 have hogt : W3.heap[og]? = some (.cells cur 3 (0, 0)) := grown_row hg hgo (fun e => h.sepo t htm e)
 refine ⟨hparts4, grown_row g2 hcell3 (gne hcell3 (by decide)), hown3.kept g2 (.inr fun e => gne hogt (by decide) (by rw [← e]; rfl)), h.tiles.turn hk hg ho he hat, fun s hs => ?_, (h.ext.grown hg h.ext.size (fun q e => by have := (hblow q e).1; have := h.w0; omega)).setCell (by show W0.heap.size ≤ g; have := h.w0; omega) _, Nat.le_trans h.bs (Nat.le_trans hg.size (by simp)), h.w0⟩
 rcases List.mem_or_eq_of_mem_set hs with hs | hs
 · exact h.sepo s hs
 · rw [hs]
   rcases hat with e | ⟨q, e, hq⟩
   · rw [e]; exact h.sepo t htm
   · rw [e]
     intro e2
     injection e2 with e2
     omega
end
theorem td_app (ls : List TileR) (x : TileR) : tdOf (ls ++ [x]) = tdOf ls ++ [x.d] := by simp [tdOf]
theorem td_set (ls : List TileR) (k : Nat) (x : TileR) : tdOf (ls.set k x) = (tdOf ls).set k x.d := by simp [tdOf, List.map_set]
end

section
open Go.RowKit

/-- a frame with some slots filled, and other deferred calls -/
def fillAct (a : Act) (slots : List Nat) (u : Nat → Value) (ds : List Deferred) : Act := { tmps := slots.foldl (fun t s => t.setIfInBounds s (u s)) a.tmps, defers := ds }
theorem fill_self (a : Act) : ∀ (slots : List Nat), fillAct a slots (fun s => a.tmps.getD s undef) a.defers = a := by
 intro slots
 have key : slots.foldl (fun t s => t.setIfInBounds s (a.tmps.getD s undef)) a.tmps = a.tmps := by
  induction slots with
  | nil => rfl
  | cons s l ih => rw [List.foldl_cons, set_self]; exact ih
 rw [fillAct, key]
theorem wpIn_loop_fill {F : Fence} {rm : Nat} {P : Program} {Q : Exit → Act → World → Prop} {a : Act} {w : World} {c : Code} (slots : List Nat) (R : Nat → (Nat → Value) → List Deferred → World → Prop) (n0 : Nat)
  (h0 : R n0 (fun s => a.tmps.getD s undef) a.defers w)
  (round : ∀ m u ds w', R m u ds w' → c.wpIn F rm P (Exit.then (fun a' w'' => ∃ m', m' < m ∧ ∃ u' ds', a' = fillAct a slots u' ds' ∧ R m' u' ds' w'') Q) (fillAct a slots u ds) w') : (Code.loop c).wpIn F rm P Q a w := by
 refine wpIn_loop_ghost (fun m a' w' => ∃ u ds, a' = fillAct a slots u ds ∧ R m u ds w') n0 ⟨_, _, (fill_self a slots).symm, h0⟩ ?_
 rintro m a' w' ⟨u, ds, rfl, h⟩
 exact round m u ds w' h
end
end Go.Proofs.Ytblhmdhfhaencaa
