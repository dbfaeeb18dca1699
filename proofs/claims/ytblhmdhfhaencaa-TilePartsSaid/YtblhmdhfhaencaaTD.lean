/-
 Tile: ir.To.
-/
import Derived.Test.YtblhmdhfhaencaaTA
import Derived.Test.YtblhmdhfhaencaaFlatBase
import Derived.Test.YtblhmdhfhaencaaRecs
import Derived.Scope
namespace Go.Proofs.Ytblhmdhfhaencaa
set_option linter.unusedSimpArgs false
set_option linter.unusedVariables false
set_option linter.unusedSectionVars false
set_option maxRecDepth 100000
set_option maxHeartbeats 40000000
section
open Go.RowKit

theorem toD_ok (t : TermD) (h : TermOK t) : ∀ x ∈ toD t, I64 x := by
 intro x hx
 unfold toD at hx
 split at hx
 · split at hx
   · simp at hx; subst hx; exact h.2.2.1
   · split at hx
     · simp at hx; rcases hx with rfl | rfl
       · exact h.2.2.1
       · exact h.2.2.2
     · cases hx
 · cases hx
theorem below_size' {w w' : World} {o : Obj} (h : Below (w.alloc o).heap.size (w.alloc o) w') : w.heap.size ≤ w'.heap.size := by have := h.size; simp at this; omega
theorem to_any (t : TermD) (w : World) (h : TermOK t) : Calls Try.prog 67 #[termV t] w (IntsPost w (toD t)) := by
 have HT := Lib.hid h
 have HO := Lib.hid (toD_ok t h)
 clear h
 obtain ⟨k, a, x, y⟩ := t
 by_cases ht : termB ⟨k, a, x, y⟩ = true
 · have HB := Lib.hid ht
   by_cases k1 : k = 1
   · subst k1
     have HE : Hid (toD ⟨1, a, x, y⟩ = [x]) := by rw [Hid, toD, if_pos ht, if_pos rfl]
     clear ht
     go_enter Try.func67, Try.ntmps67
     go_wp2_with (go_at_call 66; refine (isTerm_any ⟨1, a, x, y⟩ _ HT.out).mono ?_; rintro e w' ⟨rfl, hb'⟩; rw [HB.out]; obtain ⟨g1, g2⟩ := bcell hb'; have HB' := Lib.hid hb'; clear hb')
     go_ret
     rw [HE.out]
     exact ⟨_, rfl, (ownI_lit (xs := [x]) rfl _ (below_size' HB'.out) (by have := HO.out; rwa [HE.out] at this) (by simp)), (ext_trans (ext_alloc _ _) HB'.out).alloc (below_size' HB'.out) _⟩
   · have b1 : (k == 1) = false := by simpa using k1
     by_cases k2 : k = 2
     · subst k2
       have HE : Hid (toD ⟨2, a, x, y⟩ = [x, y]) := by rw [Hid, toD, if_pos ht, if_neg (by simp), if_pos rfl]
       clear ht k1
       go_enter Try.func67, Try.ntmps67
       go_wp2_with (first
        | (go_at_call 47
           refine (cloneInts_any _ _ _ [x, y] _ (ints_lit HK.out [x, y] (by have := HO.out; rwa [HE.out] at this) (by simp) (fun k hk => by match k, hk with | 0, _ => rfl | 1, _ => rfl))).mono ?_
           rintro e w2 ⟨v, rfl, ho, hb2⟩
           have HO2 := Lib.hid ho
           have HB2 := Lib.hid hb2
           clear ho hb2)
        | (go_at_call 66
           refine (isTerm_any ⟨2, a, x, y⟩ _ HT.out).mono ?_
           rintro e w' ⟨rfl, hb'⟩
           rw [HB.out]
           obtain ⟨g1, g2⟩ := bcell hb'
           have HK := Lib.hid (block_ext hb' (heap_alloc_new w (termO ⟨2, a, x, y⟩)))
           have HB' := Lib.hid hb'
           clear hb'))
       go_ret
       rw [HE.out]
       exact ⟨_, rfl, HO2.out.mono (below_size' HB'.out), ext_trans (ext_trans (ext_alloc _ _) HB'.out) HB2.out⟩
     · have b2 : (k == 2) = false := by simpa using k2
       have HE : Hid (toD ⟨k, a, x, y⟩ = []) := by rw [Hid, toD, if_pos ht, if_neg k1, if_neg k2]
       clear ht k1 k2
       go_enter Try.func67, Try.ntmps67
       go_wp2_with (go_at_call 66; refine (isTerm_any ⟨k, a, x, y⟩ _ HT.out).mono ?_; rintro e w' ⟨rfl, hb'⟩; rw [HB.out]; obtain ⟨g1, g2⟩ := bcell hb'; have HB' := Lib.hid hb'; clear hb')
       go_ret
       rw [HE.out]
       exact ⟨_, rfl, OwnI.nil _ _, ext_trans (ext_alloc _ _) HB'.out⟩
 · have HE : Hid (toD ⟨k, a, x, y⟩ = []) := by rw [Hid, toD, if_neg ht]
   have ht' : termB ⟨k, a, x, y⟩ = false := by simpa using ht
   have HB := Lib.hid ht'
   clear ht ht'
   go_enter Try.func67, Try.ntmps67
   go_wp2_with (go_at_call 66; refine (isTerm_any ⟨k, a, x, y⟩ _ HT.out).mono ?_; rintro e w' ⟨rfl, hb'⟩; rw [HB.out]; obtain ⟨g1, g2⟩ := bcell hb'; have HB' := Lib.hid hb'; clear hb')
   go_ret
   rw [HE.out]
   exact ⟨_, rfl, OwnI.nil _ _, ext_trans (ext_alloc _ _) HB'.out⟩
end

section
open Go.RowKit

def okL {α : Type} (s : List α) (x : α) : Prop := s.head? = some x
def nxL {α : Type} (s : List α) (_ : α) : List α := s.tail
def finL {α : Type} (s : List α) : Prop := s = []
theorem okL_cons {α : Type} {s : List α} {x : α} (h : okL s x) : s = x :: nxL s x := by
 cases s with
 | nil => cases h
 | cons y l => injection h with h; subst h; rfl
/-- an iterator that yields a list's elements, as long as I holds -/
def IterI {α : Type} (P : Program) (gf : Nat) (lb : Array Value) (enc : α → Array Value) (l : List α) (I : World → Prop) : Prop :=
 Iter P gf lb enc okL nxL l finL (fun _ W => I W)
theorem IterI.mono {α : Type} {P : Program} {gf : Nat} {lb : Array Value} {enc : α → Array Value} {l : List α} {I I' : World → Prop} (h : IterI P gf lb enc l I) (hi : ∀ W, I' W → I W) : IterI P gf lb enc l I' :=
 fun lp K Kx W hK hKx hInv hY h0 => h lp K Kx W hK hKx (fun s W hs => hi W (hInv s W hs)) hY h0
/-- an iterator that yields a list's elements, whatever else the rounds make of the world beyond what was there -/
def IterL {α : Type} (P : Program) (gf : Nat) (lb : Array Value) (enc : α → Array Value) (l : List α) (w : World) : Prop :=
 Iter P gf lb enc okL nxL l finL (fun _ W => Below w.heap.size w W)
/-- a region inside a round, walked as one outside -/
theorem listIn_of {P : Program} {ops : Array Oper} {Q : Exit → Act → World → Prop} {l : Nat} (hQ : ¬ LetsOut Q) :
  ∀ (rest : List Oper) (a : Act) (w : World), rest.all notDefer = true → wpList P ops Q rest a w → wpListIn (Fence.wide.inRound l) 0 P ops Q rest a w := by
 intro rest
 induction rest with
 | nil => intro a w _ h; exact h
 | cons o rest ih =>
   intro a w hn h
   rw [List.all_cons, Bool.and_eq_true] at hn
   simp only [wpList, wpListIn] at h ⊢
   by_cases hw : Region.wanted o (yielded ops a.tmps) = true
   · simp only [hw, if_true] at h ⊢
     rcases h with h | ⟨_, h⟩
     · refine ⟨fun _ _ => trivial, ?_⟩
       have hs : Oper.semAt (Fence.wide.inRound l).round a.eval o = execOp a.eval o := Oper.semAt_some l _ _ (fun c hc => by have := hn.1; simp [notDefer, hc] at this)
       rw [hs]
       unfold Oper.wp at h
       generalize (execOp a.eval o).run P w = r at h
       cases r with
       | ok nx w' =>
         cases nx <;> simp only [Oper.upon, Oper.uponIn] at h ⊢ <;> first
          | exact ih _ _ hn.2 h
          | exact ⟨fun hh => by simp [Fence.wide, Fence.inRound] at hh, (CallsIn.inRound l (callsIn_wide.2 (h.mono (fun e w'' he => by cases e <;> first | exact ih _ _ hn.2 he | exact he))))⟩
          | exact ⟨fun hh => by simp [Fence.wide, Fence.inRound] at hh, rowsIn_of l (h.mono (fun v w'' hv => ih _ _ hn.2 hv))⟩
          | exact h.elim
       | halt x w' => cases x <;> simp only [Oper.upon, Oper.uponIn] at h ⊢ <;> exact h
     · exact absurd h hQ
   · simp only [hw] at h ⊢
     exact ⟨fun _ _ => trivial, ih _ _ hn.2 h⟩
theorem wide_quiet_lit {P : Program} {id : Nat} {Q : Exit → Act → World → Prop} {a : Act} {w : World} {ol : List Oper} (hm : P.follows .mixedOrders = true) (hB : Region.lexB .any ol.toArray = true)
  (h : wpQuiet P ol.toArray (fun w' => ∃ n, w' = w.drewN n) (fun a' => ∀ w', (∃ n, w' = w.drewN n) → Q .normal a' w') ol a) : (Code.region id ol.toArray true).wpIn Fence.wide 0 P Q a w :=
 wpIn_wide.2 (wp_region_quiet_lit hm hB h)
/-- THE CALLER's LAW where a list's elements are gone through, outermost loop: d done, r to come -/
theorem range_list {P : Program} {α : Type} {g : Operand} {ps : Array Tmp} {assign body : Code} {Q : Exit → Act → World → Prop} {a : Act} {w : World} {gf : Nat} {lb : Array Value}
  (hg : a.eval g = .func (.func gf) #[] lb) (eg : ∀ args w, (callFunc gf args).run P w = .ok (.enter gf args) w)
  {enc : α → Array Value} {l : List α} (I : World → Prop) (hit : IterI P gf lb enc l I) (hps : ∀ x, (enc x).size = ps.size)
  (J : List α → List α → World → Prop) (Jx : Code → World → Prop)
  (hJ : ∀ d r, Steady w.heap.size (J d r)) (hJx : ∀ c, Steady w.heap.size (Jx c)) (hInv : ∀ d r W, J d r W → I W)
  (h0 : J [] l w)
  (hround : ∀ (lp : Nat) (d : List α) (x : α) (r : List α) (W : World), l = d ++ x :: r → J d (x :: r) W →
    assign.wpIn (Fence.wide.inRound lp) 0 P (Exit.then (fun a1 W1 => Keep W W1 ∧ J d (x :: r) W1 ∧ ∀ (lp : Nat) (W2 : World), J d (x :: r) W2 →
     body.wpIn (Fence.wide.inRound lp) 0 P (roundEnd (fun W' => Keep W2 W' ∧ J (d ++ [x]) r W') (fun c W' => Keep W2 W' ∧ Jx c W')) a1 W2) (fun _ _ _ => False)) { tmps := (ps.zip (enc x)).foldl (fun t (p, v) => t.setIfInBounds p v) a.tmps, defers := [] } W)
  (hdone : ∀ (D : Nat) (W : World), w.heap.size ≤ D → J l [] W → W.heap[D]? = some (.deferred (some [])) → Q .normal { a with defers := { target := .collected D, args := #[] } :: a.defers } W)
  (hstop : ∀ (D : Nat) (c : Code) (W : World), w.heap.size ≤ D → Jx c W → W.heap[D]? = some (.deferred (some [])) → c.wpIn Fence.wide 0 P Q { a with defers := { target := .collected D, args := #[] } :: a.defers } W) :
  (Code.rangeFunc g ps assign body).wpIn Fence.wide 0 P Q a w := by
 refine range_outer (enc := enc) hg eg hit hps (fun s W => ∃ d, l = d ++ s ∧ J d s W) Jx
  (fun s x a1 _ => ∀ (d : List α) (lp : Nat) (W2 : World), l = d ++ s → J d s W2 → body.wpIn (Fence.wide.inRound lp) 0 P (roundEnd (fun W' => Keep W2 W' ∧ J (d ++ [x]) (nxL s x) W') (fun c W' => Keep W2 W' ∧ Jx c W')) a1 W2)
  (fun s => Steady.ex fun d => (Steady.pure _ _).and (hJ d s)) hJx (fun _ _ _ => Steady.pure _ _) (fun s W ⟨d, _, h⟩ => hInv d s W h) ⟨[], rfl, h0⟩ ?_ ?_ ?_ hstop
 · rintro lp s x W hok ⟨d, hd, hj⟩
   have hs := okL_cons hok
   generalize nxL s x = r at hs ⊢
   subst hs
   refine wpIn_mono (hround lp d x r W hd hj) ?_
   rintro e a1 W1 he
   cases e with
   | normal =>
     obtain ⟨h1, h2, h3⟩ := he
     refine ⟨h1, ⟨d, hd, h2⟩, fun d' lp' W2 hd' hj' => ?_⟩
     have : d' = d := by
      have := hd'.symm.trans hd
      exact List.append_cancel_right this
     subst this
     exact h3 lp' W2 hj'
   | _ => exact he.elim
 · rintro lp s x a1 W hok ⟨d, hd, hj⟩ hA
   refine wpIn_mono (hA d lp W hd hj) ?_
   rintro e a3 W3 he
   cases e with
   | normal =>
     refine ⟨he.1, d ++ [x], ?_, he.2⟩
     rw [hd, List.append_assoc]
     congr 1
     exact okL_cons hok
   | ret => exact he
   | exit id => exact he
   | goto t => exact he
   | panic ch => exact he.elim
   | outgrown => exact he.elim
 · rintro D s W hD hf ⟨d, hd, hj⟩ hk
   have hf : s = [] := hf
   subst hf
   rw [List.append_nil] at hd
   subst hd
   exact hdone D W hD hj hk
end

section
open Go.RowKit Go.Shelf
attribute [local go_sem] Oper.semAt_some wide_fn wide_depth wide_fnR wide_depthR

def encN (x : Nat) : Array Value := #[.int .i64 (x : Int)]
def restL (f : Nat → Bool) (k : Nat) : List Nat := (List.range' k (200 - k)).filter f
theorem restL_zero (f : Nat → Bool) : restL f 0 = listS f := by rw [restL, listS, List.range_eq_range']
theorem restL_end (f : Nat → Bool) : restL f 200 = [] := rfl
theorem restL_step (f : Nat → Bool) (k : Nat) (h : k < 200) : restL f k = if f k then k :: restL f (k + 1) else restL f (k + 1) := by
 rw [restL, show 200 - k = (200 - (k + 1)) + 1 by omega, List.range'_succ, List.filter_cons]
 rfl
abbrev setO (f : Nat → Bool) : Obj := .cells (setA f) 78 (0, 0)

theorem each_any (S : Nat) (w : World) : Calls Try.prog 59 #[.pointer (some ⟨S, 0, none⟩)] w fun e w' => e = .returned (.func (.func 89) #[] #[.pointer (some ⟨w.heap.size, 0, none⟩)]) ∧ w' = w.alloc (.cells #[.pointer (some ⟨S, 0, none⟩)] 141) := by
 go_enter Try.func59, Try.ntmps59
 go_wp2
 go_ret
 exact ⟨rfl, rfl⟩

theorem each_iterI (f : Nat → Bool) (G S : Nat) : IterI Try.prog 89 #[.pointer (some ⟨G, 0, none⟩)] encN (listS f) (fun W => W.cell? ⟨G, 0, none⟩ = some (.pointer (some ⟨S, 0, none⟩)) ∧ W.heap[S]? = some (setO f)) := by
 intro l K Kx W hK hKx hInv hY h0
 refine callsIn_of_wp Try.func89 rfl trivial ?_ rfl
 simp only [Try.ntmps89, List.size_toArray, List.length_cons, List.length_nil, Nat.reduceAdd, Nat.reduceSub, Array.replicate_succ, Array.replicate_zero, List.push_toArray, List.append_toArray, List.nil_append, List.cons_append]
 have HY := Lib.hid hY
 have HI := Lib.hid hInv
 have HK0 := Lib.hid hK
 have H0 : Hid (K (restL f 0) W) := by rw [Hid, restL_zero]; exact h0
 have hg0 : W.cell? ⟨G, 0, none⟩ = some (.pointer (some ⟨S, 0, none⟩)) := (hInv _ _ h0).1
 clear hY hInv hK hKx h0
 gi_wp2
 gi_loopw [6] (fun i wr => ∃ k : Nat, i = .int .i64 k ∧ k ≤ 200 ∧ Hid (K (restL f k) wr)) (fun i _ => 200 - (intOf i).toNat)
 case atStart => exact ⟨0, rfl, by omega, H0.out⟩
 case round =>
  obtain ⟨k, rfl, hk, HK⟩ := hrel
  clear hg0
  have hSr := (HI.out _ _ HK.out).2
  have hn : ∀ q, (wr.drewN q).cell? ⟨S, 0, none⟩ = some (.bool (f 0)) := fun q => by rw [cell_of_row (wr.drewN q) _ _ _ _ _ hSr, setA_at _ _ (by omega)]
  have hne : wr.cell? ⟨S, 0, none⟩ = some (.bool (f 0)) := hn 0
  by_cases hlt : k < 200
  · have hc : wr.cell? ⟨S, k, none⟩ = some (.bool (f k)) := by rw [cell_of_row _ _ _ _ _ _ hSr, setA_at _ _ hlt]
    have HST := Lib.hid (restL_step f k hlt)
    have hlt' : (k : Int) < 200 := by omega
    clear hSr hn
    by_cases hf : f k = true
    · rw [hf] at hc
      have HR : Hid (restL f k = k :: restL f (k + 1)) := by rw [Hid, HST.out, if_pos hf]
      clear hf HST
      gi_wp2
      refine wide_quiet_lit (by kernel_rfl) (by kernel_rfl) ?_
      repeat (go_big_quiet_step (fail))
      refine wpQuiet_nil ?_
      rintro _ ⟨nq, rfl⟩
      have HKq : Hid (K (restL f k) (wr.drewN nq)) := HK0.out _ _ _ HK.out (ext_drewN (Below.refl _ _) nq)
      obtain ⟨fn, tmps, assign, body, hy, hR⟩ := HY.out (restL f k) k (wr.drewN nq) (by rw [HR.out]; rfl) HKq.out
      unfold encN at hy
      have hT : nxL (restL f k) k = restL f (k + 1) := by rw [HR.out]; rfl
      rw [hT] at hR
      have HR2 := Lib.hid hR
      clear hT hR HKq
      gi_wp2
      refine HR2.out.mono ?_
      rintro e W' (⟨rfl, hJ'⟩ | ⟨rfl, hX'⟩)
      · have HK1 := Lib.hid hJ'
        clear hJ' hy HR2
        gi_wp2
        go_roundw
        case rel => exact ⟨k + 1, by go_num, by omega, HK1.out⟩
        case measure => simp [intOf]; omega
      · have HX := Lib.hid hX'
        clear hX' hy HR2
        gi_wp2
        exact bodyPost_ret (v := .tuple #[]) (by simp [results, Try.results89, go_sem]) rfl ⟨⟨_, rfl⟩, Or.inr HX.out⟩
    · have hf' : f k = false := by simpa using hf
      rw [hf'] at hc
      have HR : Hid (restL f k = restL f (k + 1)) := by rw [Hid, HST.out, if_neg hf]
      clear hf hf' HST
      gi_wp2
      refine wide_quiet_lit (by kernel_rfl) (by kernel_rfl) ?_
      repeat (go_big_quiet_step (fail))
      refine wpQuiet_nil ?_
      rintro _ ⟨nq, rfl⟩
      have HKq : Hid (K (restL f (k + 1)) (wr.drewN nq)) := by rw [← HR.out]; exact HK0.out _ _ _ HK.out (ext_drewN (Below.refl _ _) nq)
      gi_wp2
      go_roundw
      case rel => exact ⟨k + 1, by go_num, by omega, HKq.out⟩
      case measure => simp [intOf]; omega
  · obtain rfl : k = 200 := by omega
    clear hSr hn
    gi_wp2
    go_end0
    exact ⟨⟨_, rfl⟩, Or.inl ⟨_, restL_end f, HK.out⟩⟩
theorem each_iter (f : Nat → Bool) (G S : Nat) (w : World) (hG : w.cell? ⟨G, 0, none⟩ = some (.pointer (some ⟨S, 0, none⟩))) (hS : w.heap[S]? = some (setO f)) :
  IterL Try.prog 89 #[.pointer (some ⟨G, 0, none⟩)] encN (listS f) w :=
 (each_iterI f G S).mono fun W hb => ⟨cell_ext hb hG, block_ext hb hS⟩
end

section
open Go.RowKit Go.Shelf
attribute [local go_sem] Oper.semAt_some wide_fn wide_depth wide_fnR wide_depthR

theorem intsN_ok (l : List Nat) (h : ∀ x ∈ l, x < 1000000) : ∀ x ∈ intsN l, I64 x := by
 intro x hx
 simp only [intsN, List.mem_map] at hx
 obtain ⟨k, hk, rfl⟩ := hx
 have := h k hk
 unfold I64
 omega
theorem own_nobook {w : World} {base : Nat} {e : TypeId} {size : Nat} {v : Value} {n : Nat} {xs : List Value} (h : w.ownsRow base e size v n xs) : ∀ (j : Nat) (o : Obj), v.ownBlock = some j → w.heap[j]? = some o → isBook o = false := by
 intro j o hj ho
 rcases h.2 with ⟨rfl, _⟩ | ⟨g, cap, cur, rfl, _, hh, _⟩
 · cases hj
 · simp only [Value.ownBlock, Option.some.injEq] at hj
   subst hj
   rw [hh] at ho
   cases ho
   rfl
theorem grown_row {w w' : World} {row : Option Nat} (hg : w.grownBy w' row) {k : Nat} {o : Obj} (hk : w.heap[k]? = some o) (hne : row ≠ some k) : w'.heap[k]? = some o :=
 (hg.block k (Array.getElem?_eq_some_iff.1 hk).1 (fun e => hne e.symm)).trans hk
theorem grown_setCell (w : World) (b o : Nat) (u : Value) : w.grownBy (w.setCell ⟨b, o, none⟩ u) (some b) :=
 ⟨rfl, rfl, rfl, by simp, fun k _ hne => Below.heap_setCell _ _ _ _ (fun e => hne (by rw [e]))⟩
/-- what lies where while a list is put together: the variable, and what it holds -/
def AJ (w : World) (B : Nat) (base : Nat) (xs : List Int) (W : World) : Prop :=
 ∃ v, W.heap[B]? = some (.cells #[v] 22 (0, 0)) ∧ OwnI W base v xs ∧ v.ownBlock ≠ some B ∧ Below w.heap.size w W ∧ w.heap.size < W.heap.size
theorem Steady.ownI (D base : Nat) (v : Value) (xs : List Int) : Steady D (fun W => OwnI W base v xs) := (Steady.ownsRow _ _ _ _ _ _ _).and (Steady.pure _ _)
theorem Steady.size (D n : Nat) : Steady D (fun W => n < W.heap.size) := fun _ _ _ h hg _ => Nat.lt_of_lt_of_le h hg.size
theorem AJ.steady {w : World} {B base : Nat} {xs : List Int} {D : Nat} (hD : w.heap.size ≤ D) : Steady D (AJ w B base xs) := by
 unfold AJ
 exact Steady.ex fun v => (Steady.block _ _ rfl).and ((Steady.ownI _ _ _ _).and ((Steady.pure _ _).and ((Steady.below (Nat.le_refl _) hD).and (Steady.size _ _))))
theorem appendSeq_any (gf : Nat) (lb : Array Value) (l : List Nat) (w : World) (eg : ∀ args w, (callFunc gf args).run Try.prog w = .ok (.enter gf args) w) (hit : ∀ W, Below w.heap.size w W → IterL Try.prog gf lb encN l W) (hl : l.length ≤ 1000000) (hx : ∀ x ∈ l, x < 1000000) :
  Calls Try.prog 112 #[.slice none 0 0, .func (.func gf) #[] lb] w (IntsPost w (intsN l)) := by
 refine (callsIn_wide (n := 0)).1 ?_
 refine callsIn_of_wp_marks Try.func112 rfl trivial ?_
 simp only [Try.ntmps112, List.size_toArray, List.length_cons, List.length_nil, Nat.reduceAdd, Nat.reduceSub, Array.replicate_succ, Array.replicate_zero, List.push_toArray, List.append_toArray, List.nil_append, List.cons_append]
 have HIT := Lib.hid hit
 have HX := Lib.hid hx
 clear hit hx
 gi_wp2
 refine range_list (ps := #[7]) (gf := gf) (lb := lb) (enc := encN) (l := l) rfl eg (fun W => Below w.heap.size w W) (HIT.out _ (Below.refl _ _)) (fun _ => rfl)
  (fun d r W => Hid (AJ w w.heap.size w.heap.size (intsN d) W))
  (fun _ _ => False)
  (fun d r => AJ.steady (by simp)) (fun c => Steady.pure _ _) (fun d r W h => by obtain ⟨v, _, _, _, hb, _⟩ := h.out; exact hb) ?start ?round ?done ?stop
 case start => exact ⟨_, heap_alloc_new _ _, OwnI.nil _ _, by simp [Value.ownBlock], (Below.refl _ w).alloc (Nat.le_refl _) _, by simp⟩
 case round =>
  rintro lp d x r W hd hJ
  unfold encN
  gi_wp2
  refine ⟨Keep.refl _, hJ, ?_⟩
  clear hJ lp W
  rintro lp W hJ
  obtain ⟨v, hv, ho, hne, hb, hlt0⟩ := hJ.out
  obtain ⟨av, cv, rfl⟩ := ho.form
  have hc0 : W.cell? ⟨w.heap.size, 0, none⟩ = some (.slice av (intsN d).length cv) := by rw [cell_of_row _ _ _ _ _ _ hv]; rfl
  have hf0 : W.frozen? ⟨w.heap.size, 0, none⟩ = false := frozen_of_row _ _ _ _ _ hv
  have HO := Lib.hid ho
  have HV := Lib.hid hv
  have HB := Lib.hid hb
  have HNE := Lib.hid hne
  have hlen : (intsN d).length ≤ 1000000 := by rw [hd] at hl; simp [intsN] at hl ⊢; omega
  clear hv ho hb hJ hne
  gi_wp2_with (
   (gi_at_builtin
    refine listIn_of (by repeat (first | exact noOut_round | refine noOut_then ?_ | refine noOut_block ?_)) _ _ _ rfl ?_
    refine wpList_append1 rfl W (.tmp 8) (.tmp 10) 22 3 rfl w.heap.size _ 1 8 Try.underlying22 infoI rfl (by omega) (.slice av (intsN d).length cv) (intsN d).length _ [.int .i64 (x : Int)] rfl HO.out.1 W.heap.size rfl rfl rfl (by simp [Value.oneCell']) (by simp only [maxLen]; omega) (by omega) (by omega) ?_
    intro g cap w2 hown2 hg2 hat2
    have HO2 := Lib.hid hown2
    have HG2 := Lib.hid hg2
    have HA2 := Lib.hid hat2
    have hv2 := grown_row hg2 HV.out HNE.out
    have hc2 : w2.cell? ⟨w.heap.size, 0, none⟩ = some (.slice av (intsN d).length cv) := (by rw [cell_of_row _ _ _ _ _ _ hv2]; rfl)
    have hf2 : w2.frozen? ⟨w.heap.size, 0, none⟩ = false := frozen_of_row _ _ _ _ _ hv2
    have hlt2 : w.heap.size < w2.heap.size := (Array.getElem?_eq_some_iff.1 hv2).1
    have HV2 := Lib.hid hv2
    clear hown2 hg2 hat2 hv2 hc0 hf0))
  go_wp2
  have hb2 : Below w.heap.size w w2 := HB.out.grown HG2.out HB.out.size (fun k e => (HO.out.1.lt k e).1)
  have hgne : g ≠ w.heap.size := by
   rcases HA2.out with h | h
   · exact fun e => HNE.out (by rw [← h, e])
   · omega
  have hd2 : intsN (d ++ [x]) = intsN d ++ [(x : Int)] := by simp [intsN]
  refine ⟨(Keep.grown HG2.out (own_nobook HO.out.1)).trans (Keep.setCell _ _ _), ?_⟩
  refine ⟨_, by have := heap_setCell_same w2 w.heap.size 0 _ _ (.slice (some ⟨g, 0, none⟩) ((intsN d).length + 1) cap) HV2.out; simpa using this, ?_, by simpa [Value.ownBlock] using hgne, ?_⟩
  · rw [hd2]
    refine OwnI.kept (row := some w.heap.size) (w := w2) ⟨?_, ?_, by simp; omega⟩ (grown_setCell w2 w.heap.size 0 _) (.inr (by simp [Value.ownBlock]; omega))
    · have := HO2.out
      simpa [intVals] using this
    · intro z hz
      rcases List.mem_append.1 hz with h | h
      · exact HO.out.2.1 z h
      · simp only [List.mem_singleton] at h
        subst h
        have := HX.out x (by rw [hd]; simp)
        unfold I64
        omega
  · exact ⟨hb2.setCell (Nat.le_refl _) _, by simpa using hlt2⟩
 case done =>
  rintro D W hD hJ hK
  obtain ⟨v, hv, ho, hne, hb, hlt0⟩ := hJ.out
  obtain ⟨av, cv, rfl⟩ := ho.form
  have hc0 : W.cell? ⟨w.heap.size, 0, none⟩ = some (.slice av (intsN l).length cv) := by rw [cell_of_row _ _ _ _ _ _ hv]; rfl
  have HO := Lib.hid ho
  have HB := Lib.hid hb
  have HJ := hJ
  clear hv ho hb hJ hne
  gi_wp2
  obtain ⟨v2, hv2, ho2, _, hb2, _⟩ := (AJ.steady (w := w) (B := w.heap.size) (base := w.heap.size) (xs := intsN l) (D := w.heap.size) (Nat.le_refl _)).put (.deferred none) (l := D) HJ.out (by simp at hD; omega) hK rfl
  refine ⟨by simp, .inl ⟨_, _, rfl, run_takeDeferred hK, ?_⟩⟩
  have ho3 : OwnI (W.putObj D (.deferred none)) w.heap.size (.slice av (intsN l).length cv) (intsN l) := (Steady.ownI w.heap.size w.heap.size (.slice av (intsN l).length cv) (intsN l)).put (.deferred none) (l := D) HO.out (by simp at hD; omega) hK rfl
  exact ⟨.slice av (intsN l).length cv, by simp [results, Try.results112, go_sem], _, rfl, ho3, hb2⟩
 case stop => rintro D c W hD h; exact h.elim
theorem collect_any (gf : Nat) (lb : Array Value) (l : List Nat) (w : World) (eg : ∀ args w, (callFunc gf args).run Try.prog w = .ok (.enter gf args) w) (hit : ∀ W, Below w.heap.size w W → IterL Try.prog gf lb encN l W) (hl : l.length ≤ 1000000) (hx : ∀ x ∈ l, x < 1000000) :
  Calls Try.prog 88 #[.func (.func gf) #[] lb] w (IntsPost w (intsN l)) := by
 have HIT := Lib.hid hit
 have HX := Lib.hid hx
 have EG := Lib.hid eg
 clear hit hx eg
 go_enter Try.func88, Try.ntmps88
 go_wp2_with (go_at_call 112; refine (appendSeq_any gf lb l w EG.out HIT.out hl HX.out).mono ?_; rintro e w' ⟨v, rfl, ho, hb⟩; have HO := Lib.hid ho; have HB := Lib.hid hb; clear ho hb)
 go_ret
 exact ⟨_, rfl, HO.out, HB.out⟩
theorem listS_lt (f : Nat → Bool) : ∀ x ∈ listS f, x < 200 := fun x hx => by simp [listS] at hx; exact hx.1
theorem listS_len (f : Nat → Bool) : (listS f).length ≤ 200 := by
 have := List.length_filter_le f (List.range 200)
 simpa [listS] using this
theorem enter_each (args : Array Value) (w : World) : (callFunc 89 args).run Try.prog w = .ok (.enter 89 args) w := enters_of Try.func89 (by kernel_rfl) rfl args w
theorem list_any (f : Nat → Bool) (w : World) : Calls Try.prog 58 #[.agg (setA f)] w (IntsPost w (intsN (listS f))) := by
 go_enter Try.func58, Try.ntmps58
 go_wp2_with (first
  | (go_at_call 59; refine (each_any _ _).mono ?_; rintro e w' ⟨rfl, rfl⟩)
  | (go_at_call 88
     refine (collect_any _ _ (listS f) _ enter_each (fun W hW => each_iter f _ w.heap.size W ?_ ?_) (by have := listS_len f; omega) (fun x hx => by have := listS_lt f x hx; omega)).mono ?_
     · exact cell_ext hW (by rw [cell_of_row _ _ _ _ _ _ (heap_at _ _ _ (by simp))]; rfl)
     · exact block_ext hW ((Below.heap_alloc _ _ _ (by simp)).trans (heap_alloc_new _ _))
     rintro e w' ⟨v, rfl, ho, hb⟩
     have HO := Lib.hid ho
     have HB := Lib.hid hb
     clear ho hb))
 go_ret
 exact ⟨_, rfl, HO.out.mono (by simp; omega), ext_trans ((ext_alloc _ _).alloc (by simp) _) HB.out⟩
end
end Go.Proofs.Ytblhmdhfhaencaa
