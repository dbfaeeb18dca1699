/-
  Flat: small functions of the references 03 and 06: letters of a word, variables, parts.
-/
import Derived.Test.YtdoahpblphlabaaFI
import Derived.Outline
import Derived.Deep.Light
import Derived.Test.YtdoahpblphlabaaFP
import Derived.Test.YtdoahpblphlabaaRows2
namespace Go.Proofs.Ytdoahpblphlabaa
set_option linter.unusedSimpArgs false
set_option linter.unusedVariables false
open Go.RowKit

def inB (s : ByteArray) (c : Int) : Bool := s.data.toList.any fun b => (b.toNat : Int) == c
theorem inB_yes (s : ByteArray) (c : Int) (k : Nat) (h : k < s.size) (he : (s[k].toNat : Int) = c) : inB s c = true := by
  unfold inB
  rw [List.any_eq_true]
  exact ⟨s[k], by simp [ByteArray.getElem_eq_getElem_data], by simpa using he⟩
theorem inB_no (s : ByteArray) (c : Int) (h : ∀ k (hk : k < s.size), (s[k].toNat : Int) ≠ c) : inB s c = false := by
  unfold inB
  rw [List.any_eq_false]
  intro b hb
  obtain ⟨k, hk, rfl⟩ := List.getElem_of_mem hb
  have := h k (by rw [Array.length_toList] at hk; exact hk)
  simp only [ByteArray.getElem_eq_getElem_data, Array.getElem_toList, beq_iff_eq] at this ⊢
  exact this

def varI (n : Int) : Bool := decide (1 ≤ n) && decide (n ≤ 200)
theorem var03_any (n : Int) (w : World) : Calls Try.prog 87 #[.int .i64 n] w fun e w' => e = .returned (.bool (varI n)) ∧ w = w' := by
  go_enter Try.func87, Try.ntmps87
  go_wp2
  all_goals go_ret
  all_goals (simp_all [varI]; try omega)

theorem in03_any (s : ByteArray) (c : Int) (w : World) (hs : s.size ≤ 1000) :
    Calls Try.prog 88 #[.string s, .int .u8 c] w fun e w' => e = .returned (.bool (inB s c)) ∧ w = w' := by
  go_enter Try.func88, Try.ntmps88
  go_wp2
  go_loopw [5] (fun i wr => ∃ (k : Nat), k ≤ s.size ∧ i = .int .i64 k ∧ wr = w ∧ Hid (∀ j (hj : j < s.size), j < k → (s[j].toNat : Int) ≠ c)) (fun i _ => s.size - (intOf i).toNat)
  case atStart => exact ⟨0, by omega, rfl, rfl, fun j _ hj => absurd hj (by omega)⟩
  case round =>
    obtain ⟨k, hk, rfl, rfl, HR⟩ := hrel
    by_cases hlt : k < s.size
    · by_cases he : (s[k].toNat : Int) = c
      · have HE : Hid (inB s c = true) := inB_yes s c k hlt he
        go_wp2
        go_ret
        exact ⟨by rw [HE.out]; rfl, rfl⟩
      · have HE : Hid (∀ j (hj : j < s.size), j < k + 1 → (s[j].toNat : Int) ≠ c) := fun j h1 hj => by
          by_cases hjk : j = k
          · subst hjk; exact he
          · exact HR.out j h1 (by omega)
        go_wp2
        go_roundw
        case rel => exact ⟨k + 1, by omega, by go_num, trivial, HE⟩
        case measure => simp [intOf]; omega
    · have HE : Hid (inB s c = false) := inB_no s c fun j h1 => HR.out j h1 (by omega)
      go_wp2
      go_ret
      exact ⟨by rw [HE.out]; rfl, rfl⟩

theorem in06_any (s : ByteArray) (c : Int) (w : World) (hs : s.size ≤ 1000) :
    Calls Try.prog 78 #[.string s, .int .u8 c] w fun e w' => e = .returned (.bool (inB s c)) ∧ w = w' := by
  go_enter Try.func78, Try.ntmps78
  go_wp2
  go_loopw [5] (fun i wr => ∃ (k : Nat), k ≤ s.size ∧ i = .int .i64 k ∧ wr = w ∧ Hid (∀ j (hj : j < s.size), j < k → (s[j].toNat : Int) ≠ c)) (fun i _ => s.size - (intOf i).toNat)
  case atStart => exact ⟨0, by omega, rfl, rfl, fun j _ hj => absurd hj (by omega)⟩
  case round =>
    obtain ⟨k, hk, rfl, rfl, HR⟩ := hrel
    by_cases hlt : k < s.size
    · by_cases he : (s[k].toNat : Int) = c
      · have HE : Hid (inB s c = true) := inB_yes s c k hlt he
        go_wp2
        go_ret
        exact ⟨by rw [HE.out]; rfl, rfl⟩
      · have HE : Hid (∀ j (hj : j < s.size), j < k + 1 → (s[j].toNat : Int) ≠ c) := fun j h1 hj => by
          by_cases hjk : j = k
          · subst hjk; exact he
          · exact HR.out j h1 (by omega)
        go_wp2
        go_roundw
        case rel => exact ⟨k + 1, by omega, by go_num, trivial, HE⟩
        case measure => simp [intOf]; omega
    · have HE : Hid (inB s c = false) := inB_no s c fun j h1 => HR.out j h1 (by omega)
      go_wp2
      go_ret
      exact ⟨by rw [HE.out]; rfl, rfl⟩

def partB (s : ByteArray) (c n : Int) : Bool := if inB s c then varI n else n == 0
theorem part03_any (s : ByteArray) (c n : Int) (w : World) (hs : s.size ≤ 1000) :
    Calls Try.prog 86 #[.string s, .int .u8 c, .int .i64 n] w fun e w' => e = .returned (.bool (partB s c n)) ∧ w = w' := by
  by_cases hb : inB s c = true
  · have HE : Hid (partB s c n = varI n) := if_pos hb
    go_enter Try.func86, Try.ntmps86
    go_wp2_with (first
      | (go_at_call 88; refine (in03_any _ _ _ hs).mono ?_; rintro e w' ⟨rfl, rfl⟩)
      | (go_at_call 87; refine (var03_any _ _).mono ?_; rintro e w' ⟨rfl, rfl⟩))
    go_ret
    exact ⟨by rw [HE.out]; rfl, rfl⟩
  · have HE : Hid (partB s c n = (n == 0)) := if_neg hb
    rw [Bool.not_eq_true] at hb
    go_enter Try.func86, Try.ntmps86
    go_wp2_with (first
      | (go_at_call 88; refine (in03_any _ _ _ hs).mono ?_; rintro e w' ⟨rfl, rfl⟩))
    go_ret
    exact ⟨by rw [HE.out]; rfl, rfl⟩

/-- which parts an operation has: of a function's, of a target's -/
def has03V (o : Int) : ByteArray := if o = 1 then ⟨#[100, 105]⟩ else if 2 ≤ o ∧ o ≤ 10 then ⟨#[100, 97, 98]⟩ else if o = 11 then ⟨#[100, 97, 105]⟩ else if o = 12 then ⟨#[97, 98, 105]⟩ else if o = 13 then ⟨#[99]⟩ else if o = 14 then ⟨#[100, 97]⟩ else ⟨#[]⟩
theorem has03_any (o : Int) (w : World) : Calls Try.prog 85 #[.int .i64 o] w fun e w' => e = .returned (.string (has03V o)) ∧ w = w' := by
  go_enter Try.func85, Try.ntmps85
  go_wp2
  all_goals go_ret
  all_goals (refine ⟨?_, rfl⟩; simp_all [has03V]; try (intros; omega))
def has06V (o : Int) : ByteArray := if o = 1 then ⟨#[100, 105]⟩ else if 2 ≤ o ∧ o ≤ 10 then ⟨#[100, 97, 98]⟩ else if o = 11 then ⟨#[100, 97, 105]⟩ else if o = 12 then ⟨#[97, 98, 105]⟩ else if o = 13 then ⟨#[99]⟩ else if o = 15 then ⟨#[100, 97]⟩ else if o = 16 then ⟨#[97, 115]⟩ else if o = 17 then ⟨#[100, 115]⟩ else ⟨#[]⟩
theorem has06_any (o : Int) (w : World) : Calls Try.prog 77 #[.int .i64 o] w fun e w' => e = .returned (.string (has06V o)) ∧ w = w' := by
  go_enter Try.func77, Try.ntmps77
  go_wp2
  all_goals go_ret
  all_goals (refine ⟨?_, rfl⟩; simp_all [has06V]; try (intros; omega))
theorem inserted06_any (o : Int) (w : World) : Calls Try.prog 51 #[.int .i64 o] w fun e w' => e = .returned (.bool (insB o)) ∧ w = w' := by
  go_enter Try.func51, Try.ntmps51
  go_wp2
  all_goals go_ret
  all_goals (refine ⟨?_, rfl⟩; by_cases h17 : o = 17 <;> simp_all [insB])

open Go.RowKit

def imm03 (h : ByteArray) (x : Int) : Bool := x == 0 || (inB h 105 && decide (-1099511627776 ≤ x) && decide (x ≤ 1099511627776))
def is03B (i : InsD) (h : ByteArray) : Bool :=
  if h.toList.isEmpty || i.many != 0 || !partB h 97 i.a || !partB h 98 i.b then false
  else if h.toList == [99] then i.args.all varI && (decide (i.args.length ≤ 8) && decide (0 ≤ i.callee) && decide (i.callee ≤ 99) && (i.dst == 0 || varI i.dst) && i.imm == 0)
  else partB h 100 i.dst && imm03 h i.imm && i.callee == 0 && (i.args.length : Int) == 0

theorem has03_size (o : Int) : (has03V o).size ≤ 1000 := by
  unfold has03V
  repeat' split
  all_goals decide

set_option maxRecDepth 100000 in
set_option maxHeartbeats 4000000 in
theorem is03_rest (i : InsD) (aa : Option Addr) (na ca : Nat) (w : World) (h : Ints w aa na i.args) (s : ByteArray) (hs : has03V i.op = s) (hc : (s.toList == [99]) = false) :
    Calls Try.prog 80 #[insV i aa na ca] w fun e w' => e = .returned (.bool (is03B i s)) ∧ Below w.heap.size w w' := by
  have HS := Lib.hid hs
  have HZ : Hid (s.size ≤ 1000) := by rw [Hid, ← hs]; exact has03_size _
  have H := Lib.hid h
  have HLA := Lib.hid h.1
  have hna := h.2.1
  clear h hs
  go_enter Try.func80, Try.ntmps80
  go_wp2_with (first
    | (go_at_call 85
       refine (has03_any _ _).mono ?_
       rw [HS.out]
       rintro e w1 ⟨rfl, rfl⟩)
    | (go_at_call 86
       refine (part03_any _ _ _ _ HZ.out).mono ?_
       rintro e w2 ⟨rfl, rfl⟩)
    | (go_at_call 88
       refine (in03_any _ _ _ HZ.out).mono ?_
       rintro e w2 ⟨rfl, rfl⟩))
  all_goals try (go_ret; refine ⟨ret_bool ?_, ext_alloc w _⟩; go_light; rw [is03B, HLA.out]; simp_all [imm03]; try omega)

set_option maxRecDepth 100000 in
set_option maxHeartbeats 4000000 in
theorem is03_callNo (i : InsD) (aa : Option Addr) (na ca : Nat) (w : World) (h : Ints w aa na i.args) (s : ByteArray) (hs : has03V i.op = s) (hc : s.toList = [99]) (hno : ¬ (i.many = 0 ∧ partB s 97 i.a = true ∧ partB s 98 i.b = true)) :
    Calls Try.prog 80 #[insV i aa na ca] w fun e w' => e = .returned (.bool (is03B i s)) ∧ Below w.heap.size w w' := by
  have HS := Lib.hid hs
  have HZ : Hid (s.size ≤ 1000) := by rw [Hid, ← hs]; exact has03_size _
  have hc0 : s.toList.isEmpty = false := by rw [hc]; rfl
  have hc1 : (s.toList == [99]) = true := by rw [hc]; rfl
  have H := Lib.hid h
  have HLA := Lib.hid h.1
  have hna := h.2.1
  clear h hs
  go_enter Try.func80, Try.ntmps80
  go_wp2_with (first
    | (go_at_call 85
       refine (has03_any _ _).mono ?_
       rw [HS.out]
       rintro e w1 ⟨rfl, rfl⟩)
    | (go_at_call 86
       refine (part03_any _ _ _ _ HZ.out).mono ?_
       rintro e w2 ⟨rfl, rfl⟩))
  all_goals first
    | (go_ret; refine ⟨ret_bool ?_, ext_alloc w _⟩; go_light; rw [is03B, HLA.out]; simp_all; done)
    | (exfalso; simp_all; done)

set_option maxRecDepth 100000 in
set_option maxHeartbeats 4000000 in
theorem is03_call (i : InsD) (aa : Option Addr) (na ca : Nat) (w : World) (h : Ints w aa na i.args) (s : ByteArray) (hs : has03V i.op = s) (hc : s.toList = [99]) (hm : i.many = 0) (ha : partB s 97 i.a = true) (hb : partB s 98 i.b = true) :
    Calls Try.prog 80 #[insV i aa na ca] w fun e w' => e = .returned (.bool (is03B i s)) ∧ Below w.heap.size w w' := by
  have HS := Lib.hid hs
  have HZ : Hid (s.size ≤ 1000) := by rw [Hid, ← hs]; exact has03_size _
  have hc0 : s.toList.isEmpty = false := by rw [hc]; rfl
  have hc1 : (s.toList == [99]) = true := by rw [hc]; rfl
  have H := Lib.hid h
  have HLA := Lib.hid h.1
  have hna := h.2.1
  clear h hs
  go_enter Try.func80, Try.ntmps80
  go_wp2_with (first
    | (go_at_call 85
       refine (has03_any _ _).mono ?_
       rw [HS.out]
       rintro e w1 ⟨rfl, rfl⟩)
    | (go_at_call 86
       refine (part03_any _ _ _ _ HZ.out).mono ?_
       rintro e w2 ⟨rfl, rfl⟩))
  have HC : Hid (∀ k, k < na → ∃ b o, aa = some ⟨b, o, none⟩ ∧ (w.alloc (insO { i with many := 0 } aa na ca)).cell? ⟨b, o + k, none⟩ = some (.int .i64 (i.args.getD k 0))) := fun k hk => by
    obtain ⟨b, o, h1, h2, _⟩ := (H.out.ext (ext_alloc w (insO { i with many := 0 } aa na ca))).2.2 k hk
    exact ⟨b, o, h1, h2⟩
  go_loopw [4] (fun x wr => ∃ (k : Nat), k ≤ na ∧ x = .int .i64 k ∧ wr = w.alloc (insO { i with many := 0 } aa na ca) ∧ Hid (∀ j, j < k → varI (i.args.getD j 0) = true)) (fun x _ => na - (intOf x).toNat)
  case atStart => exact ⟨0, by omega, rfl, rfl, fun j hj => absurd hj (by omega)⟩
  case round =>
    obtain ⟨k, hk, rfl, rfl, HR⟩ := hrel
    by_cases hlt : k < na
    · obtain ⟨b, o, rfl, hcell⟩ := HC.out k hlt
      by_cases hv : varI (i.args.getD k 0) = true
      · have HE : Hid (∀ j, j < k + 1 → varI (i.args.getD j 0) = true) := fun j hj => by
          by_cases hjk : j = k
          · subst hjk; exact hv
          · exact HR.out j (by omega)
        generalize i.args.getD k 0 = y at *
        go_wp2_with (first
          | (go_at_call 87; refine (var03_any _ _).mono ?_; rintro e w' ⟨rfl, rfl⟩))
        go_roundw
        case rel => exact ⟨k + 1, by omega, by go_num, trivial, HE⟩
        case measure => simp [intOf]; omega
      · have HE : Hid (i.args.all varI = false) := by
          rw [Hid, List.all_eq_false]
          exact ⟨i.args.getD k 0, by rw [List.getD_eq_getElem?_getD, List.getElem?_eq_getElem (by rw [HLA.out]; exact hlt)]; simp, hv⟩
        rw [Bool.not_eq_true] at hv
        generalize i.args.getD k 0 = y at *
        go_wp2_with (first
          | (go_at_call 87; refine (var03_any _ _).mono ?_; rintro e w' ⟨rfl, rfl⟩))
        go_ret
        refine ⟨ret_bool ?_, ext_alloc w _⟩
        go_light
        rw [is03B, HE.out]
        simp_all
    · have HE : Hid (i.args.all varI = true) := by
        rw [Hid, List.all_eq_true]
        intro x hx
        obtain ⟨j, hj, rfl⟩ := List.getElem_of_mem hx
        have := HR.out j (by rw [HLA.out] at hj; omega)
        rwa [List.getD_eq_getElem?_getD, List.getElem?_eq_getElem hj, Option.getD_some] at this
      obtain rfl : k = na := by omega
      clear HR
      go_wp2_with (first
          | (go_at_call 87; refine (var03_any _ _).mono ?_; rintro e w' ⟨rfl, rfl⟩))
      all_goals (go_ret; refine ⟨ret_bool ?_, ext_alloc w _⟩; go_light; rw [is03B, HE.out, HLA.out]; simp_all; try omega)

theorem is03_any (i : InsD) (aa : Option Addr) (na ca : Nat) (w : World) (h : Ints w aa na i.args) :
    Calls Try.prog 80 #[insV i aa na ca] w fun e w' => e = .returned (.bool (is03B i (has03V i.op))) ∧ Below w.heap.size w w' := by
  by_cases hc : (has03V i.op).toList = [99]
  · by_cases hno : i.many = 0 ∧ partB (has03V i.op) 97 i.a = true ∧ partB (has03V i.op) 98 i.b = true
    · exact is03_call i aa na ca w h _ rfl hc hno.1 hno.2.1 hno.2.2
    · exact is03_callNo i aa na ca w h _ rfl hc hno
  · exact is03_rest i aa na ca w h _ rfl (by simpa using hc)

open Go.RowKit

def def03V (i : InsD) : Int := if is03B i (has03V i.op) then i.dst else 0
set_option maxHeartbeats 1000000 in
theorem defines03_any (i : InsD) (aa : Option Addr) (na ca : Nat) (w : World) (h : Ints w aa na i.args) :
    Calls Try.prog 68 #[insV i aa na ca] w fun e w' => e = .returned (.int .i64 (def03V i)) ∧ Below w.heap.size w w' := by
  have H := Lib.hid h
  clear h
  go_enter Try.func68, Try.ntmps68
  go_wp2_with (first
    | (go_at_call 80
       refine (is03_any i aa na ca _ (H.out.ext (ext_alloc _ _))).mono ?_
       rintro e w1 ⟨rfl, hb1⟩
       have hx := hb1.block w.heap.size (by simp)
       rw [heap_alloc_new w _] at hx
       have c1 : w1.cell? ⟨w.heap.size, 1, none⟩ = some (.int .i64 i.dst) := by rw [cell_of_row _ _ _ _ _ _ hx]; rfl
       have HB1 := Lib.hid (ext_trans (ext_alloc w _) hb1)
       clear hx hb1))
  all_goals
    go_ret
    exact ⟨ret_int (by go_light; cases hq : is03B i (has03V i.op) <;> simp_all [def03V]), HB1.out⟩

def memI (l : List Int) (n : Int) : Bool := l.any fun x => x == n
theorem memI_yes (l : List Int) (n : Int) (k : Nat) (h : k < l.length) (he : l.getD k 0 = n) : memI l n = true := by
  unfold memI
  rw [List.any_eq_true]
  exact ⟨l.getD k 0, by rw [List.getD_eq_getElem?_getD, List.getElem?_eq_getElem h]; simp, by simpa using he⟩
theorem memI_no (l : List Int) (n : Int) (h : ∀ k, k < l.length → l.getD k 0 ≠ n) : memI l n = false := by
  unfold memI
  rw [List.any_eq_false]
  intro x hx
  obtain ⟨j, hj, rfl⟩ := List.getElem_of_mem hx
  have := h j hj
  rw [List.getD_eq_getElem?_getD, List.getElem?_eq_getElem hj, Option.getD_some] at this
  simpa using this

theorem has05_any (a : Option Addr) (n c : Nat) (xs : List Int) (x : Int) (w : World) (h : Ints w a n xs) :
    Calls Try.prog 65 #[.slice a n c, .int .i64 x] w fun e w' => e = .returned (.bool (memI xs x)) ∧ w = w' := by
  obtain ⟨hl, hn, hc⟩ := h
  have HL := Lib.hid hl
  have HC := Lib.hid hc
  clear hl hc
  go_enter Try.func65, Try.ntmps65
  go_wp2
  go_loopw [5] (fun i wr => ∃ (k : Nat), k ≤ n ∧ i = .int .i64 k ∧ wr = w ∧ Hid (∀ j, j < k → xs.getD j 0 ≠ x)) (fun i _ => n - (intOf i).toNat)
  case atStart => exact ⟨0, by omega, rfl, rfl, fun j hj => absurd hj (by omega)⟩
  case round =>
    obtain ⟨k, hk, rfl, rfl, HR⟩ := hrel
    by_cases hlt : k < n
    · obtain ⟨b, o, rfl, hcell, _⟩ := HC.out k hlt
      by_cases he : xs.getD k 0 = x
      · have HE : Hid (memI xs x = true) := memI_yes xs x k (by rw [HL.out]; exact hlt) he
        rw [he] at hcell
        clear he
        go_wp2
        go_ret
        exact ⟨by rw [HE.out]; rfl, rfl⟩
      · have HE : Hid (∀ j, j < k + 1 → xs.getD j 0 ≠ x) := fun j hj => by
          by_cases hjk : j = k
          · subst hjk; exact he
          · exact HR.out j (by omega)
        generalize xs.getD k 0 = y at *
        go_wp2
        go_roundw
        case rel => exact ⟨k + 1, by omega, by go_num, trivial, HE⟩
        case measure => simp [intOf]; omega
    · have HE : Hid (memI xs x = false) := memI_no xs x fun j h1 => HR.out j (by rw [HL.out] at h1; omega)
      go_wp2
      go_ret
      exact ⟨by rw [HE.out]; rfl, rfl⟩

theorem has30_any (a : Option Addr) (n c : Nat) (xs : List Int) (x : Int) (w : World) (h : Ints w a n xs) :
    Calls Try.prog 69 #[.slice a n c, .int .i64 x] w fun e w' => e = .returned (.bool (memI xs x)) ∧ w = w' := by
  obtain ⟨hl, hn, hc⟩ := h
  have HL := Lib.hid hl
  have HC := Lib.hid hc
  clear hl hc
  go_enter Try.func69, Try.ntmps69
  go_wp2
  go_loopw [5] (fun i wr => ∃ (k : Nat), k ≤ n ∧ i = .int .i64 k ∧ wr = w ∧ Hid (∀ j, j < k → xs.getD j 0 ≠ x)) (fun i _ => n - (intOf i).toNat)
  case atStart => exact ⟨0, by omega, rfl, rfl, fun j hj => absurd hj (by omega)⟩
  case round =>
    obtain ⟨k, hk, rfl, rfl, HR⟩ := hrel
    by_cases hlt : k < n
    · obtain ⟨b, o, rfl, hcell, _⟩ := HC.out k hlt
      by_cases he : xs.getD k 0 = x
      · have HE : Hid (memI xs x = true) := memI_yes xs x k (by rw [HL.out]; exact hlt) he
        rw [he] at hcell
        clear he
        go_wp2
        go_ret
        exact ⟨by rw [HE.out]; rfl, rfl⟩
      · have HE : Hid (∀ j, j < k + 1 → xs.getD j 0 ≠ x) := fun j hj => by
          by_cases hjk : j = k
          · subst hjk; exact he
          · exact HR.out j (by omega)
        generalize xs.getD k 0 = y at *
        go_wp2
        go_roundw
        case rel => exact ⟨k + 1, by omega, by go_num, trivial, HE⟩
        case measure => simp [intOf]; omega
    · have HE : Hid (memI xs x = false) := memI_no xs x fun j h1 => HR.out j (by rw [HL.out] at h1; omega)
      go_wp2
      go_ret
      exact ⟨by rw [HE.out]; rfl, rfl⟩

set_option maxHeartbeats 1000000 in
theorem reg06_any (n : Int) (w : World) : Calls Try.prog 79 #[.int .i64 n] w fun e w' => e = .returned (.agg #[.bool false, .int .i64 n]) ∧ Below w.heap.size w w' := by
  go_enter Try.func79, Try.ntmps79
  go_wp2
  exact bodyPost_ret (v := .agg #[.bool false, .int .i64 n]) (by simp [results, Try.results79, go_sem]) rfl ⟨rfl, ext_alloc w _⟩

def writes06L (m : MachD) (i : InsD) (h : ByteArray) : List (Bool × Int) :=
  if inB h 100 then [(false, i.dst)] else if i.op == 16 then [(true, i.imm)] else if h.toList == [99] then [(false, m.ret)] else []
theorem has06_size (o : Int) : (has06V o).size ≤ 1000 := by
  unfold has06V
  repeat' split
  all_goals decide
set_option maxRecDepth 100000 in
set_option maxHeartbeats 4000000 in
theorem writes06_any (m : MachD) (i : InsD) (a1 a2 aa : Option Addr) (n1 c1 n2 c2 na ca : Nat) (w : World) :
    Calls Try.prog 66 #[machV m a1 n1 c1 a2 n2 c2, insV i aa na ca] w (LocsPost w (writes06L m i (has06V i.op))) := by
  have HZ : Hid ((has06V i.op).size ≤ 1000) := has06_size _
  obtain ⟨s, hs⟩ : ∃ s, has06V i.op = s := ⟨_, rfl⟩
  rw [hs] at HZ ⊢
  have HS := Lib.hid hs
  clear hs
  go_enter Try.func66, Try.ntmps66
  go_wp2_with (first
    | (go_at_call 77
       refine (has06_any _ _).mono ?_
       rw [HS.out]
       rintro e w1 ⟨rfl, rfl⟩)
    | (go_at_call 78
       refine (in06_any _ _ _ HZ.out).mono ?_
       rintro e w1 ⟨rfl, rfl⟩)
    | (go_at_call 79
       refine (reg06_any _ _).mono ?_
       rintro e w1 ⟨rfl, hb1⟩
       have HB1 := Lib.hid (ext_trans (ext_trans (ext_alloc w _) (ext_alloc _ _)) hb1)
       clear hb1))
  all_goals
    go_ret
    first
      | (have hw : writes06L m i s = [(false, m.ret)] := (by simp_all [writes06L])
         rw [LocsPost, hw]
         exact ⟨_, _, rfl, one_loc _ _ rfl _ _ _, ext_trans HB1.out (ext_alloc _ _)⟩)
      | (have hw : writes06L m i s = [(false, i.dst)] := (by simp_all [writes06L])
         rw [LocsPost, hw]
         exact ⟨_, _, rfl, one_loc _ _ rfl _ _ _, ext_trans HB1.out (ext_alloc _ _)⟩)
      | (have hw : writes06L m i s = [(true, i.imm)] := (by simp_all [writes06L])
         rw [LocsPost, hw]
         exact ⟨_, _, rfl, one_loc _ _ (by simp) _ _ _, ext_trans (ext_trans (ext_alloc w _) (ext_alloc _ _)) (ext_alloc _ _)⟩)
      | (have hw : writes06L m i s = [] := (by simp_all [writes06L])
         rw [LocsPost, hw]
         exact ⟨none, 0, rfl, Recs.nil _ _ _, ext_trans (ext_alloc w _) (ext_alloc _ _)⟩)

/-- what an inserted one reads -/
def reads06L (i : InsD) : List (Bool × Int) := if i.op = 17 then [(true, i.imm)] else [(false, i.a)]
set_option maxRecDepth 100000 in
set_option maxHeartbeats 4000000 in
theorem reads06_any (m : MachD) (i : InsD) (a1 a2 aa : Option Addr) (n1 c1 n2 c2 na ca : Nat) (w : World) (hi : insB i.op = true) :
    Calls Try.prog 67 #[machV m a1 n1 c1 a2 n2 c2, insV i aa na ca] w (LocsPost w (reads06L i)) := by
  have hop : (i.op = 17 ∧ has06V i.op = ⟨#[100, 115]⟩) ∨ (i.op = 16 ∧ has06V i.op = ⟨#[97, 115]⟩) ∨ (i.op = 15 ∧ has06V i.op = ⟨#[100, 97]⟩) := by
    simp only [insB, decide_eq_true_eq] at hi
    rcases hi with h | h | h
    · exact .inr (.inr ⟨h, by rw [h]; rfl⟩)
    · exact .inr (.inl ⟨h, by rw [h]; rfl⟩)
    · exact .inl ⟨h, by rw [h]; rfl⟩
  clear hi
  rcases hop with ⟨ho, hs⟩ | ⟨ho, hs⟩ | ⟨ho, hs⟩
  all_goals
    have HS := Lib.hid hs
    clear hs
    go_enter Try.func67, Try.ntmps67
    go_wp2_with (first
      | (go_at_call 77
         refine (has06_any _ _).mono ?_
         simp only [show has06V 17 = ⟨#[100, 115]⟩ from rfl, show has06V 16 = ⟨#[97, 115]⟩ from rfl, show has06V 15 = ⟨#[100, 97]⟩ from rfl]
         rintro e w1 ⟨rfl, rfl⟩)
      | (go_at_call 78
         refine (in06_any _ _ _ (by decide)).mono ?_
         rintro e w1 ⟨rfl, rfl⟩
         simp only [show inB ⟨#[100, 115]⟩ 97 = false from rfl, show inB ⟨#[100, 115]⟩ 98 = false from rfl, show inB ⟨#[97, 115]⟩ 97 = true from rfl, show inB ⟨#[97, 115]⟩ 98 = false from rfl, show inB ⟨#[100, 97]⟩ 97 = true from rfl, show inB ⟨#[100, 97]⟩ 98 = false from rfl])
      | (go_at_call 79
         refine (reg06_any _ _).mono ?_
         rintro e w1 ⟨rfl, hb1⟩
         have HB1 := Lib.hid (ext_trans (ext_trans (ext_alloc w _) (ext_alloc _ _)) hb1)
         have HBB := Lib.hid hb1
         clear hb1)
      | (at_builtin
         refine wpList_append1 rfl w1 (.tmp 13) (.tmp 17) 79 33 rfl w.heap.size _ 2 16 Try.underlying79 info_loc rfl (by omega) (.slice none 0 0) 0 [] [.bool false, .int .i64 i.a] rfl (World.ownsRow_nil _ _ _ _) w1.heap.size rfl rfl rfl (by simp [Value.oneCell']) (by simp only [maxLen]; omega) (by omega) HB1.out.size ?_
         intro g cap w2 hown2 hg2 hat2
         have HO2 : Hid (w2.ownsRow w.heap.size 33 2 (.slice (some ⟨g, 0, none⟩) 1 cap) 1 ([(false, i.a)].flatMap locC)) := hown2
         have HB2 : Hid (Below w.heap.size w w2) := HB1.out.grown hg2 HB1.out.size (fun j e => by cases e)
         obtain ⟨-, x2, -⟩ := box2 w _ _ w2 (HBB.out.grown hg2 HBB.out.size (fun j e => by cases e))
         have c0 : w2.cell? ⟨w.heap.size + 1, 0, none⟩ = some (.int .i64 i.op) := by rw [cell_of_row _ _ _ _ _ _ x2]; first | rfl | (rw [ho]; rfl)
         clear x2
         clear hown2 hg2 hat2)
      | (at_builtin
         refine wpList_append1 rfl ((w.alloc (machO m a1 n1 c1 a2 n2 c2)).alloc (insO { i with op := 17 } aa na ca)) (.tmp 30) (.tmp 34) 79 33 rfl w.heap.size _ 2 16 Try.underlying79 info_loc rfl (by omega) (.slice none 0 0) 0 [] [.bool true, .int .i64 i.imm] rfl (World.ownsRow_nil _ _ _ _) (w.heap.size + 1 + 1) (by simp) rfl rfl (by simp [Value.oneCell']) (by simp only [maxLen]; omega) (by omega) (ext_trans (ext_alloc w _) (ext_alloc _ _)).size ?_
         intro g cap w2 hown2 hg2 hat2
         have HO2 : Hid (w2.ownsRow w.heap.size 33 2 (.slice (some ⟨g, 0, none⟩) 1 cap) 1 ([(true, i.imm)].flatMap locC)) := hown2
         have HB2 : Hid (Below w.heap.size w w2) := (ext_trans (ext_alloc w (machO m a1 n1 c1 a2 n2 c2)) (ext_alloc _ (insO { i with op := 17 } aa na ca))).grown hg2 (ext_trans (ext_alloc w _) (ext_alloc _ _)).size (fun j e => by cases e)
         clear hown2 hg2 hat2))
    refine wp_loop_rounds 1 ?_
    rw [rounds_succ]
    go_wp2
    go_ret
    first
      | (have hw : reads06L i = [(true, i.imm)] := if_pos ho
         obtain ⟨a5, c5, e5, h5, _⟩ := recs_of_own (ls := [(true, i.imm)]) locC_len HO2.out (by simp)
         rw [LocsPost, hw]
         exact ⟨a5, c5, congrArg _ e5, h5, HB2.out⟩)
      | (have hw : reads06L i = [(false, i.a)] := if_neg (by omega)
         obtain ⟨a5, c5, e5, h5, _⟩ := recs_of_own (ls := [(false, i.a)]) locC_len HO2.out (by simp)
         rw [LocsPost, hw]
         exact ⟨a5, c5, congrArg _ e5, h5, HB2.out⟩)
end Go.Proofs.Ytdoahpblphlabaa
