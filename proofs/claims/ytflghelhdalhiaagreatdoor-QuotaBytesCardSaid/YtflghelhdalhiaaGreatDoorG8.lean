/-
  Layer 1 in plain Lean: what is laid is taken off as it was, and is all; as something else it is refused; a begin of it is not taken off. No program; no condition.
  What an entry and a message are as bytes, and what bytes are as an entry: plain Lean, nothing of the program stands here.
  No condition.
  Parameters that came in, opened: a slice of bytes (as an argument or as a field), a Thing.
  No condition of its own.
-/
import Derived.Test.YtflghelhdalhiaaGreatDoorG3
import Derived.Lib.ItoaMem
import Derived.Lib.ItoaLen
import Derived.Test.YtflghelhdalhiaaGreatDoorEnv
import Derived.Lib.SmallJoins
import Derived.SizedLaws
namespace Go.Proofs.YtflghelhdalhiaaGreatDoor.PK
open Go

theorem dig_toNat (d : Nat) (h : d < 10) : (UInt8.ofNat (48 + d)).toNat = 48 + d := by
  rw [UInt8.toNat_ofNat']; omega
theorem dec_all (u : Nat) : ∀ c ∈ Lib.decDigits u, isD c = true := by
  induction u using Nat.strongRecOn with
  | _ u ih =>
    by_cases h : u < 10
    · rw [Lib.decDigits_one h]
      intro c hc
      obtain rfl := List.mem_singleton.1 hc
      rw [isD_iff, dig_toNat u h]; omega
    · rw [Lib.decDigits, dif_neg h]
      intro c hc
      rcases List.mem_append.1 hc with hc | hc
      · exact ih (u / 10) (by omega) c hc
      · obtain rfl := List.mem_singleton.1 hc
        rw [isD_iff, dig_toNat _ (Nat.mod_lt _ (by decide))]; omega
theorem dec_val (u : Nat) : dval 0 (Lib.decDigits u) = u := by
  induction u using Nat.strongRecOn with
  | _ u ih =>
    by_cases h : u < 10
    · rw [Lib.decDigits_one h]
      show 0 * 10 + ((UInt8.ofNat (48 + u)).toNat - 48) = u
      rw [dig_toNat u h]; omega
    · rw [Lib.decDigits, dif_neg h, dval_append, ih (u / 10) (by omega)]
      show u / 10 * 10 + ((UInt8.ofNat (48 + u % 10)).toNat - 48) = u
      rw [dig_toNat _ (Nat.mod_lt _ (by decide))]; omega
theorem dec_ne (u : Nat) : Lib.decDigits u ≠ [] := by
  rw [Lib.decDigits]
  split <;> simp
theorem dec_head (u : Nat) (hu : 0 < u) : (Lib.decDigits u).head? ≠ some 48 := by
  induction u using Nat.strongRecOn with
  | _ u ih =>
    by_cases h : u < 10
    · rw [Lib.decDigits_one h]
      intro e
      simp only [List.head?_cons, Option.some.injEq] at e
      have := congrArg UInt8.toNat e
      rw [dig_toNat u h] at this
      have e48 : (48 : UInt8).toNat = 48 := rfl
      omega
    · rw [Lib.decDigits, dif_neg h]
      have := ih (u / 10) (by omega) (by omega)
      cases hd : Lib.decDigits (u / 10) with
      | nil => exact absurd hd (dec_ne _)
      | cons c r => rw [hd] at this; simpa using this
theorem dec_le (u : Nat) (hu : u < 18446744073709551616) : (Lib.decDigits u).length ≤ 20 := by
  rw [Lib.decDigits_length]
  exact Lib.nDigits_le20 u hu
theorem dec_form (u : Nat) : ¬ (1 < (Lib.decDigits u).length ∧ (Lib.decDigits u).head? = some 48) := by
  rintro ⟨h1, h2⟩
  rcases Nat.eq_zero_or_pos u with rfl | h
  · rw [Lib.decDigits_one (by decide)] at h1; simp at h1
  · exact dec_head u h h2

theorem scan_cons (s : UInt8) (m : Nat) (c : UInt8) (r : List UInt8) : scan s m (c :: r) = if c = s then (0, m) else if isD c = false ∨ 20 ≤ m then (3, 0) else scan s (m + 1) r := rfl
theorem scan_digits (s : UInt8) (hs : isD s = false) : ∀ (ds r : List UInt8) (m : Nat), (∀ c ∈ ds, isD c = true) → m + ds.length ≤ 20 → scan s m (ds ++ r) = scan s (m + ds.length) r
  | [], r, m, _, _ => rfl
  | c :: ds, r, m, h, hl => by
    have hc := h c (by simp)
    have hne : c ≠ s := by rintro rfl; rw [hc] at hs; cases hs
    have hl' : m + 1 + ds.length ≤ 20 := by simp at hl; omega
    have e := scan_digits s hs ds r (m + 1) (fun x hx => h x (by simp [hx])) hl'
    rw [List.cons_append, scan_cons, if_neg hne, if_neg (by rintro (h | h); rw [hc] at h; cases h; omega), e, List.length_cons, show m + 1 + ds.length = m + (ds.length + 1) from by omega]
/-- Digits, their sign behind. -/
theorem digs_full (s : UInt8) (hs : isD s = false) (u : Nat) (hu : u < 18446744073709551616) (r : List UInt8) : digs s (Lib.decDigits u ++ s :: r) = (u, (Lib.decDigits u).length, 0) := by
  have h := scan_digits s hs (Lib.decDigits u) (s :: r) 0 (dec_all u) (by have := dec_le u hu; omega)
  rw [Nat.zero_add] at h
  have h2 : scan s (Lib.decDigits u).length (s :: r) = (0, (Lib.decDigits u).length) := by
    show (if s = s then _ else _) = _
    rw [if_pos rfl]
  rw [h2] at h
  have hv : dval 0 (Lib.decDigits u) = u := dec_val u
  have hhd : (Lib.decDigits u ++ s :: r).head? = (Lib.decDigits u).head? := by
    cases hd : Lib.decDigits u with
    | nil => exact absurd hd (dec_ne _)
    | cons c t => rfl
  have hne : (Lib.decDigits u).length ≠ 0 := fun e => dec_ne u (List.eq_nil_of_length_eq_zero e)
  unfold digs
  rw [h]
  simp only [if_true, List.take_left, hhd, hv]
  rw [if_neg]
  rintro (h | h | h)
  · exact hne h
  · exact dec_form u h
  · omega
/-- Digits, cut. -/
theorem digs_cut (s : UInt8) (hs : isD s = false) (u : Nat) (hu : u < 18446744073709551616) (j : Nat) : digs s ((Lib.decDigits u).take j) = (0, 0, 12) := by
  have hl : ((Lib.decDigits u).take j).length ≤ 20 := by have := dec_le u hu; simp; omega
  have h := scan_digits s hs ((Lib.decDigits u).take j) [] 0 (fun c hc => dec_all u c (List.mem_of_mem_take hc)) (by omega)
  rw [List.append_nil] at h
  have h2 : ∀ m, scan s m [] = (12, 0) := fun _ => rfl
  unfold digs
  rw [h, h2]
  simp

/-- A number of a letter, laid. -/
theorem numP_full (lc s : UInt8) (hs : isD s = false) (u : Nat) (hu : u < 18446744073709551616) (r : List UInt8) : numP lc s 1 (lc :: (Lib.decDigits u ++ s :: r)) 0 = (u, 1 + (Lib.decDigits u).length + 1, true, 0) := by
  unfold numP
  rw [if_neg (by simp), if_neg (by simp [begP]), List.drop_one, List.tail_cons, digs_full s hs u hu r]
  simp
theorem numP_other (lc s : UInt8) (f : Nat) (c : UInt8) (r : List UInt8) (h : c ≠ lc) : numP lc s f (c :: r) 0 = (0, 0, false, 3) := by
  unfold numP
  rw [if_neg (by simp), if_pos (by simp [begP, h])]
  simp [begP, h]
theorem numP_nil (lc s : UInt8) (f : Nat) : numP lc s f [] 0 = (0, 0, false, 12) := by
  unfold numP
  rw [if_neg (by simp), if_pos (by simp [begP])]
  simp [begP]
theorem numP_err (lc s : UInt8) (f e : Nat) (l : List UInt8) : numP lc s f l (e + 1) = (0, 0, false, e + 1) := by
  unfold numP
  rw [if_pos (by simp)]
theorem numP_cut (lc s : UInt8) (hs : isD s = false) (u : Nat) (hu : u < 18446744073709551616) (j : Nat) : numP lc s 1 (lc :: (Lib.decDigits u).take j) 0 = (0, 0, false, 12) := by
  unfold numP
  rw [if_neg (by simp), if_neg (by simp [begP]), List.drop_one, List.tail_cons, digs_cut s hs u hu j]
  simp
theorem isD59 : isD 59 = false := by decide
theorem isD58 : isD 58 = false := by decide

/-! ### Uint -/
theorem uint_full (u most : Nat) (hu : u < 18446744073709551616) (hm : u ≤ most) (r : List UInt8) : uintP most (110 :: Lib.decDigits u ++ [59] ++ r) 0 = (u, r, 0) := by
  have e : 110 :: Lib.decDigits u ++ [59] ++ r = 110 :: (Lib.decDigits u ++ 59 :: r) := by simp
  have h := numP_full 110 59 isD59 u hu r
  rw [e]
  unfold uintP
  rw [h]
  simp only [Bool.true_eq_false, if_false]
  rw [if_neg (by omega)]
  congr 1
  rw [show 1 + (Lib.decDigits u).length + 1 = (Lib.decDigits u).length + 1 + 1 from by omega, List.drop_succ_cons, List.drop_append]
  simp
theorem uint_cut (u most : Nat) (hu : u < 18446744073709551616) (j : Nat) (hj : j < (110 :: Lib.decDigits u ++ [59]).length) : uintP most ((110 :: Lib.decDigits u ++ [59]).take j) 0 = (0, (110 :: Lib.decDigits u ++ [59]).take j, 12) := by
  cases j with
  | zero => unfold uintP; rw [List.take_zero, numP_nil]; simp
  | succ j =>
    have e : (110 :: Lib.decDigits u ++ [59]).take (j + 1) = 110 :: (Lib.decDigits u).take j := by
      simp at hj
      rw [List.cons_append, List.take_succ_cons, List.take_append_of_le_length (by omega)]
    rw [e]
    unfold uintP
    rw [numP_cut 110 59 isD59 u hu j]; simp
theorem uint_other (most : Nat) (c : UInt8) (r : List UInt8) (h : c ≠ 110) : uintP most (c :: r) 0 = (0, c :: r, 3) := by
  unfold uintP; rw [numP_other 110 59 1 c r h]; simp
theorem uint_err (most e : Nat) (l : List UInt8) : uintP most l (e + 1) = (0, l, e + 1) := by
  unfold uintP; rw [numP_err]; simp

/-! ### Int -/
theorem digit_not_minus (u : Nat) (r : List UInt8) : (Lib.decDigits u ++ r)[0]? ≠ some 45 := by
  cases hd : Lib.decDigits u with
  | nil => exact absurd hd (dec_ne _)
  | cons c t =>
    have := dec_all u c (by rw [hd]; simp)
    intro e
    simp at e
    subst e
    exact absurd this (by decide)
theorem from_pos (u : Nat) (r : List UInt8) : fromP (105 :: (Lib.decDigits u ++ r)) = 1 := by
  unfold fromP
  rw [if_neg]
  simpa using digit_not_minus u r
theorem from_neg (r : List UInt8) : fromP (105 :: 45 :: r) = 2 := by simp [fromP]
theorem numP2_full (u : Nat) (hu : u < 18446744073709551616) (r : List UInt8) : numP 105 59 2 (105 :: 45 :: (Lib.decDigits u ++ 59 :: r)) 0 = (u, 2 + (Lib.decDigits u).length + 1, true, 0) := by
  unfold numP
  rw [if_neg (by simp), if_neg (by simp [begP]), show (105 :: 45 :: (Lib.decDigits u ++ 59 :: r)).drop 2 = Lib.decDigits u ++ 59 :: r from rfl, digs_full 59 isD59 u hu r]
  simp
theorem numP2_cut (u : Nat) (hu : u < 18446744073709551616) (j : Nat) : numP 105 59 2 (105 :: 45 :: (Lib.decDigits u).take j) 0 = (0, 0, false, 12) := by
  unfold numP
  rw [if_neg (by simp), if_neg (by simp [begP]), show (105 :: 45 :: (Lib.decDigits u).take j).drop 2 = (Lib.decDigits u).take j from rfl, digs_cut 59 isD59 u hu j]
  simp
theorem int_full (n : Int) (h0 : -9223372036854775808 ≤ n) (h1 : n ≤ 9223372036854775807) (r : List UInt8) : intP (105 :: Lib.itoa n ++ [59] ++ r) 0 = (n, r, 0) := by
  by_cases hn : n < 0
  · obtain ⟨u, hu, rfl⟩ : ∃ u : Nat, 1 ≤ u ∧ n = -(u : Int) := ⟨n.natAbs, by omega, by omega⟩
    rw [Lib.itoa_neg u hu]
    have e : 105 :: (45 :: Lib.decDigits u) ++ [59] ++ r = 105 :: 45 :: (Lib.decDigits u ++ 59 :: r) := by simp
    rw [e]
    unfold intP
    rw [from_neg, numP2_full u (by omega) r]
    simp only [Bool.true_eq_false, if_false, if_true]
    rw [if_neg (by omega), if_neg (by omega)]
    congr 2
    rw [show 2 + (Lib.decDigits u).length + 1 = (Lib.decDigits u).length + 1 + 1 + 1 from by omega, List.drop_succ_cons, List.drop_succ_cons, List.drop_append]
    simp
  · obtain ⟨u, rfl⟩ : ∃ u : Nat, n = (u : Int) := ⟨n.toNat, by omega⟩
    rw [Lib.itoa_nonneg u]
    have e : 105 :: Lib.decDigits u ++ [59] ++ r = 105 :: (Lib.decDigits u ++ 59 :: r) := by simp
    rw [e]
    unfold intP
    rw [from_pos u, numP_full 105 59 isD59 u (by omega) r]
    simp only [Bool.true_eq_false, if_false]
    rw [if_neg (by omega), if_neg (by omega)]
    congr 2
    rw [show 1 + (Lib.decDigits u).length + 1 = (Lib.decDigits u).length + 1 + 1 from by omega, List.drop_succ_cons, List.drop_append]
    simp
theorem intP_of_num (l : List UInt8) (e : Nat) (k : Nat) (h : numP 105 59 (fromP l) l k = (0, 0, false, e)) : intP l k = (0, l, e) := by
  unfold intP; rw [h]; simp
theorem int_cut (n : Int) (h0 : -9223372036854775808 ≤ n) (h1 : n ≤ 9223372036854775807) (j : Nat) (hj : j < (105 :: Lib.itoa n ++ [59]).length) : intP ((105 :: Lib.itoa n ++ [59]).take j) 0 = (0, (105 :: Lib.itoa n ++ [59]).take j, 12) := by
  apply intP_of_num
  cases j with
  | zero => rw [List.take_zero]; exact numP_nil _ _ _
  | succ j =>
    have e : (105 :: Lib.itoa n ++ [59]).take (j + 1) = 105 :: (Lib.itoa n).take j := by
      simp at hj
      rw [List.cons_append, List.take_succ_cons, List.take_append_of_le_length (by omega)]
    rw [e]
    by_cases hn : n < 0
    · obtain ⟨u, hu, rfl⟩ : ∃ u : Nat, 1 ≤ u ∧ n = -(u : Int) := ⟨n.natAbs, by omega, by omega⟩
      rw [Lib.itoa_neg u hu]
      cases j with
      | zero => rw [List.take_zero]; decide
      | succ j =>
        rw [List.take_succ_cons, from_neg]
        exact numP2_cut u (by omega) j
    · obtain ⟨u, rfl⟩ : ∃ u : Nat, n = (u : Int) := ⟨n.toNat, by omega⟩
      rw [Lib.itoa_nonneg u]
      have hf : fromP (105 :: (Lib.decDigits u).take j) = 1 := by
        unfold fromP
        rw [if_neg]
        intro h
        have h' : ((Lib.decDigits u).take j)[0]? = some 45 := by simpa using h
        have := List.mem_of_getElem? h'
        exact absurd (dec_all u 45 (List.mem_of_mem_take this)) (by decide)
      rw [hf]
      exact numP_cut 105 59 isD59 u (by omega) j
theorem int_other (c : UInt8) (r : List UInt8) (h : c ≠ 105) : intP (c :: r) 0 = (0, c :: r, 3) := intP_of_num _ _ _ (numP_other 105 59 _ c r h)
theorem int_err (e : Nat) (l : List UInt8) : intP l (e + 1) = (0, l, e + 1) := intP_of_num _ _ _ (numP_err _ _ _ _ _)

/-! ### Bool -/
theorem bool_full (b : Bool) (r : List UInt8) : boolP ((if b then 121 else 122) :: r) 0 = (b, r, 0) := by
  cases b <;> simp [boolP, begP]
theorem bool_nil : boolP [] 0 = (false, [], 12) := by simp [boolP, begP]
theorem bool_other (c : UInt8) (r : List UInt8) (h : c ≠ 121) (h' : c ≠ 122) : boolP (c :: r) 0 = (false, c :: r, 3) := by
  unfold boolP
  rw [if_neg (by simp), if_pos (by simp [begP, h, h'])]
  simp [begP, h, h']
theorem bool_err (e : Nat) (l : List UInt8) : boolP l (e + 1) = (false, l, e + 1) := by
  unfold boolP; rw [if_pos (by simp)]

/-! ### Text, Bytes -/
theorem run_full (lc : UInt8) (b r : List UInt8) (most : Int) (hb : b.length < 18446744073709551616) (hm : (b.length : Int) ≤ most) : runP lc most (lc :: Lib.itoa b.length ++ [58] ++ b ++ r) 0 = (b, r, 0) := by
  rw [Lib.itoa_nonneg]
  have e : lc :: Lib.decDigits b.length ++ [58] ++ b ++ r = lc :: (Lib.decDigits b.length ++ 58 :: (b ++ r)) := by simp
  have e2 : (lc :: (Lib.decDigits b.length ++ 58 :: (b ++ r))).drop (1 + (Lib.decDigits b.length).length + 1) = b ++ r := by
    rw [show 1 + (Lib.decDigits b.length).length + 1 = (Lib.decDigits b.length).length + 1 + 1 from by omega, List.drop_succ_cons, List.drop_append]
    simp
  rw [e]
  unfold runP
  rw [if_neg (by omega), numP_full lc 58 isD58 b.length hb (b ++ r)]
  simp only [Bool.true_eq_false, if_false]
  have e3 : (lc :: (Lib.decDigits b.length ++ 58 :: (b ++ r))).drop (1 + (Lib.decDigits b.length).length + 1 + b.length) = r := by
    rw [← List.drop_drop, e2]; simp
  rw [if_neg (by omega), if_neg (by simp; omega), e2, e3]
  simp
theorem run_num (lc : UInt8) (most : Int) (l : List UInt8) (k e : Nat) (hm : 0 ≤ most) (h : numP lc 58 1 l k = (0, 0, false, e)) : runP lc most l k = ([], l, e) := by
  unfold runP
  rw [if_neg (by omega), h]; simp
theorem run_cut (lc : UInt8) (b : List UInt8) (most : Int) (hb : b.length < 18446744073709551616) (hm : (b.length : Int) ≤ most) (j : Nat) (hj : j < (lc :: Lib.itoa b.length ++ [58] ++ b).length) :
    runP lc most ((lc :: Lib.itoa b.length ++ [58] ++ b).take j) 0 = ([], (lc :: Lib.itoa b.length ++ [58] ++ b).take j, 12) := by
  rw [Lib.itoa_nonneg] at hj ⊢
  have e : lc :: Lib.decDigits b.length ++ [58] ++ b = lc :: (Lib.decDigits b.length ++ 58 :: b) := by simp
  rw [e] at hj ⊢
  simp at hj
  cases j with
  | zero => rw [List.take_zero]; exact run_num _ _ _ _ _ (by omega) (numP_nil _ _ _)
  | succ j =>
    rw [List.take_succ_cons]
    by_cases h1 : j ≤ (Lib.decDigits b.length).length
    · rw [List.take_append_of_le_length h1]
      exact run_num _ _ _ _ _ (by omega) (numP_cut lc 58 isD58 _ hb j)
    · obtain ⟨i, rfl⟩ : ∃ i, j = (Lib.decDigits b.length).length + (i + 1) := ⟨j - (Lib.decDigits b.length).length - 1, by omega⟩
      have e2 : (Lib.decDigits b.length ++ 58 :: b).take ((Lib.decDigits b.length).length + (i + 1)) = Lib.decDigits b.length ++ 58 :: b.take i := by
        rw [List.take_length_add_append, List.take_succ_cons]
      rw [e2]
      unfold runP
      rw [if_neg (by omega), numP_full lc 58 isD58 b.length hb (b.take i)]
      simp only [Bool.true_eq_false, if_false]
      rw [if_neg (by omega), if_pos (by simp; omega)]
theorem run_other (lc c : UInt8) (r : List UInt8) (most : Int) (hm : 0 ≤ most) (h : c ≠ lc) : runP lc most (c :: r) 0 = ([], c :: r, 3) := run_num _ _ _ _ _ hm (numP_other lc 58 1 c r h)
theorem run_err (lc : UInt8) (most : Int) (e : Nat) (l : List UInt8) (hm : 0 ≤ most) : runP lc most l (e + 1) = ([], l, e + 1) := run_num _ _ _ _ _ hm (numP_err _ _ _ _ _)

/-! ### A thing -/
/-- What is laid: of kind k (0 a number, 1 an int, 2 a truth, 3 a text, else bytes). -/
structure Th where
  k : Nat
  n : Int
  b : List UInt8
/-- An int as a number from 0 on. -/
def u64 (n : Int) : Nat := (n % 18446744073709551616).toNat
theorem u64_lt (n : Int) : u64 n < 18446744073709551616 := by unfold u64; omega
def layP (x : Th) : List UInt8 :=
  if x.k = 0 then 110 :: Lib.decDigits (u64 x.n) ++ [59] else
  if x.k = 1 then 105 :: Lib.itoa x.n ++ [59] else
  if x.k = 2 then [if decide (0 < x.n) then 121 else 122] else
  if x.k = 3 then 116 :: Lib.itoa x.b.length ++ [58] ++ x.b else 98 :: Lib.itoa x.b.length ++ [58] ++ x.b
/-- What is left, and the error, when a thing of a kind has been taken. -/
def takeP (k : Nat) (most : Int) (l : List UInt8) (e : Nat) : List UInt8 × Nat :=
  if k = 0 then (uintP 18446744073709551615 l e).2 else
  if k = 1 then (intP l e).2 else
  if k = 2 then (boolP l e).2 else
  if k = 3 then (runP 116 most l e).2 else (runP 98 most l e).2
structure Th.May (x : Th) : Prop where
  n0 : -9223372036854775808 ≤ x.n
  n1 : x.n ≤ 9223372036854775807
  b : x.b.length < 18446744073709551616
theorem take_full (x : Th) (h : x.May) (r : List UInt8) : takeP x.k x.b.length (layP x ++ r) 0 = (r, 0) := by
  obtain ⟨k, n, b⟩ := x
  obtain ⟨h0, h1, h2⟩ := h
  simp only at h0 h1 h2
  unfold layP takeP
  simp only
  split
  · rw [uint_full _ _ (u64_lt n) (by have := u64_lt n; omega)]
  · split
    · rw [int_full n h0 h1]
    · split
      · rw [List.singleton_append, bool_full]
      · split
        · rw [run_full 116 b r _ h2 (Int.le_refl _)]
        · rw [run_full 98 b r _ h2 (Int.le_refl _)]
theorem take_cut (x : Th) (h : x.May) (j : Nat) (hj : j < (layP x).length) : takeP x.k x.b.length ((layP x).take j) 0 = ((layP x).take j, 12) := by
  obtain ⟨k, n, b⟩ := x
  obtain ⟨h0, h1, h2⟩ := h
  simp only at h0 h1 h2
  unfold layP at hj ⊢
  unfold takeP
  simp only at hj ⊢
  split
  · rename_i hk; rw [if_pos hk] at hj; rw [uint_cut _ _ (u64_lt n) j hj]
  · rename_i hk0; rw [if_neg hk0] at hj
    split
    · rename_i hk; rw [if_pos hk] at hj; rw [int_cut n h0 h1 j hj]
    · rename_i hk1; rw [if_neg hk1] at hj
      split
      · rename_i hk; rw [if_pos hk] at hj
        obtain rfl : j = 0 := by simpa using hj
        rw [List.take_zero, bool_nil]
      · rename_i hk2; rw [if_neg hk2] at hj
        split
        · rename_i hk; rw [if_pos hk] at hj; rw [run_cut 116 b _ h2 (Int.le_refl _) j hj]
        · rename_i hk; rw [if_neg hk] at hj; rw [run_cut 98 b _ h2 (Int.le_refl _) j hj]
theorem take_err (k : Nat) (most : Int) (hm : 0 ≤ most) (l : List UInt8) (e : Nat) : takeP k most l (e + 1) = (l, e + 1) := by
  unfold takeP
  rw [uint_err, int_err, bool_err, run_err _ _ _ _ hm, run_err _ _ _ _ hm]
  simp
/-- A thing's letter. -/
theorem lay_head (x : Th) : ∃ c r, layP x = c :: r ∧ (c = 110 ↔ x.k = 0) ∧ (c = 105 ↔ x.k = 1) ∧ ((c = 121 ∨ c = 122) ↔ x.k = 2) ∧ (c = 116 ↔ x.k = 3) ∧ (c = 98 ↔ 4 ≤ x.k) := by
  obtain ⟨k, n, b⟩ := x
  unfold layP
  simp only
  split
  · rename_i h; subst h; exact ⟨_, _, rfl, by decide, by decide, by decide, by decide, by decide⟩
  · split
    · rename_i h; subst h; exact ⟨_, _, rfl, by decide, by decide, by decide, by decide, by decide⟩
    · split
      · rename_i h; subst h
        by_cases hn : 0 < n
        · rw [if_pos (by simpa using hn)]; exact ⟨_, _, rfl, by decide, by decide, by decide, by decide, by decide⟩
        · rw [if_neg (by simpa using hn)]; exact ⟨_, _, rfl, by decide, by decide, by decide, by decide, by decide⟩
      · split
        · rename_i h; subst h; exact ⟨_, _, rfl, by decide, by decide, by decide, by decide, by decide⟩
        · rename_i h0 h1 h2 h3
          refine ⟨98, _, rfl, ⟨fun h => absurd h (by decide), fun h => absurd h h0⟩, ⟨fun h => absurd h (by decide), fun h => absurd h h1⟩, ⟨fun h => absurd h (by decide), fun h => absurd h h2⟩, ⟨fun h => absurd h (by decide), fun h => absurd h h3⟩, ⟨fun _ => by omega, fun _ => rfl⟩⟩
/-- As another thing it is refused. -/
theorem take_other (x : Th) (k : Nat) (hk : k < 5) (hx : x.k < 5) (h : k ≠ x.k) (most : Int) (hm : 0 ≤ most) (r : List UInt8) : takeP k most (layP x ++ r) 0 = (layP x ++ r, 3) := by
  obtain ⟨c, t, e, c0, c1, c2, c3, c4⟩ := lay_head x
  rw [e, List.cons_append]
  unfold takeP
  split
  · rw [uint_other _ _ _ (fun q => h (by have := c0.1 q; omega))]
  · split
    · rw [int_other _ _ (fun q => h (by have := c1.1 q; omega))]
    · split
      · rw [bool_other _ _ (fun q => h (by have := c2.1 (.inl q); omega)) (fun q => h (by have := c2.1 (.inr q); omega))]
      · split
        · rw [run_other _ _ _ _ hm (fun q => h (by have := c3.1 q; omega))]
        · rw [run_other _ _ _ _ hm (fun q => h (by have := c4.1 q; omega))]
theorem lay_ne (x : Th) : layP x ≠ [] := by
  obtain ⟨c, r, e, _⟩ := lay_head x
  rw [e]; simp
theorem doneP_zero : doneP [] 0 = 0 := by simp [doneP]
theorem doneP_err (l : List UInt8) (e : Nat) : doneP l (e + 1) = e + 1 := by simp [doneP]
theorem lay_length (x : Th) (h : x.May) : (layP x).length ≤ x.b.length + 25 := by
  obtain ⟨k, n, b⟩ := x
  obtain ⟨h0, h1, h2⟩ := h
  simp only at h0 h1 h2
  have e1 := dec_le (u64 n) (u64_lt n)
  have e2 := Lib.itoa_length_le n h0 h1
  have e3 := dec_le b.length h2
  unfold layP
  rw [Lib.itoa_nonneg]
  simp only
  split
  · simp; omega
  · split
    · simp; omega
    · split
      · simp
      · split <;> (simp; omega)

/-! ### Things, one behind the other -/
def layAll (l : List Th) : List UInt8 := (l.map layP).flatten
def takeAll : List Th → List UInt8 × Nat → List UInt8 × Nat
  | [], q => q
  | x :: r, q => takeAll r (takeP x.k x.b.length q.1 q.2)
theorem takeAll_err : ∀ (l : List Th) (q : List UInt8) (e : Nat), takeAll l (q, e + 1) = (q, e + 1)
  | [], q, e => rfl
  | x :: r, q, e => by
    show takeAll r (takeP x.k x.b.length q (e + 1)) = _
    rw [take_err _ _ (by omega)]
    exact takeAll_err r q e
theorem takeAll_cut : ∀ (l : List Th) (_ : ∀ x ∈ l, x.May) (j : Nat) (_ : j < (layAll l).length), (takeAll l ((layAll l).take j, 0)).2 = 12
  | [], _, j, hj => by simp [layAll] at hj
  | x :: r, h, j, hj => by
    have e : layAll (x :: r) = layP x ++ layAll r := by simp [layAll]
    rw [e] at hj ⊢
    show (takeAll r (takeP x.k x.b.length ((layP x ++ layAll r).take j) 0)).2 = 12
    by_cases h1 : j < (layP x).length
    · rw [List.take_append_of_le_length (by omega), take_cut x (h x (by simp)) j h1, takeAll_err]
    · obtain ⟨i, rfl⟩ : ∃ i, j = (layP x).length + i := ⟨j - (layP x).length, by omega⟩
      rw [List.take_length_add_append, take_full x (h x (by simp))]
      exact takeAll_cut r (fun y hy => h y (by simp [hy])) i (by rw [List.length_append] at hj; omega)
theorem layAll_append (l m : List Th) : layAll (l ++ m) = layAll l ++ layAll m := by simp [layAll]
end Go.Proofs.YtflghelhdalhiaaGreatDoor.PK

namespace Go.Proofs.YtflghelhdalhiaaGreatDoor
open Go Go.RowKit
namespace PK

/-- A number as laid. -/
def uB (u : Nat) : List UInt8 := 110 :: Lib.decDigits u ++ [59]
/-- Bytes as laid. -/
def bB (d : List UInt8) : List UInt8 := 98 :: Lib.decDigits d.length ++ [58] ++ d
/-- A truth as laid. -/
def tB (b : Bool) : List UInt8 := [if b then 121 else 122]
/-- An entry. -/
structure Ent where
  i : Int
  t : Int
  k : Int
  d : List UInt8
def encE (e : Ent) : List UInt8 := uB (u64 e.i) ++ uB (u64 e.t) ++ uB (u64 e.k) ++ bB e.d
theorem uB_len (u : Nat) (h : u < 18446744073709551616) : (uB u).length ≤ 22 := by
  have := dec_le u h
  unfold uB; simp; omega
theorem bB_len (d : List UInt8) (h : d.length < 18446744073709551616) : (bB d).length ≤ 22 + d.length := by
  have := dec_le d.length h
  unfold bB; simp; omega
theorem encE_len (e : Ent) (h : e.d.length < 18446744073709551616) : (encE e).length ≤ 88 + e.d.length := by
  have h1 := uB_len _ (u64_lt e.i)
  have h2 := uB_len _ (u64_lt e.t)
  have h3 := uB_len _ (u64_lt e.k)
  have h4 := bB_len e.d h
  unfold encE
  simp only [List.length_append]
  omega
/-- What is read of an entry: the three numbers and the bytes, what is left, the error. -/
def readE (l : List UInt8) : Ent × List UInt8 × Nat :=
  let a := uintP 1099511627776 l 0
  let b := uintP 1099511627776 a.2.1 a.2.2
  let c := uintP 2 b.2.1 b.2.2
  let d := runP 98 4096 c.2.1 c.2.2
  (⟨a.1, b.1, c.1, d.1⟩, d.2.1, d.2.2)
/-- The entry of bytes, if they are one. -/
def decE (l : List UInt8) : Option Ent :=
  let r := readE l
  if doneP r.2.1 r.2.2 ≠ 0 ∨ r.1.i < 1 ∨ r.1.t < 1 then none else some r.1
end PK
end Go.Proofs.YtflghelhdalhiaaGreatDoor

namespace Go.Proofs.YtflghelhdalhiaaGreatDoor
open Go Go.ChangeShapes Go.WideShapes Go.ChangeAt Go.RowKit Go.Joins

theorem lits_length (k : IntKind) (zs : List Int) {H : Type} : (lits (H := H) k zs).length = zs.length := by simp [lits]
/-- A slice of bytes that came in: its bytes; its length is at most its bulk, and at most its weight. -/
theorem open_bytes {H : Type} {enc : TypeId × Value → H} {W : World} {base n : Nat} {sp : Nat → Bool} {held : Bool} {v : Value} {y : DataW H × List MemPlace} (h : DataW.trod enc Tryz.prog W base sp held n 22 [v] = some y) :
    ∃ a m c l, v = .slice a m c ∧ l.length = m ∧ IsB W (.slice a m c) l ∧ m ≤ Rows.uptoBulk y.1 ∧ ∀ B, (y.1.weights Tryz.prog 22).all (· ≤ B) = true → m ≤ B := by
  have hlen := fun (k : IntKind) (zs : List Int) => lits_length (H := H) k zs
  have hall : ∀ l : List (DataW H), l.length ≤ Rows.uptoBulkAll l := by
    intro l
    induction l with
    | nil => simp [Rows.uptoBulkAll]
    | cons x r ih =>
      have h1 : 1 ≤ Rows.uptoBulk x := by
        cases x with
        | lit l => cases l <;> simp [Rows.uptoBulk]
        | nil => simp [Rows.uptoBulk]
        | ptr d => simp [Rows.uptoBulk]
        | slice elems spare => simp [Rows.uptoBulk]
        | agg parts => simp [Rows.uptoBulk]
        | iface t d => simp [Rows.uptoBulk]
        | map entries => simp [Rows.uptoBulk]
        | held h => simp [Rows.uptoBulk]
      simp only [Rows.uptoBulkAll, List.length_cons]
      omega
  rcases open_ints Tryz.underlying22 Tryz.underlying5 c_u8 h with ⟨hcs, _⟩ | ⟨x, len, cap, zs, hcs, _, hl, hm, hz, rfl, hcell, hwz⟩
  · simp at hcs
    subst hcs
    exact ⟨none, 0, 0, [], rfl, rfl, IsB.nil W, by omega, fun _ _ => by omega⟩
  · simp at hcs
    subst hcs
    have hlz : len ≤ zs.length := by rw [hz]; split <;> omega
    have hopen : ∃ l, l.length = len ∧ IsB W (.slice (some x) len cap) l := by
      -- the bytes alone, whatever room is behind them
      have hlen' : (bytesFrom (zs.take len)).length = len := by simp [bytesFrom]; omega
      refine ⟨bytesFrom (zs.take len), hlen', some x, cap, by rw [hlen'], by omega, hm, (fun h => by cases h), ?_⟩
      by_cases h0 : len = 0
      · exact .inl (List.eq_nil_of_length_eq_zero (by omega))
      · have hc := hcell 0 (by omega)
        obtain ⟨b, off, spot⟩ := x
        have hspot : spot = none := by simpa [Addr.add] using World.cell?_spot hc
        subst hspot
        refine .inr ⟨b, off, rfl, fun i hi => ?_⟩
        have hi' : i < zs.length := by omega
        have := hcell i hi'
        have hadd : (⟨b, off, none⟩ : Addr).add i = ⟨b, off + i, none⟩ := by unfold Addr.add; split <;> simp_all
        rw [hadd] at this
        rw [this]
        have hmem : zs[i] ∈ zs := List.getElem_mem hi'
        have hwf := hwz _ hmem
        obtain ⟨z0, z1⟩ := bounds_u8 hwf
        have hg : zs.getD i 0 = zs[i] := by simp [List.getD_eq_getElem?_getD, hi']
        rw [hg, at8_get _ _ hi]
        have hbt : ((bytesFrom (zs.take len))[i]'hi).toNat = zs[i].toNat := by
          have : zs[i].toNat < 256 := by omega
          simp [bytesFrom, UInt8.toNat_ofNat', Nat.mod_eq_of_lt this]
        rw [hbt, Int.toNat_of_nonneg z0]
    obtain ⟨l, e, hI⟩ := hopen
    refine ⟨_, _, _, l, rfl, e, hI, ?_, fun B hB => ?_⟩
    · have := hall (lits (H := H) .u8 (zs.take len))
      simp only [Rows.uptoBulk]
      rw [hlen] at this
      simp at this
      omega
    · have hb : Tryz.prog.bytesOf 5 = 1 := by kernel_rfl
      simp [DataW.weights, Tryz.underlying22, hlen, hb] at hB
      omega

end Go.Proofs.YtflghelhdalhiaaGreatDoor
