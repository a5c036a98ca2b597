/-
  Whole numbers, also below nought, as floats of 64 bits, in plain Lean: sums, differences, order. No program; no condition beside the numbers' bounds.
  Whole numbers as floats, in the walk's form: sums and differences of complex numbers, order, the greater one.
  Conditions: the numbers' bounds (below 2^53), in each line.
  pair.May and the document's May at whole numbers, amounts or greater, by contracts.
  Conditions: the numbers are below 2^53.
  The document's ReadText, and its amount off what is read, by contracts.
  Conditions: what the reader holds reads as bytes and is at most 2^47 bytes long.
  A complex number stored, in the walk's form.
  Conditions: none.
-/
import Derived.Test.YtkanjdijmdjbaaaGreatDoorG2
import Ieee.Arith
import Derived.Laws.ComplexArith
import Derived.Test.YtkanjdijmdjbaaaGreatDoorCountQ
import Derived.Test.YtkanjdijmdjbaaaGreatDoorG5
import Derived.Deep.RegionHeld3
namespace Go.Proofs.YtkanjdijmdjbaaaGreatDoor.FL
open Go Ieee

/-- A whole number's float. -/
def fI (z : Int) : Nat := FloatKind.f64.nearest z
theorem fI_nat (n : Nat) : fI (n : Int) = fB n := rfl
theorem fI_zero : fI 0 = 0 := by decide
theorem fI_neg (n : Nat) (h0 : 0 < n) : fI (-(n : Int)) = double.nearest true n 0 := by
  have h : decide (-(n : Int) < 0) = true := decide_eq_true (by omega)
  unfold fI FloatKind.nearest FloatKind.encode Format.write
  rw [h, Int.natAbs_neg, Int.natAbs_natCast]
  rfl
theorem cut_true (n d : Nat) : Toward.even.cut true n d = Toward.even.cut false n d := rfl
theorem nearest_true (n : Nat) (h0 : 0 < n) : double.nearest true n 0 = 9223372036854775808 + fB n := by
  rw [fB_eq]
  unfold Format.nearest
  rw [if_neg (by omega), if_neg (by omega)]
  simp only [cut_true]
  unfold Format.word
  rw [if_pos rfl, if_neg (by simp), d_sign]
theorem cut_exact (s : Bool) (m d : Nat) (h0 : 0 < m) : Toward.even.cut s (m * 2 ^ d) d = m := by
  have hp : 0 < 2 ^ d := Nat.pos_of_ne_zero (by simp)
  have hle : 2 ^ d ≤ m * 2 ^ d := Nat.le_mul_of_pos_left _ h0
  have hlog : d ≤ (m * 2 ^ d).log2 := (Nat.le_log2 (by omega)).2 hle
  have hmin : min d ((m * 2 ^ d).log2 + 2) = d := Nat.min_eq_left (by omega)
  unfold Toward.cut
  simp only [hmin, Nat.shiftLeft_eq, Nat.one_mul, Nat.mul_div_cancel _ hp, Nat.mul_mod_left]
  have h1 : ¬ (2 ^ d < 2 * 0) := by omega
  have h2 : ¬ (2 ^ d = 2 * 0) := by omega
  simp
theorem log2_scaled (n J : Nat) (h0 : 0 < n) : (n * 2 ^ J).log2 = n.log2 + J := by
  have hp : 0 < 2 ^ J := Nat.pos_of_ne_zero (by simp)
  have hn : n * 2 ^ J ≠ 0 := by have := Nat.mul_pos h0 hp; omega
  have a1 : 2 ^ n.log2 ≤ n := Nat.log2_self_le (by omega)
  have a2 : n < 2 ^ (n.log2 + 1) := Nat.lt_log2_self
  have b1 : n.log2 + J ≤ (n * 2 ^ J).log2 := (Nat.le_log2 hn).2 (by rw [Nat.pow_add]; exact Nat.mul_le_mul_right _ a1)
  have b2 : (n * 2 ^ J).log2 < n.log2 + J + 1 := (Nat.log2_lt hn).2 (by rw [show n.log2 + J + 1 = (n.log2 + 1) + J from by omega, Nat.pow_add]; exact Nat.mul_lt_mul_of_pos_right a2 hp)
  omega
theorem nearest_scaled (s : Bool) (n J : Nat) (h0 : 0 < n) (h : n < 9007199254740992) : double.nearest s (n * 2 ^ J) (-(J : Int)) = double.nearest s n 0 := by
  obtain ⟨he, _, _⟩ := pow_bounds n h0 h
  have hp : 0 < 2 ^ J := Nat.pos_of_ne_zero (by simp)
  have hn : ¬ (n * 2 ^ J = 0) := by have := Nat.mul_pos h0 hp; omega
  have hl := log2_scaled n J h0
  unfold Format.nearest
  rw [if_neg hn, if_neg (by omega), hl]
  have l1 : max (-(J : Int) + ((n.log2 + J : Nat) : Int) - (double.fractionBits : Int)) double.leastPlace = (n.log2 : Int) - 52 := by rw [d_least, d_frac]; omega
  have l2 : max ((0 : Int) + (n.log2 : Int) - (double.fractionBits : Int)) double.leastPlace = (n.log2 : Int) - 52 := by rw [d_least, d_frac]; omega
  simp only [l1, l2]
  have k2 : Toward.even.cut s (n <<< ((0 : Int) - ((n.log2 : Int) - 52)).toNat) (((n.log2 : Int) - 52) - 0).toNat = n * 2 ^ (52 - n.log2) := by
    have e1 : ((0 : Int) - ((n.log2 : Int) - 52)).toNat = 52 - n.log2 := by omega
    have e2 : (((n.log2 : Int) - 52) - 0).toNat = 0 := by omega
    rw [e1, e2, Nat.shiftLeft_eq]
    have := cut_exact s (n * 2 ^ (52 - n.log2)) 0 (Nat.mul_pos h0 (Nat.pos_of_ne_zero (by simp)))
    rwa [Nat.pow_zero, Nat.mul_one] at this
  have k1 : Toward.even.cut s ((n * 2 ^ J) <<< (-(J : Int) - ((n.log2 : Int) - 52)).toNat) (((n.log2 : Int) - 52) - -(J : Int)).toNat = n * 2 ^ (52 - n.log2) := by
    rcases Nat.le_total J (52 - n.log2) with q | q
    · have e1 : (-(J : Int) - ((n.log2 : Int) - 52)).toNat = 52 - n.log2 - J := by omega
      have e2 : (((n.log2 : Int) - 52) - -(J : Int)).toNat = 0 := by omega
      rw [e1, e2, Nat.shiftLeft_eq, Nat.mul_assoc, ← Nat.pow_add, show J + (52 - n.log2 - J) = 52 - n.log2 from by omega]
      have := cut_exact s (n * 2 ^ (52 - n.log2)) 0 (Nat.mul_pos h0 (Nat.pos_of_ne_zero (by simp)))
      rwa [Nat.pow_zero, Nat.mul_one] at this
    · have e1 : (-(J : Int) - ((n.log2 : Int) - 52)).toNat = 0 := by omega
      have e2 : (((n.log2 : Int) - 52) - -(J : Int)).toNat = J - (52 - n.log2) := by omega
      rw [e1, e2, Nat.shiftLeft_zero]
      have := cut_exact s (n * 2 ^ (52 - n.log2)) (J - (52 - n.log2)) (Nat.mul_pos h0 (Nat.pos_of_ne_zero (by simp)))
      rwa [Nat.mul_assoc, ← Nat.pow_add, show 52 - n.log2 + (J - (52 - n.log2)) = J from by omega] at this
  rw [k1, k2]
theorem write_scaled (z : Int) (J : Nat) (h : z.natAbs < 9007199254740992) : double.write (.number (decide (z < 0)) (z.natAbs * 2 ^ J) (-(J : Int))) = fI z := by
  unfold Format.write
  rcases Int.lt_trichotomy z 0 with q | q | q
  · obtain ⟨n, rfl⟩ : ∃ n : Nat, z = -(n : Int) := ⟨z.natAbs, by omega⟩
    have h0 : 0 < n := by omega
    rw [fI_neg n h0, Int.natAbs_neg, Int.natAbs_natCast, decide_eq_true q]
    simp only
    exact nearest_scaled true n J h0 (by simpa using h)
  · subst q
    simp only [Int.natAbs_zero, Nat.zero_mul]
    rw [fI_zero]
    unfold Format.nearest Format.word
    simp
  · obtain ⟨n, rfl⟩ : ∃ n : Nat, z = (n : Int) := ⟨z.natAbs, by omega⟩
    have h0 : 0 < n := by omega
    rw [fI_nat, Int.natAbs_natCast, decide_eq_false (by omega), fB_eq]
    exact nearest_scaled false n J h0 (by simpa using h)
theorem read_flip (w : Nat) (hw : w < 9223372036854775808) (m : Nat) (p : Int) (h : double.read w = .number false m p) : double.read (9223372036854775808 + w) = .number true m p := by
  unfold Format.read at h ⊢
  rw [d_sign, d_bin, d_inf, d_least] at h ⊢
  have e1 : w / 9223372036854775808 = 0 := by omega
  have e2 : w % 9223372036854775808 = w := by omega
  have e3 : (9223372036854775808 + w) / 9223372036854775808 = 1 := by omega
  have e4 : (9223372036854775808 + w) % 9223372036854775808 = w := by omega
  simp only [e1, e2] at h
  simp only [e3, e4]
  by_cases h1 : w < 4503599627370496
  · rw [if_pos h1] at h ⊢
    injection h with _ a b
    rw [a, b]; rfl
  · rw [if_neg h1] at h ⊢
    by_cases h2 : w < 9218868437227405312
    · rw [if_pos h2] at h ⊢
      injection h with _ a b
      rw [a, b]; rfl
    · rw [if_neg h2] at h
      split at h <;> cases h
theorem read_fI (z : Int) (h : z.natAbs < 9007199254740992) : ∃ j : Nat, double.read (fI z) = .number (decide (z < 0)) (z.natAbs * 2 ^ j) (-(j : Int)) := by
  rcases Int.lt_or_le z 0 with q | q
  · obtain ⟨n, rfl⟩ : ∃ n : Nat, z = -(n : Int) := ⟨z.natAbs, by omega⟩
    have h0 : 0 < n := by omega
    have hn : n < 9007199254740992 := by simpa using h
    obtain ⟨j, hj, _⟩ := read_fB n hn
    refine ⟨j, ?_⟩
    rw [fI_neg n h0, nearest_true n h0, Int.natAbs_neg, Int.natAbs_natCast, decide_eq_true q]
    exact read_flip _ (fB_lt n hn) _ _ hj
  · obtain ⟨n, rfl⟩ : ∃ n : Nat, z = (n : Int) := ⟨z.natAbs, by omega⟩
    obtain ⟨j, hj, _⟩ := read_fB n (by simpa using h)
    refine ⟨j, ?_⟩
    rw [fI_nat, Int.natAbs_natCast, decide_eq_false (by omega)]
    exact hj
theorem signed_int (z : Int) (i u : Nat) : signed (decide (z < 0)) (z.natAbs * 2 ^ i) u = z * ((2 ^ (i + u) : Nat) : Int) := by
  unfold signed
  rw [Nat.shiftLeft_eq, Nat.mul_assoc, ← Nat.pow_add]
  generalize 2 ^ (i + u) = p
  rcases Int.lt_or_le z 0 with q | q
  · obtain ⟨n, rfl⟩ : ∃ n : Nat, z = -(n : Int) := ⟨z.natAbs, by omega⟩
    rw [decide_eq_true q, if_pos rfl, Int.natAbs_neg, Int.natAbs_natCast, Int.natCast_mul, Int.neg_mul]
  · obtain ⟨n, rfl⟩ : ∃ n : Nat, z = (n : Int) := ⟨z.natAbs, by omega⟩
    rw [decide_eq_false (by omega), if_neg (by simp), Int.natAbs_natCast, Int.natCast_mul]
/-- The sum of two data that are whole numbers at places below nought. -/
theorem sum_int (a b : Int) (i j : Nat) (s t : Bool) (m n : Nat) (hs : ∀ u, signed s m u = a * ((2 ^ (i + u) : Nat) : Int)) (ht : ∀ u, signed t n u = b * ((2 ^ (j + u) : Nat) : Int)) (h0 : a + b = 0 → (s && t) = false) (hab : (a + b).natAbs < 9007199254740992) :
    ((Datum.number s m (-(i : Int))).sum (Datum.number t n (-(j : Int)))).map double.write = some (fI (a + b)) := by
  unfold Datum.sum
  simp only
  have e1 : (-(i : Int) - min (-(i : Int)) (-(j : Int))).toNat = max i j - i := by omega
  have e2 : (-(j : Int) - min (-(i : Int)) (-(j : Int))).toNat = max i j - j := by omega
  have e3 : min (-(i : Int)) (-(j : Int)) = -((max i j : Nat) : Int) := by omega
  rw [e1, e2, e3, hs, ht, show i + (max i j - i) = max i j from by omega, show j + (max i j - j) = max i j from by omega, ← Int.add_mul]
  have hp : 0 < 2 ^ max i j := Nat.pos_of_ne_zero (by simp)
  have hw := write_scaled (a + b) (max i j) hab
  have hpi : (0 : Int) < ((2 ^ max i j : Nat) : Int) := by exact_mod_cast hp
  have hsg : (if (a + b) * ((2 ^ max i j : Nat) : Int) = 0 then s && t else decide ((a + b) * ((2 ^ max i j : Nat) : Int) < 0)) = decide (a + b < 0) := by
    by_cases q : a + b = 0
    · rw [q, Int.zero_mul, if_pos rfl, h0 q]; rfl
    · have hne : ¬ ((a + b) * ((2 ^ max i j : Nat) : Int) = 0) := by
        intro e
        rcases Int.mul_eq_zero.1 e with e | e <;> omega
      rw [if_neg hne]
      congr 1
      apply propext
      constructor
      · intro h
        rcases Int.lt_or_le (a + b) 0 with r | r
        · exact r
        · have := Int.mul_nonneg r (Int.le_of_lt hpi); omega
      · intro h
        exact Int.mul_neg_of_neg_of_pos h hpi
  rw [Option.map_some]
  congr 1
  rw [← hw]
  congr 2
  · rw [Int.natAbs_mul, Int.natAbs_natCast]
theorem add_fI (a b : Int) (ha : a.natAbs < 9007199254740992) (hb : b.natAbs < 9007199254740992) (hab : (a + b).natAbs < 9007199254740992) : double.add (fI a) (fI b) = some (fI (a + b)) := by
  obtain ⟨i, hi⟩ := read_fI a ha
  obtain ⟨j, hj⟩ := read_fI b hb
  unfold Format.add
  rw [hi, hj]
  refine sum_int a b i j _ _ _ _ (fun u => signed_int a i u) (fun u => signed_int b j u) (fun h => ?_) hab
  by_cases q : a < 0
  · have : ¬ b < 0 := by omega
    simp [this]
  · simp [q]
theorem sub_fI (a b : Int) (ha : a.natAbs < 9007199254740992) (hb : b.natAbs < 9007199254740992) (hab : (a - b).natAbs < 9007199254740992) : double.sub (fI a) (fI b) = some (fI (a - b)) := by
  obtain ⟨i, hi⟩ := read_fI a ha
  obtain ⟨j, hj⟩ := read_fI b hb
  unfold Format.sub
  rw [hi, hj]
  unfold Datum.opposite
  simp only
  rw [show a - b = a + -b from Int.sub_eq_add_neg]
  refine sum_int a (-b) i j _ _ _ _ (fun u => signed_int a i u) (fun u => ?_) (fun h => ?_) (by rw [← Int.sub_eq_add_neg]; exact hab)
  · have h1 := signed_int b j u
    rw [Int.neg_mul, ← h1]
    unfold signed
    by_cases q : b < 0
    · simp [q]
    · simp [q]
  · have : a = b := by omega
    subst this
    by_cases q : a < 0 <;> simp [q]
/-- Floats of whole numbers stand as these do. -/
theorem order_fI (a b : Int) (ha : a.natAbs < 9007199254740992) (hb : b.natAbs < 9007199254740992) : double.order (fI a) (fI b) = some (compare a b) := by
  obtain ⟨i, hi⟩ := read_fI a ha
  obtain ⟨j, hj⟩ := read_fI b hb
  unfold Format.order
  rw [hi, hj]
  unfold Datum.order
  simp only
  have e1 : (-(i : Int) - min (-(i : Int)) (-(j : Int))).toNat = max i j - i := by omega
  have e2 : (-(j : Int) - min (-(i : Int)) (-(j : Int))).toNat = max i j - j := by omega
  rw [e1, e2, signed_int, signed_int, show i + (max i j - i) = max i j from by omega, show j + (max i j - j) = max i j from by omega]
  have hp : (0 : Int) < ((2 ^ max i j : Nat) : Int) := by exact_mod_cast Nat.pos_of_ne_zero (by simp)
  generalize ((2 ^ max i j : Nat) : Int) = p at *
  congr 1
  show compareOfLessAndEq (a * p) (b * p) = compareOfLessAndEq a b
  unfold compareOfLessAndEq
  rcases Int.lt_trichotomy a b with q | q | q
  · rw [if_pos (Int.mul_lt_mul_of_pos_right q hp), if_pos q]
  · subst q
    simp
  · have h1 := Int.mul_lt_mul_of_pos_right q hp
    rw [if_neg (by omega), if_neg (by omega), if_neg (by omega), if_neg (by omega)]
end Go.Proofs.YtkanjdijmdjbaaaGreatDoor.FL

namespace Go.Proofs.YtkanjdijmdjbaaaGreatDoor
open Go Go.RowKit

/-- A whole number that a float holds. -/
def W53 (z : Int) : Prop := z.natAbs < 9007199254740992
theorem run_cadd {P : Program} (t : TypeId) (a b c d : Int) (w : World) (ha : W53 a) (hb : W53 b) (hc : W53 c) (hd : W53 d) (h1 : W53 (a + c)) (h2 : W53 (b + d)) :
    (binOp .add t (.complex .f64 (FL.fI a) (FL.fI b)) (.complex .f64 (FL.fI c) (FL.fI d))).run P w = .ok (.complex .f64 (FL.fI (a + c)) (FL.fI (b + d))) w := by
  refine run_complex_sum w .add (.inl rfl) t .f64 _ _ _ _ _ _ ?_
  have e1 : floatBits .add .f64 (FL.fI a) (FL.fI c) = some (FL.fI (a + c)) := FL.add_fI a c ha hc h1
  have e2 : floatBits .add .f64 (FL.fI b) (FL.fI d) = some (FL.fI (b + d)) := FL.add_fI b d hb hd h2
  simp [cSumBits, e1, e2]
theorem run_csub {P : Program} (t : TypeId) (a b c d : Int) (w : World) (ha : W53 a) (hb : W53 b) (hc : W53 c) (hd : W53 d) (h1 : W53 (a - c)) (h2 : W53 (b - d)) :
    (binOp .sub t (.complex .f64 (FL.fI a) (FL.fI b)) (.complex .f64 (FL.fI c) (FL.fI d))).run P w = .ok (.complex .f64 (FL.fI (a - c)) (FL.fI (b - d))) w := by
  refine run_complex_sum w .sub (.inr rfl) t .f64 _ _ _ _ _ _ ?_
  have e1 : floatBits .sub .f64 (FL.fI a) (FL.fI c) = some (FL.fI (a - c)) := FL.sub_fI a c ha hc h1
  have e2 : floatBits .sub .f64 (FL.fI b) (FL.fI d) = some (FL.fI (b - d)) := FL.sub_fI b d hb hd h2
  simp [cSumBits, e1, e2]
theorem run_fsub {P : Program} (t : TypeId) (a c : Int) (w : World) (ha : W53 a) (hc : W53 c) (h1 : W53 (a - c)) :
    (binOp .sub t (.float .f64 (FL.fI a)) (.float .f64 (FL.fI c))).run P w = .ok (.float .f64 (FL.fI (a - c))) w :=
  run_float_arith w .sub t .f64 _ _ _ (FL.sub_fI a c ha hc h1)
theorem ford (a b : Int) (ha : W53 a) (hb : W53 b) : FloatKind.f64.format.order (FL.fI a) (FL.fI b) = some (compare a b) := FL.order_fI a b ha hb
theorem ford_le (a b : Int) (ha : W53 a) (hb : W53 b) : (FloatKind.f64.format.order (FL.fI a) (FL.fI b) == some .lt || FloatKind.f64.format.order (FL.fI a) (FL.fI b) == some .eq) = decide (a ≤ b) := by
  rw [ford a b ha hb]
  rcases Int.lt_trichotomy a b with q | q | q
  · rw [Int.compare_eq_lt.2 q, decide_eq_true (by omega)]; rfl
  · rw [Int.compare_eq_eq.2 q, decide_eq_true (by omega)]; rfl
  · rw [Int.compare_eq_gt.2 q, decide_eq_false (by omega)]; rfl
theorem ford_gt (a b : Int) (ha : W53 a) (hb : W53 b) : (FloatKind.f64.format.order (FL.fI a) (FL.fI b) == some .gt) = decide (b < a) := by
  rw [ford a b ha hb]
  rcases Int.lt_trichotomy a b with q | q | q
  · rw [Int.compare_eq_lt.2 q, decide_eq_false (by omega)]; rfl
  · rw [Int.compare_eq_eq.2 q, decide_eq_false (by omega)]; rfl
  · rw [Int.compare_eq_gt.2 q, decide_eq_true (by omega)]; rfl
theorem run_fmax {P : Program} (ts : Array TypeId) (t : TypeId) (a b : Int) (w : World) (ha : W53 a) (hb : W53 b) :
    (Builtin.max_ ts t #[.float .f64 (FL.fI a), .float .f64 (FL.fI b)]).run P w = .ok (.float .f64 (FL.fI (max a b))) w := by
  have e := ford a b ha hb
  have hm : (Builtin.max2 (.float .f64 (FL.fI a)) (.float .f64 (FL.fI b))).run P w = .ok (.float .f64 (FL.fI (max a b))) w := by
    unfold Builtin.max2
    simp only [e]
    rcases Int.lt_trichotomy a b with q | q | q
    · rw [Int.compare_eq_lt.2 q, Int.max_eq_right (by omega)]; rfl
    · subst q
      rw [Int.compare_eq_eq.2 rfl, Int.max_self]
      simp only [ite_self]
      rfl
    · rw [Int.compare_eq_gt.2 q, Int.max_eq_left (by omega)]; rfl
  unfold Builtin.max_
  simp only [List.foldlM]
  simp [hm]
theorem ordN_ge (n : Nat) (h : n < 9007199254740992) : (FloatKind.f64.format.order (FL.fB n) 0 == some .gt || FloatKind.f64.format.order (FL.fB n) 0 == some .eq) = true := by
  have e := FL.order_fB n 0 h (by omega)
  rw [FL.fB_zero] at e
  show (Ieee.double.order (FL.fB n) 0 == some .gt || Ieee.double.order (FL.fB n) 0 == some .eq) = true
  rw [e]
  rcases Nat.eq_zero_or_pos n with rfl | hp
  · rfl
  · rw [Nat.compare_eq_gt.2 hp]; rfl
theorem ordN_no (n : Nat) (h : n < 9007199254740992) (hg : 1099511627776 < n) : (FloatKind.f64.format.order (FL.fB n) 4787326403894837248 == some .lt || FloatKind.f64.format.order (FL.fB n) 4787326403894837248 == some .eq) = false := by
  have e := FL.order_fB n 1099511627776 h (by omega)
  rw [FL.fB_top] at e
  show (Ieee.double.order (FL.fB n) 4787326403894837248 == some .lt || Ieee.double.order (FL.fB n) 4787326403894837248 == some .eq) = false
  rw [e, Nat.compare_eq_gt.2 hg]; rfl
/-- pair.part. -/
theorem partQ_any (n : Nat) (w : World) (h : n < 9007199254740992) :
    Calls Tryz.prog 139 #[.float .f64 (FL.fB n)] w fun e w' => e = .returned (.bool (decide (n ≤ 1099511627776))) ∧ w = w' := by
  by_cases hle : n ≤ 1099511627776
  · rw [decide_eq_true hle]; exact part_any n w hle
  · rw [decide_eq_false hle]
    have h1 := ordN_ge n h
    have h2 := ordN_no n h (by omega)
    clear hle h
    generalize FL.fB n = b at *
    go_enter Tryz.func139, Tryz.ntmps139
    go_wp2
    go_ret
    exact ⟨rfl, rfl⟩
/-- pair.May. -/
theorem mayQ_any (a b : Nat) (w : World) (ha : a < 9007199254740992) (hb : b < 9007199254740992) :
    Calls Tryz.prog 97 #[.complex .f64 (FL.fB a) (FL.fB b)] w fun e w' => e = .returned (.bool (decide (a ≤ 1099511627776 ∧ b ≤ 1099511627776))) ∧ w = w' := by
  have HA := Lib.hid (partQ_any a w ha)
  have HB := Lib.hid (partQ_any b w hb)
  clear ha hb
  generalize FL.fB a = x at *
  generalize FL.fB b = y at *
  by_cases h1 : a ≤ 1099511627776
  · rw [decide_eq_true h1] at HA
    have hd : decide (a ≤ 1099511627776 ∧ b ≤ 1099511627776) = decide (b ≤ 1099511627776) := by simp [h1]
    rw [hd]
    generalize decide (b ≤ 1099511627776) = q at *
    clear h1 hd
    go_enter Tryz.func97, Tryz.ntmps97
    go_wp2_with fail
    refine HA.out.mono ?_
    rintro e w1 ⟨rfl, rfl⟩
    go_wp2_with fail
    refine HB.out.mono ?_
    rintro e w1 ⟨rfl, rfl⟩
    go_wp2
    go_ret
    exact ⟨rfl, rfl⟩
  · rw [decide_eq_false h1] at HA
    have hd : decide (a ≤ 1099511627776 ∧ b ≤ 1099511627776) = false := by simp [h1]
    rw [hd]
    clear h1 hd HB
    go_enter Tryz.func97, Tryz.ntmps97
    go_wp2_with fail
    refine HA.out.mono ?_
    rintro e w1 ⟨rfl, rfl⟩
    go_wp2
    go_ret
    exact ⟨rfl, rfl⟩
/-- The document's part. -/
theorem rpartQ_any (n : Nat) (w : World) (h : n < 9007199254740992) :
    Calls Tryz.prog 145 #[.float .f64 (FL.fB n)] w fun e w' => e = .returned (.bool (decide (n ≤ 1099511627776))) ∧ w = w' := by
  have h1 := ordN_ge n h
  by_cases hle : n ≤ 1099511627776
  · rw [decide_eq_true hle]
    have h2 := ord_le n hle
    have h3 := ord_self n hle
    have HS := Lib.hid (signbit_any n w hle)
    have c1 := run_toInt n w hle
    have c2 : floatOfInt .f64 (n : Int) = FL.fB n := rfl
    clear h hle
    generalize FL.fB n = b at *
    go_enter Tryz.func145, Tryz.ntmps145
    go_wp2_with fail
    refine HS.out.mono ?_
    rintro e w1 ⟨rfl, rfl⟩
    go_wp2
    go_ret
    exact ⟨rfl, rfl⟩
  · rw [decide_eq_false hle]
    have h2 := ordN_no n h (by omega)
    clear hle h
    generalize FL.fB n = b at *
    go_enter Tryz.func145, Tryz.ntmps145
    go_wp2
    go_ret
    exact ⟨rfl, rfl⟩
/-- The document's May. -/
theorem rmayQ_any (a b : Nat) (w : World) (ha : a < 9007199254740992) (hb : b < 9007199254740992) :
    Calls Tryz.prog 109 #[.complex .f64 (FL.fB a) (FL.fB b)] w fun e w' => e = .returned (.bool (decide (a ≤ 1099511627776 ∧ b ≤ 1099511627776))) ∧ w = w' := by
  have HA := Lib.hid (rpartQ_any a w ha)
  have HB := Lib.hid (rpartQ_any b w hb)
  clear ha hb
  generalize FL.fB a = x at *
  generalize FL.fB b = y at *
  by_cases h1 : a ≤ 1099511627776
  · rw [decide_eq_true h1] at HA
    have hd : decide (a ≤ 1099511627776 ∧ b ≤ 1099511627776) = decide (b ≤ 1099511627776) := by simp [h1]
    rw [hd]
    generalize decide (b ≤ 1099511627776) = q at *
    clear h1 hd
    go_enter Tryz.func109, Tryz.ntmps109
    go_wp2_with fail
    refine HA.out.mono ?_
    rintro e w1 ⟨rfl, rfl⟩
    go_wp2_with fail
    refine HB.out.mono ?_
    rintro e w1 ⟨rfl, rfl⟩
    go_wp2
    go_ret
    exact ⟨rfl, rfl⟩
  · rw [decide_eq_false h1] at HA
    have hd : decide (a ≤ 1099511627776 ∧ b ≤ 1099511627776) = false := by simp [h1]
    rw [hd]
    clear h1 hd HB
    go_enter Tryz.func109, Tryz.ntmps109
    go_wp2_with fail
    refine HA.out.mono ?_
    rintro e w1 ⟨rfl, rfl⟩
    go_wp2
    go_ret
    exact ⟨rfl, rfl⟩
/-- A reader and a value. -/
def RVx (w w' : World) (v : Ending) (x : Value) (l : List UInt8) (k : Nat) : Prop :=
  (∃ a n c, v = .returned (.tuple #[.agg #[.slice a n c, .int .i64 (k : Nat)], x]) ∧ l.length = n ∧ IsB w' (.slice a n c) l) ∧ Below w.heap.size w w'
/-- What is read is stored into a box. -/
def put2q (W : World) (B : Nat) (a : Option Addr) (n c k : Nat) : World := (W.setCell ⟨B, 0, none⟩ (.slice a n c)).setCell ⟨B, 1, none⟩ (.int .i64 k)
theorem put2q_fr (X : Nat → Prop) (W : World) (B : Nat) (hX : X B) (a : Option Addr) (n c k : Nat) : Fr X W (put2q W B a n c k) := by
  unfold put2q
  exact Fr.setCell (X := X) (Fr.setCell (X := X) (Fr.refl _ _) (fun _ => hX) _) (fun _ => hX) _
/-- Bytes read on while two boxes of readers turn. -/
theorem two_boxes {w1 W : World} {B : Nat} {x0 y0 x1 y1 : Value} {t : TypeId} (g1 : w1.heap[B]? = some (.cells #[x0, y0] t)) (g2 : w1.heap[B + 1]? = some (.cells #[x1, y1] t))
    (h0 : ∀ n, x0 ≠ .int .u8 n) (h1 : ∀ n, y0 ≠ .int .u8 n) (h2 : ∀ n, x1 ≠ .int .u8 n) (h3 : ∀ n, y1 ≠ .int .u8 n)
    (f : Fr (fun j => j = B ∨ j = B + 1) w1 W) {v : Value} {m : List UInt8} (h : IsB w1 v m) : IsB W v m := by
  by_cases hl : m = []
  · subst hl; exact h.empty
  · refine h.kept f (fun b hb e => ?_)
    rcases e with e | e
    · exact h.apart2 g1 h0 h1 hl (by rw [hb, e])
    · exact h.apart2 g2 h2 h3 hl (by rw [hb, e])
set_option maxRecDepth 100000 in
set_option maxHeartbeats 4000000 in
/-- ReadText. -/
theorem rtext_any (a : Option Addr) (n c k : Nat) (l : List UInt8) (most : Int) (w : World) (hn : l.length = n) (hv : IsB w (.slice a n c) l) (hm : 0 ≤ most) (hm2 : most ≤ 4611686018427387904) (hl47 : l.length ≤ roomB) :
    Calls Tryz.prog 105 #[.agg #[.slice a n c, .int .i64 (k : Nat)], .int .i64 most] w fun v w' => RVx w w' v (.string (str (PK.runP 116 most l k).1)) (PK.runP 116 most l k).2.1 (PK.runP 116 most l k).2.2 := by
  subst hn
  have HR := Lib.hid (fun W (h : IsB W (.slice a l.length c) l) => rrun_any a c k l 116 116 most W h rfl hm hm2 hl47)
  have Hv := Lib.hid hv
  clear hv hm hm2 hl47
  generalize PK.runP 116 most l k = R at *
  obtain ⟨d, l1, k1⟩ := R
  simp only at HR ⊢
  go_enter Tryz.func105, Tryz.ntmps105
  go_wp2_with fail
  refine (HR.out _ ((Hv.out.alloc _).alloc _)).mono ?_
  rintro v w1 ⟨⟨a1, c1, a2, c2, rfl, i1, i2⟩, b1⟩
  simp only at i1 i2
  obtain ⟨g1, g2, bb⟩ := own2 b1
  obtain ⟨d0, d1, z0, z1⟩ := cells2 g1
  obtain ⟨p0, p1, q0, q1⟩ := cells2 g2
  have hM1 : w.heap.size + 1 < w1.heap.size := (Array.getElem?_eq_some_iff.1 g2).1
  obtain ⟨Vb, hV⟩ : ∃ Vb, Vb = put2q w1 w.heap.size a1 l1.length c1 k1 := ⟨_, rfl⟩
  have fV : Fr (fun j => j = w.heap.size ∨ j = w.heap.size + 1) w1 Vb := by rw [hV]; exact put2q_fr _ _ _ (.inl rfl) _ _ _ _
  have iV := two_boxes g1 g2 (by simp) (by simp) (by simp) (by simp) fV i1
  have jV := two_boxes g1 g2 (by simp) (by simp) (by simp) (by simp) fV i2
  have gV1 : Vb.heap[w.heap.size]? = some (.cells #[.slice a1 l1.length c1, .int .i64 k1] 80) := by rw [hV]; exact stored2 g1 _ _
  have gV2 := (show Vb.heap[w.heap.size + 1]? = w1.heap[w.heap.size + 1]? by rw [hV]; exact stored2_other _ _ (by omega)).trans g2
  have bV : Below w.heap.size w Vb := bb.trans ⟨fV.os, fV.tape, fV.output, fV.size, fun q hq => fV.block q (by omega) (by omega)⟩
  have hVlt : w.heap.size + 1 < Vb.heap.size := (Array.getElem?_eq_some_iff.1 gV2).1
  have HVs : Hid ((w1.setCell ⟨w.heap.size, 0, none⟩ (.slice a1 l1.length c1)).setCell ⟨w.heap.size, 1, none⟩ (.int .i64 k1) = Vb) := hV.symm
  clear b1 HR hV fV bb i1 i2 g1 g2 hM1 Hv
  have keep : ∀ {V' : World}, Fr (fun j => j = w.heap.size + 1) Vb V' → ∀ {v : Value} {m : List UInt8}, IsB Vb v m → IsB V' v m := fun {V'} f {v} {m} h => by
    by_cases hl : m = []
    · subst hl; exact h.empty
    · exact h.kept f (fun b hb e => h.apart2 gV2 (by simp) (by simp) hl (by rw [hb, e]))
  have econv : ∀ V' : World, Hid (Fr (fun j => j = w.heap.size + 1) Vb V') → (convert 22 9 (.slice a2 d.length c2)).run Tryz.prog V' = .ok (.string (str d)) V' := fun V' h => run_toStr T22 U9 (keep h.out jV)
  obtain ⟨v0, v1, _, _⟩ := cells2 gV1
  have cont : Hid (∀ V', Fr (fun j => j = w.heap.size + 1) Vb V' → (Hid (Fr (fun j => j = w.heap.size + 1) Vb V') ∧ V'.cell? ⟨w.heap.size, 0, none⟩ = some (.slice a1 l1.length c1) ∧ V'.cell? ⟨w.heap.size, 1, none⟩ = some (.int .i64 k1))) := fun V' f => ⟨Lib.hid f, (World.cell?_of_block (a := ⟨w.heap.size, 0, none⟩) (f.block w.heap.size (by omega) (by omega))).trans v0, (World.cell?_of_block (a := ⟨w.heap.size, 1, none⟩) (f.block w.heap.size (by omega) (by omega))).trans v1⟩
  have S0 := cont.out Vb.drew (Fr.refl _ _).drew
  obtain ⟨W, hW⟩ : ∃ W, W = put2q Vb.drew (w.heap.size + 1) a1 l1.length c1 k1 := ⟨_, rfl⟩
  have fW : Fr (fun j => j = w.heap.size + 1) Vb W := by rw [hW]; exact Fr.trans (Fr.refl _ _).drew (put2q_fr (fun j => j = w.heap.size + 1) Vb.drew _ rfl _ _ _ _)
  have SW := cont.out W fW
  rw [hW] at SW
  have TW : (Hid (Fr (fun j => j = w.heap.size + 1) Vb ((Vb.setCell ⟨w.heap.size + 1, 0, none⟩ (.slice a1 l1.length c1)).setCell ⟨w.heap.size + 1, 1, none⟩ (.int .i64 k1)).drew) ∧ ((Vb.setCell ⟨w.heap.size + 1, 0, none⟩ (.slice a1 l1.length c1)).setCell ⟨w.heap.size + 1, 1, none⟩ (.int .i64 k1)).drew.cell? ⟨w.heap.size, 0, none⟩ = some (.slice a1 l1.length c1) ∧ ((Vb.setCell ⟨w.heap.size + 1, 0, none⟩ (.slice a1 l1.length c1)).setCell ⟨w.heap.size + 1, 1, none⟩ (.int .i64 k1)).drew.cell? ⟨w.heap.size, 1, none⟩ = some (.int .i64 k1)) := SW
  have eW : W.heap[w.heap.size + 1]? = some (.cells #[.slice a1 l1.length c1, .int .i64 k1] 80) := by rw [hW]; exact stored2 gV2 _ _
  have iW : IsB W (.slice a1 l1.length c1) l1 := keep fW iV
  have bW : Below w.heap.size w W := bV.trans ⟨fW.os, fW.tape, fW.output, fW.size, fun q hq => fW.block q (by omega) (by omega)⟩
  have Fin : Hid (RVx w W (.returned (.tuple #[.agg #[.slice a1 l1.length c1, .int .i64 k1], .string (str d)])) (.string (str d)) l1 k1) := ⟨⟨a1, _, c1, rfl, rfl, iW⟩, bW⟩
  have EW := Lib.hid (cells2 eW)
  have HWs : Hid (((Vb.setCell ⟨w.heap.size + 1, 0, none⟩ (.slice a1 l1.length c1)).setCell ⟨w.heap.size + 1, 1, none⟩ (.int .i64 k1)).drew = W) := hW.symm
  go_wp2_with (rw [HVs.out])
  clear p0 p1 q0 q1 d0 d1 z0 z1
  obtain ⟨p0, p1, q0, q1⟩ := cells2 (show Vb.drew.heap[w.heap.size + 1]? = _ from gV2)
  obtain ⟨p2, p3, q2, q3⟩ := cells2 gV2
  clear HVs hW fW SW cont eW iW bW bV iV jV keep hVlt gV1 gV2 v0 v1
  refine wp_region_noPanic ?_
  refine wp_region_held_drew (S := fun V => (Hid (Fr (fun j => j = w.heap.size + 1) Vb V) ∧ V.cell? ⟨w.heap.size, 0, none⟩ = some (.slice a1 l1.length c1) ∧ V.cell? ⟨w.heap.size, 1, none⟩ = some (.int .i64 k1))) (by kernel_rfl) S0 (fun hHeld => ?_)
  refine rTk 0 ?_; try simp only [Act.put, rP1, rP2, rP3]
  refine rTk 1 ?_; try simp only [Act.put, rP1, rP2, rP3]
  refine rTk 2 ?_; try simp only [Act.put, rP1, rP2, rP3]
  refine rBr 3 fun K hK => ?_
  go_simp
  try (go_wp2_with fail)
  refine hK.out _ _ (by (try dsimp only); assumption) (fun hHeld => ?_)
  clear hK K
  try simp only [Act.put, rP1, rP2, rP3]
  refine rTk 4 ?_; try simp only [Act.put, rP1, rP2, rP3]
  refine wpAnyH_done (by kernel_rfl) ?_ _
  refine NoPanic.normal ?_
  go_wp2_with (rw [HWs.out]; obtain ⟨e0, e1, _⟩ := EW.out; refine bodyPost_ret (v := .tuple #[.agg #[.slice a1 l1.length c1, .int .i64 k1], .string (str d)]) (by simp [results, Tryz.results105, go_sem, e0, e1]) rfl ?_; exact Fin.out)
set_option maxRecDepth 100000 in
set_option maxHeartbeats 4000000 in
/-- An amount off what is read. -/
theorem rtakeA_any (a : Option Addr) (n c k : Nat) (l : List UInt8) (w : World) (hn : l.length = n) (hv : IsB w (.slice a n c) l) :
    Calls Tryz.prog 106 #[.agg #[.slice a n c, .int .i64 (k : Nat)]] w fun v w' => RVx w w' v (.complex .f64 (FL.fB (PK.uintP QT.cap l k).1) (FL.fB (PK.uintP QT.cap (PK.uintP QT.cap l k).2.1 (PK.uintP QT.cap l k).2.2).1))
      (PK.uintP QT.cap (PK.uintP QT.cap l k).2.1 (PK.uintP QT.cap l k).2.2).2.1 (PK.uintP QT.cap (PK.uintP QT.cap l k).2.1 (PK.uintP QT.cap l k).2.2).2.2 := by
  subst hn
  have HU := Lib.hid (fun W (h : IsB W (.slice a l.length c) l) => rreadUint_any a c k 1099511627776 l W h)
  have HU2 := Lib.hid (fun (a : Option Addr) (c : Nat) W (h : IsB W (.slice a (PK.uintP 1099511627776 l k).2.1.length c) (PK.uintP 1099511627776 l k).2.1) => rreadUint_any a c (PK.uintP 1099511627776 l k).2.2 1099511627776 (PK.uintP 1099511627776 l k).2.1 W h)
  have Hv := Lib.hid hv
  clear hv
  show Calls _ _ _ _ fun v w' => RVx w w' v (.complex .f64 (FL.fB (PK.uintP 1099511627776 l k).1) (FL.fB (PK.uintP 1099511627776 (PK.uintP 1099511627776 l k).2.1 (PK.uintP 1099511627776 l k).2.2).1)) (PK.uintP 1099511627776 (PK.uintP 1099511627776 l k).2.1 (PK.uintP 1099511627776 l k).2.2).2.1 (PK.uintP 1099511627776 (PK.uintP 1099511627776 l k).2.1 (PK.uintP 1099511627776 l k).2.2).2.2
  generalize PK.uintP 1099511627776 l k = R at *
  obtain ⟨x, l1, k1⟩ := R
  simp only at HU HU2 ⊢
  generalize PK.uintP 1099511627776 l1 k1 = R at *
  obtain ⟨y, l2, k2⟩ := R
  simp only at HU2 ⊢
  have cx : floatOfInt .f64 (x : Int) = FL.fB x := rfl
  have cy : floatOfInt .f64 (y : Int) = FL.fB y := rfl
  go_enter Tryz.func106, Tryz.ntmps106
  go_wp2_with fail
  refine (HU.out _ ((Hv.out.alloc _).alloc _)).mono ?_
  rintro v w1 ⟨⟨a1, c1, rfl, i1⟩, b1⟩
  obtain ⟨g1, g2, bb⟩ := own2 b1
  obtain ⟨d0, d1, z0, z1⟩ := cells2 g1
  obtain ⟨p0, p1, q0, q1⟩ := cells2 g2
  have hM1 : w.heap.size + 1 < w1.heap.size := (Array.getElem?_eq_some_iff.1 g2).1
  obtain ⟨V, hV⟩ : ∃ V, V = put2q w1 w.heap.size a1 l1.length c1 k1 := ⟨_, rfl⟩
  have fV : Fr (fun j => j = w.heap.size ∨ j = w.heap.size + 1) w1 V := by rw [hV]; exact put2q_fr _ _ _ (.inl rfl) _ _ _ _
  have iV := Lib.hid (two_boxes g1 g2 (by simp) (by simp) (by simp) (by simp) fV i1)
  have GV1 : Hid (V.heap[w.heap.size]? = some (.cells #[.slice a1 l1.length c1, .int .i64 k1] 80)) := Lib.hid (by rw [hV]; exact stored2 g1 _ _)
  have GV2 := Lib.hid ((show V.heap[w.heap.size + 1]? = w1.heap[w.heap.size + 1]? by rw [hV]; exact stored2_other _ _ (by omega)).trans g2)
  have bV : Hid (Below w.heap.size w V) := Lib.hid (bb.trans ⟨fV.os, fV.tape, fV.output, fV.size, fun q hq => fV.block q (by omega) (by omega)⟩)
  have HVs : Hid ((w1.setCell ⟨w.heap.size, 0, none⟩ (.slice a1 l1.length c1)).setCell ⟨w.heap.size, 1, none⟩ (.int .i64 k1) = V) := hV.symm
  clear b1 HU hV fV bb i1 hM1 Hv
  obtain ⟨v0, v1, u0, u1⟩ := cells2 GV1.out
  go_wp2_with (rw [HVs.out])
  refine (HU2.out a1 c1 V iV.out).mono ?_
  rintro v w2 ⟨⟨a2, c2, rfl, i2⟩, b2⟩
  have g1 := (b2.block _ (Array.getElem?_eq_some_iff.1 GV1.out).1).trans GV1.out
  have g2 := (b2.block _ (Array.getElem?_eq_some_iff.1 GV2.out).1).trans GV2.out
  have bb : Below w.heap.size w w2 := bV.out.trans (b2.mono bV.out.size)
  clear p0 p1 q0 q1 d0 d1 z0 z1 v0 v1 u0 u1
  obtain ⟨d0, d1, z0, z1⟩ := cells2 g1
  obtain ⟨p0, p1, q0, q1⟩ := cells2 g2
  have hM1 : w.heap.size + 1 < w2.heap.size := (Array.getElem?_eq_some_iff.1 g2).1
  obtain ⟨W, hW⟩ : ∃ W, W = put2q (put2q w2 w.heap.size a2 l2.length c2 k2) (w.heap.size + 1) a2 l2.length c2 k2 := ⟨_, rfl⟩
  have fW : Fr (fun j => j = w.heap.size ∨ j = w.heap.size + 1) w2 W := by
    rw [hW]
    exact (put2q_fr _ _ _ (.inl rfl) _ _ _ _).trans (put2q_fr _ _ _ (.inr rfl) _ _ _ _)
  have eW : W.heap[w.heap.size + 1]? = some (.cells #[.slice a2 l2.length c2, .int .i64 k2] 80) := by
    rw [hW]
    exact stored2 ((stored2_other _ _ (by omega)).trans g2) _ _
  have iW : IsB W (.slice a2 l2.length c2) l2 := two_boxes g1 g2 (by simp) (by simp) (by simp) (by simp) fW i2
  have bW : Below w.heap.size w W := bb.trans ⟨fW.os, fW.tape, fW.output, fW.size, fun q hq => fW.block q (by omega) (by omega)⟩
  have Fin : Hid (RVx w W (.returned (.tuple #[.agg #[.slice a2 l2.length c2, .int .i64 k2], .complex .f64 (FL.fB x) (FL.fB y)])) (.complex .f64 (FL.fB x) (FL.fB y)) l2 k2) := ⟨⟨a2, _, c2, rfl, rfl, iW⟩, bW⟩
  have EW := Lib.hid (cells2 eW)
  have HWs : Hid ((((w2.setCell ⟨w.heap.size, 0, none⟩ (.slice a2 l2.length c2)).setCell ⟨w.heap.size, 1, none⟩ (.int .i64 k2)).setCell ⟨w.heap.size + 1, 0, none⟩ (.slice a2 l2.length c2)).setCell ⟨w.heap.size + 1, 1, none⟩ (.int .i64 k2) = W) := hW.symm
  clear HU2 HVs GV1 GV2 bV iV b2 hW fW eW iW bW bb i2 g1 g2 hM1
  go_wp2_with (rw [HWs.out]; obtain ⟨e0, e1, _⟩ := EW.out; refine bodyPost_ret (v := .tuple #[.agg #[.slice a2 l2.length c2, .int .i64 k2], .complex .f64 (FL.fB x) (FL.fB y)]) (by simp [results, Tryz.results106, go_sem, e0, e1]) rfl ?_; exact Fin.out)
theorem run_store_complex {P : Program} {w : World} {a : Addr} {m : Mode} (k : FloatKind) (x y : Nat) : (store a (.complex k x y) m).run P w = stored P w a (.complex k x y) m := run_store P w a _ m rfl
end Go.Proofs.YtkanjdijmdjbaaaGreatDoor
