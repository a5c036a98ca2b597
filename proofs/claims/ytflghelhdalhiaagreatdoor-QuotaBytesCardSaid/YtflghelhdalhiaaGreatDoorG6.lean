/-
  Whole numbers up to 2^40 as floats of 64 bits, in plain Lean: what the nearest float of one is, reads as, and stands to others. No program; no condition beside the numbers' bound.
  pair's part and May, and what they call, by contracts, at amounts (turned out of XPair, without PairP's plain law, whose names meet MsgP's).
  Conditions: amounts (whole numbers from 0 to 2^40).
-/
import GoSem.Core.Float
import Derived.Test.YtflghelhdalhiaaGreatDoorG4
import Derived.Laws.FloatArith
import Derived.Laws.Cover3
namespace Go.Proofs.YtflghelhdalhiaaGreatDoor.FL
open Go Ieee

/-- A whole number's float. -/
def fB (n : Nat) : Nat := FloatKind.f64.nearest (n : Int)
theorem fB_eq (n : Nat) : fB n = double.nearest false n 0 := by
  unfold fB FloatKind.nearest FloatKind.encode Format.write
  have h : decide ((n : Int) < 0) = false := by simp
  simp [h, FloatKind.format]
theorem d_least : double.leastPlace = -1074 := by decide
theorem d_bin : double.binade = 4503599627370496 := by decide
theorem d_inf : double.infRung = 9218868437227405312 := by decide +kernel
theorem d_sign : double.signWeight = 9223372036854775808 := by decide +kernel
theorem d_frac : double.fractionBits = 52 := rfl
/-- Nothing is cut. -/
theorem cut_zero (n : Nat) : Toward.even.cut false n 0 = n := by
  have e : 1 <<< min 0 (n.log2 + 2) = 1 := by simp
  unfold Toward.cut
  simp only [e]
  have h1 : n % 1 = 0 := Nat.mod_one n
  have h2 : n / 1 = n := Nat.div_one n
  rw [h1, h2]
  simp
theorem pow_bounds (n : Nat) (h0 : 0 < n) (h : n < 9007199254740992) : n.log2 ≤ 52 ∧ 4503599627370496 ≤ n * 2 ^ (52 - n.log2) ∧ n * 2 ^ (52 - n.log2) < 9007199254740992 := by
  have hn : n ≠ 0 := by omega
  have h1 : 2 ^ n.log2 ≤ n := Nat.log2_self_le hn
  have h2 : n < 2 ^ (n.log2 + 1) := Nat.lt_log2_self
  have he : n.log2 ≤ 52 := by
    rcases Nat.lt_or_ge 52 n.log2 with q | q
    · have : 2 ^ 53 ≤ 2 ^ n.log2 := Nat.pow_le_pow_right (by decide) q
      have e : (2 : Nat) ^ 53 = 9007199254740992 := by decide
      omega
    · exact q
  have hp : 0 < 2 ^ (52 - n.log2) := Nat.pos_of_ne_zero (by simp)
  have e1 : 2 ^ n.log2 * 2 ^ (52 - n.log2) = 4503599627370496 := by
    rw [← Nat.pow_add, Nat.add_sub_cancel' he]
  have e2 : 2 ^ (n.log2 + 1) * 2 ^ (52 - n.log2) = 9007199254740992 := by
    rw [← Nat.pow_add, show n.log2 + 1 + (52 - n.log2) = 53 from by omega]
  refine ⟨he, ?_, ?_⟩
  · rw [← e1]; exact Nat.mul_le_mul_right _ h1
  · rw [← e2]; exact Nat.mul_lt_mul_of_pos_right h2 hp
theorem fB_pos (n : Nat) (h0 : 0 < n) (h : n < 9007199254740992) : fB n = (n.log2 + 1022) * 4503599627370496 + n * 2 ^ (52 - n.log2) := by
  obtain ⟨he, hM1, hM2⟩ := pow_bounds n h0 h
  rw [fB_eq]
  unfold Format.nearest
  rw [if_neg (by omega)]
  have hlast : max ((0 : Int) + (n.log2 : Int) - (double.fractionBits : Int)) double.leastPlace = (n.log2 : Int) - 52 := by
    rw [d_least, d_frac]; omega
  simp only [hlast]
  have e1 : ((0 : Int) - ((n.log2 : Int) - 52)).toNat = 52 - n.log2 := by omega
  have e2 : ((n.log2 : Int) - 52 - 0).toNat = 0 := by omega
  have e3 : ((n.log2 : Int) - 52 - double.leastPlace).toNat = n.log2 + 1022 := by rw [d_least]; omega
  rw [e1, e2, e3, cut_zero, Nat.shiftLeft_eq, d_bin, d_inf]
  unfold Format.word
  rw [if_neg (by simp)]
  rw [Nat.min_eq_left]
  omega
theorem fB_zero : fB 0 = 0 := by decide
theorem fB_lt (n : Nat) (h : n < 9007199254740992) : fB n < 9223372036854775808 := by
  rcases Nat.eq_zero_or_pos n with rfl | h0
  · rw [fB_zero]; omega
  · obtain ⟨he, hM1, hM2⟩ := pow_bounds n h0 h
    rw [fB_pos n h0 h]
    omega
/-- What a whole number's float reads as. -/
theorem read_fB (n : Nat) (h : n < 9007199254740992) : ∃ j : Nat, double.read (fB n) = .number false (n * 2 ^ j) (-(j : Int)) ∧ (n ≠ 0 → j ≤ 52) := by
  rcases Nat.eq_zero_or_pos n with rfl | h0
  · obtain ⟨k, hk⟩ : ∃ k : Nat, k = 1074 := ⟨_, rfl⟩
    refine ⟨k, ?_, fun h => absurd rfl h⟩
    rw [fB_zero, Nat.zero_mul, hk]
    decide +kernel
  · obtain ⟨he, hM1, hM2⟩ := pow_bounds n h0 h
    have hf := fB_pos n h0 h
    refine ⟨52 - n.log2, ?_, fun _ => by omega⟩
    have hlt := fB_lt n h
    generalize fB n = b at *
    generalize n * 2 ^ (52 - n.log2) = M at *
    unfold Format.read
    rw [d_sign, d_bin, d_inf, d_least]
    have e1 : b / 9223372036854775808 = 0 := by omega
    have e2 : b % 9223372036854775808 = b := by omega
    have e3 : b % 4503599627370496 = M - 4503599627370496 := by omega
    have e4 : b / 4503599627370496 = n.log2 + 1023 := by omega
    simp only [e1, e2, e3, e4]
    rw [if_neg (by omega), if_pos (by omega)]
    have e5 : 4503599627370496 + (M - 4503599627370496) = M := by omega
    have e6 : (-1074 : Int) + ((n.log2 + 1023 - 1 : Nat) : Int) = -((52 - n.log2 : Nat) : Int) := by omega
    rw [e5, e6]
    rfl
theorem signed_false (m u : Nat) : signed false m u = ((m * 2 ^ u : Nat) : Int) := by
  unfold signed
  rw [if_neg (by simp), Nat.shiftLeft_eq]
/-- Floats of whole numbers stand as these do. -/
theorem order_fB (a b : Nat) (ha : a < 9007199254740992) (hb : b < 9007199254740992) : double.order (fB a) (fB b) = some (compare a b) := by
  obtain ⟨i, hi, _⟩ := read_fB a ha
  obtain ⟨j, hj, _⟩ := read_fB b hb
  unfold Format.order
  rw [hi, hj]
  unfold Datum.order
  simp only
  have e1 : (-(i : Int) - min (-(i : Int)) (-(j : Int))).toNat = max i j - i := by omega
  have e2 : (-(j : Int) - min (-(i : Int)) (-(j : Int))).toNat = max i j - j := by omega
  rw [e1, e2, signed_false, signed_false, Nat.mul_assoc, Nat.mul_assoc, ← Nat.pow_add, ← Nat.pow_add, show i + (max i j - i) = max i j from by omega, show j + (max i j - j) = max i j from by omega]
  have hp : 0 < 2 ^ max i j := Nat.pos_of_ne_zero (by simp)
  generalize 2 ^ max i j = p at *
  congr 1
  show compareOfLessAndEq ((a * p : Nat) : Int) ((b * p : Nat) : Int) = compareOfLessAndEq a b
  unfold compareOfLessAndEq
  rcases Nat.lt_trichotomy a b with q | q | q
  · have h1 : a * p < b * p := Nat.mul_lt_mul_of_pos_right q hp
    rw [if_pos (by omega), if_pos q]
  · subst q
    simp
  · have h1 : b * p < a * p := Nat.mul_lt_mul_of_pos_right q hp
    rw [if_neg (by omega), if_neg (by omega), if_neg (by omega), if_neg (by omega)]
theorem integral_fB (n : Nat) (h : n < 9007199254740992) : (double.read (fB n)).integral .zero = .number false n 0 := by
  obtain ⟨j, hj, hj2⟩ := read_fB n h
  rw [hj]
  unfold Datum.integral
  simp only
  have e1 : (-(j : Int)).toNat = 0 := by omega
  have e2 : (- -(j : Int)).toNat = j := by omega
  rw [e1, e2, Nat.shiftLeft_zero]
  unfold Toward.cut
  simp only [Bool.toNat_false, Nat.add_zero]
  rcases Nat.eq_zero_or_pos n with rfl | h0
  · simp
  · have hj3 := hj2 (by omega)
    have hle : 2 ^ j ≤ n * 2 ^ j := Nat.le_mul_of_pos_left _ h0
    have hlog : j ≤ (n * 2 ^ j).log2 := (Nat.le_log2 (by have : 0 < 2 ^ j := Nat.pos_of_ne_zero (by simp); omega)).2 hle
    rw [Nat.min_eq_left (by omega), Nat.shiftLeft_eq, Nat.one_mul, Nat.mul_div_cancel _ (Nat.pos_of_ne_zero (by simp))]
/-- Cut to a whole number it is that number. -/
theorem toInt_fB (n : Nat) (h : n < 9007199254740992) : (FloatKind.f64.decode (fB n)).toInt .zero = some (n : Int) := by
  unfold FloatKind.decode FloatKind.format Datum.toInt
  rw [integral_fB n h]
  simp [signed_false]
/-- It is whole. -/
theorem trunc_fB (n : Nat) (h : n < 9007199254740992) : FloatKind.f64.encode ((FloatKind.f64.decode (fB n)).integral .zero) = fB n := by
  unfold FloatKind.decode FloatKind.encode FloatKind.format
  rw [integral_fB n h, fB_eq]
  rfl
theorem fB_top : fB 1099511627776 = 4787326403894837248 := by decide +kernel
end Go.Proofs.YtflghelhdalhiaaGreatDoor.FL

namespace Go.Proofs.YtflghelhdalhiaaGreatDoor
open Go Go.RowKit

theorem ord_ge (n : Nat) (h : n ≤ 1099511627776) : (FloatKind.f64.format.order (FL.fB n) 0 == some .gt || FloatKind.f64.format.order (FL.fB n) 0 == some .eq) = true := by
  have e := FL.order_fB n 0 (by omega) (by omega)
  rw [FL.fB_zero] at e
  show (Ieee.double.order (FL.fB n) 0 == some .gt || Ieee.double.order (FL.fB n) 0 == some .eq) = true
  rw [e]
  rcases Nat.eq_zero_or_pos n with rfl | hp
  · rfl
  · rw [Nat.compare_eq_gt.2 hp]; rfl
theorem ord_le (n : Nat) (h : n ≤ 1099511627776) : (FloatKind.f64.format.order (FL.fB n) 4787326403894837248 == some .lt || FloatKind.f64.format.order (FL.fB n) 4787326403894837248 == some .eq) = true := by
  have e := FL.order_fB n 1099511627776 (by omega) (by omega)
  rw [FL.fB_top] at e
  show (Ieee.double.order (FL.fB n) 4787326403894837248 == some .lt || Ieee.double.order (FL.fB n) 4787326403894837248 == some .eq) = true
  rw [e]
  rcases Nat.lt_or_ge n 1099511627776 with hp | hp
  · rw [Nat.compare_eq_lt.2 hp]; rfl
  · obtain rfl : n = 1099511627776 := by omega
    rw [Nat.compare_eq_eq.2 rfl]; rfl
theorem ord_self (n : Nat) (h : n ≤ 1099511627776) : (FloatKind.f64.format.order (FL.fB n) (FL.fB n) == some .eq) = true := by
  have e := FL.order_fB n n (by omega) (by omega)
  show (Ieee.double.order (FL.fB n) (FL.fB n) == some .eq) = true
  rw [e, Nat.compare_eq_eq.2 rfl]; rfl

theorem toIntegral_eq (way : Ieee.Toward) (x : Nat) : Extern.MathFloor.toIntegral "math.archTrunc" way #[.float .f64 x] =
    (match FloatKind.f64.decode x with
    | .nan s t =>
      if FloatKind.f64.format.quiet t = t then pure (.float .f64 x) else do
      let kept ← choose (.extern "math.Floor,Ceil,Trunc,RoundToEven.signallingNaN kept" 2)
      pure (.float .f64 (if kept == 1 then x else FloatKind.f64.encode (.nan s (FloatKind.f64.format.quiet t))))
    | d => pure (.float .f64 (FloatKind.f64.encode (d.integral way)))) := rfl
/-- math.Trunc at a whole number. -/
theorem trunc_any (n : Nat) (w : World) (h : n ≤ 1099511627776) :
    Calls Tryz.prog 94 #[.float .f64 (FL.fB n)] w fun e w' => e = .returned (.float .f64 (FL.fB n)) ∧ w = w' := by
  have ht := FL.trunc_fB n (by omega)
  have hi := FL.integral_fB n (by omega)
  have hx : ∀ W : World, (Extern.MathFloor.toIntegral "math.archTrunc" .zero #[.float .f64 (FL.fB n)]).run Tryz.prog W = .ok (.float .f64 (FL.fB n)) W := by
    intro W
    rw [toIntegral_eq]
    cases hd : FloatKind.f64.decode (FL.fB n) with
    | nan s t =>
      have : Ieee.double.read (FL.fB n) = .nan s t := hd
      rw [this] at hi
      simp [Ieee.Datum.integral] at hi
    | number s m i => rw [hd] at ht; simp only [ht]; rfl
    | infinity s => rw [hd] at ht; simp only [ht]; rfl
  have h1 := @run_callFunc_extern Tryz.prog 109 _ (Extern.MathFloor.toIntegral "math.archTrunc" .zero) Tryz.func109 (by kernel_rfl) (by kernel_rfl) (by kernel_rfl) (by kernel_rfl)
  clear ht hi h
  generalize FL.fB n = b at *
  go_enter Tryz.func94, Tryz.ntmps94
  go_wp2_with fail
  go_ret
  exact ⟨rfl, rfl⟩
/-- math.Signbit at a whole number. -/
theorem signbit_any (n : Nat) (w : World) (h : n ≤ 1099511627776) :
    Calls Tryz.prog 95 #[.float .f64 (FL.fB n)] w fun e w' => e = .returned (.bool false) ∧ w = w' := by
  have hl := FL.fB_lt n (by omega)
  have h1 := @run_callFunc_extern Tryz.prog 111 _ Extern.MathFloatBits.float64bits Tryz.func111 (by kernel_rfl) (by kernel_rfl) (by kernel_rfl) (by kernel_rfl)
  have hx : ∀ (b : Nat) (W : World), (Extern.MathFloatBits.float64bits #[.float .f64 b]).run Tryz.prog W = .ok (.int .u64 b) W := fun _ _ => rfl
  have hw : IntKind.i64.wrap (FL.fB n : Int) = (FL.fB n : Int) := by rw [IntKind.wrap_i64]; omega
  have hn : ¬ ((FL.fB n : Int) < 0) := by omega
  clear hl h
  generalize FL.fB n = b at *
  go_enter Tryz.func95, Tryz.ntmps95
  go_wp2
  go_ret
  exact ⟨rfl, rfl⟩
/-- pair.part at a whole number. -/
theorem part_any (n : Nat) (w : World) (h : n ≤ 1099511627776) :
    Calls Tryz.prog 74 #[.float .f64 (FL.fB n)] w fun e w' => e = .returned (.bool true) ∧ w = w' := by
  have HT := Lib.hid (trunc_any n w h)
  have HS := Lib.hid (signbit_any n w h)
  have h1 := ord_ge n h
  have h2 := ord_le n h
  have h3 := ord_self n h
  clear h
  generalize FL.fB n = b at *
  go_enter Tryz.func74, Tryz.ntmps74
  go_wp2_with fail
  refine HT.out.mono ?_
  rintro e w1 ⟨rfl, rfl⟩
  go_wp2_with fail
  refine HS.out.mono ?_
  rintro e w1 ⟨rfl, rfl⟩
  go_wp2
  go_ret
  exact ⟨rfl, rfl⟩
/-- pair.May at an amount. -/
theorem may_any (a b : Nat) (w : World) (ha : a ≤ 1099511627776) (hb : b ≤ 1099511627776) :
    Calls Tryz.prog 41 #[.complex .f64 (FL.fB a) (FL.fB b)] w fun e w' => e = .returned (.bool true) ∧ w = w' := by
  have HA := Lib.hid (part_any a w ha)
  have HB := Lib.hid (part_any b w hb)
  clear ha hb
  generalize FL.fB a = x at *
  generalize FL.fB b = y at *
  go_enter Tryz.func41, Tryz.ntmps41
  go_wp2_with fail
  refine HA.out.mono ?_
  rintro e w1 ⟨rfl, rfl⟩
  go_wp2_with fail
  refine HB.out.mono ?_
  rintro e w1 ⟨rfl, rfl⟩
  go_wp2
  go_ret
  exact ⟨rfl, rfl⟩
/-- int(f) of a whole number. -/
theorem run_toInt (n : Nat) (w : World) (h : n ≤ 1099511627776) : (convert 53 3 (.float .f64 (FL.fB n))).run Tryz.prog w = .ok (.int .i64 n) w := by
  have ht := FL.toInt_fB n (by omega)
  refine run_convert_float_int w 53 3 .f64 .i64 (FL.fB n) n (by kernel_rfl) Tryz.underlying3 ?_
  unfold floatToIntVal
  rw [ht]
  simp only
  rw [if_pos]
  have e1 : IntKind.i64.min = -9223372036854775808 := by decide
  have e2 : IntKind.i64.max = 9223372036854775807 := by decide
  rw [e1, e2]
  omega
end Go.Proofs.YtflghelhdalhiaaGreatDoor
