/-
  pair's part, May, Of, Show and what they call, by contracts, at amounts (whole numbers from 0 to 2^40).
  Conditions: the listed variables read as listed ('Env').
-/
import Derived.Test.YtincbeipfgbfpaaDoorLib2
import Derived.Test.YtincbeipfgbfpaaDoorFloat
import Derived.Test.YtincbeipfgbfpaaDoorPairP
import Derived.Laws.FloatArith
import Derived.Laws.Cover3
namespace Go.Proofs.YtincbeipfgbfpaaDoor
open Go Go.RowKit

theorem ord_ge (n : Nat) (h : n ≤ 1099511627776) : (FloatKind.f64.format.order (FL.fB n) 0 == some .gt || FloatKind.f64.format.order (FL.fB n) 0 == some .eq) = true := by
  have e := FL.order_fB n 0 (by omega) (by omega)
  rw [FL.fB_zero] at e
  show (Ieee.double.order (FL.fB n) 0 == some .gt || Ieee.double.order (FL.fB n) 0 == some .eq) = true
  rw [e]
  rcases Nat.eq_zero_or_pos n with rfl | hp
  · rfl
  · rw [Nat.compare_eq_gt.2 hp]; rfl
theorem ord_le (n : Nat) (h : n ≤ 1099511627776) : (FloatKind.f64.format.order (FL.fB n) 4787326403894837248 == some .lt || FloatKind.f64.format.order (FL.fB n) 4787326403894837248 == some .eq) = true := by
  have e := FL.order_fB n 1099511627776 (by omega) (by omega)
  rw [FL.fB_top] at e
  show (Ieee.double.order (FL.fB n) 4787326403894837248 == some .lt || Ieee.double.order (FL.fB n) 4787326403894837248 == some .eq) = true
  rw [e]
  rcases Nat.lt_or_ge n 1099511627776 with hp | hp
  · rw [Nat.compare_eq_lt.2 hp]; rfl
  · obtain rfl : n = 1099511627776 := by omega
    rw [Nat.compare_eq_eq.2 rfl]; rfl
theorem ord_self (n : Nat) (h : n ≤ 1099511627776) : (FloatKind.f64.format.order (FL.fB n) (FL.fB n) == some .eq) = true := by
  have e := FL.order_fB n n (by omega) (by omega)
  show (Ieee.double.order (FL.fB n) (FL.fB n) == some .eq) = true
  rw [e, Nat.compare_eq_eq.2 rfl]; rfl

theorem toIntegral_eq (way : Ieee.Toward) (x : Nat) : Extern.MathFloor.toIntegral "math.archTrunc" way #[.float .f64 x] =
    (match FloatKind.f64.decode x with
    | .nan s t =>
      if FloatKind.f64.format.quiet t = t then pure (.float .f64 x) else do
      let kept ← choose (.extern "math.Floor,Ceil,Trunc,RoundToEven.signallingNaN kept" 2)
      pure (.float .f64 (if kept == 1 then x else FloatKind.f64.encode (.nan s (FloatKind.f64.format.quiet t))))
    | d => pure (.float .f64 (FloatKind.f64.encode (d.integral way)))) := rfl
/-- math.Trunc at a whole number. -/
theorem trunc_any (n : Nat) (w : World) (h : n ≤ 1099511627776) :
    Calls Tryd.prog 90 #[.float .f64 (FL.fB n)] w fun e w' => e = .returned (.float .f64 (FL.fB n)) ∧ w = w' := by
  have ht := FL.trunc_fB n (by omega)
  have hi := FL.integral_fB n (by omega)
  have hx : ∀ W : World, (Extern.MathFloor.toIntegral "math.archTrunc" .zero #[.float .f64 (FL.fB n)]).run Tryd.prog W = .ok (.float .f64 (FL.fB n)) W := by
    intro W
    rw [toIntegral_eq]
    cases hd : FloatKind.f64.decode (FL.fB n) with
    | nan s t =>
      have : Ieee.double.read (FL.fB n) = .nan s t := hd
      rw [this] at hi
      simp [Ieee.Datum.integral] at hi
    | number s m i => rw [hd] at ht; simp only [ht]; rfl
    | infinity s => rw [hd] at ht; simp only [ht]; rfl
  have h1 := @run_callFunc_extern Tryd.prog 104 _ (Extern.MathFloor.toIntegral "math.archTrunc" .zero) Tryd.func104 (by kernel_rfl) (by kernel_rfl) (by kernel_rfl) (by kernel_rfl)
  clear ht hi h
  generalize FL.fB n = b at *
  go_enter Tryd.func90, Tryd.ntmps90
  go_wp2_with fail
  go_ret
  exact ⟨rfl, rfl⟩
/-- math.Signbit at a whole number. -/
theorem signbit_any (n : Nat) (w : World) (h : n ≤ 1099511627776) :
    Calls Tryd.prog 91 #[.float .f64 (FL.fB n)] w fun e w' => e = .returned (.bool false) ∧ w = w' := by
  have hl := FL.fB_lt n (by omega)
  have h1 := @run_callFunc_extern Tryd.prog 106 _ Extern.MathFloatBits.float64bits Tryd.func106 (by kernel_rfl) (by kernel_rfl) (by kernel_rfl) (by kernel_rfl)
  have hx : ∀ (b : Nat) (W : World), (Extern.MathFloatBits.float64bits #[.float .f64 b]).run Tryd.prog W = .ok (.int .u64 b) W := fun _ _ => rfl
  have hw : IntKind.i64.wrap (FL.fB n : Int) = (FL.fB n : Int) := by rw [IntKind.wrap_i64]; omega
  have hn : ¬ ((FL.fB n : Int) < 0) := by omega
  clear hl h
  generalize FL.fB n = b at *
  go_enter Tryd.func91, Tryd.ntmps91
  go_wp2
  go_ret
  exact ⟨rfl, rfl⟩
/-- pair.part at a whole number. -/
theorem part_any (n : Nat) (w : World) (h : n ≤ 1099511627776) :
    Calls Tryd.prog 72 #[.float .f64 (FL.fB n)] w fun e w' => e = .returned (.bool true) ∧ w = w' := by
  have HT := Lib.hid (trunc_any n w h)
  have HS := Lib.hid (signbit_any n w h)
  have h1 := ord_ge n h
  have h2 := ord_le n h
  have h3 := ord_self n h
  clear h
  generalize FL.fB n = b at *
  go_enter Tryd.func72, Tryd.ntmps72
  go_wp2_with fail
  refine HT.out.mono ?_
  rintro e w1 ⟨rfl, rfl⟩
  go_wp2_with fail
  refine HS.out.mono ?_
  rintro e w1 ⟨rfl, rfl⟩
  go_wp2
  go_ret
  exact ⟨rfl, rfl⟩
/-- pair.May at an amount. -/
theorem may_any (a b : Nat) (w : World) (ha : a ≤ 1099511627776) (hb : b ≤ 1099511627776) :
    Calls Tryd.prog 57 #[.complex .f64 (FL.fB a) (FL.fB b)] w fun e w' => e = .returned (.bool true) ∧ w = w' := by
  have HA := Lib.hid (part_any a w ha)
  have HB := Lib.hid (part_any b w hb)
  clear ha hb
  generalize FL.fB a = x at *
  generalize FL.fB b = y at *
  go_enter Tryd.func57, Tryd.ntmps57
  go_wp2_with fail
  refine HA.out.mono ?_
  rintro e w1 ⟨rfl, rfl⟩
  go_wp2_with fail
  refine HB.out.mono ?_
  rintro e w1 ⟨rfl, rfl⟩
  go_wp2
  go_ret
  exact ⟨rfl, rfl⟩
/-- int(f) of a whole number. -/
theorem run_toInt (n : Nat) (w : World) (h : n ≤ 1099511627776) : (convert 100 3 (.float .f64 (FL.fB n))).run Tryd.prog w = .ok (.int .i64 n) w := by
  have ht := FL.toInt_fB n (by omega)
  refine run_convert_float_int w 100 3 .f64 .i64 (FL.fB n) n (by kernel_rfl) Tryd.underlying3 ?_
  unfold floatToIntVal
  rw [ht]
  simp only
  rw [if_pos]
  have e1 : IntKind.i64.min = -9223372036854775808 := by decide
  have e2 : IntKind.i64.max = 9223372036854775807 := by decide
  rw [e1, e2]
  omega
/-- pair.Show of an amount. -/
theorem show_any (a b : Nat) (w : World) (ha : a ≤ 1099511627776) (hb : b ≤ 1099511627776) (hE : Env w) :
    Calls Tryd.prog 28 #[.complex .f64 (FL.fB a) (FL.fB b)] w fun e w' => e = .returned (.string (str (Lib.decDigits a ++ 47 :: Lib.decDigits b))) ∧ Below w.heap.size w w' := by
  have HM := Lib.hid (may_any a b w ha hb)
  have c1 := fun w => run_toInt a w ha
  have c2 := fun w => run_toInt b w hb
  have HA := Lib.hid (itoa_any a w (by omega) (by omega) hE)
  rw [Lib.itoa_nonneg] at HA
  have HB : Hid (∀ w1, Below w.heap.size w w1 → Calls Tryd.prog 47 #[.int .i64 (b : Int)] w1 fun e w' => e = .returned (.string (str (Lib.decDigits b))) ∧ Below w.heap.size w w') := fun w1 b1 => by
    have := itoa_any b w1 (by omega) (by omega) (hE.below b1)
    rw [Lib.itoa_nonneg] at this
    exact this.mono fun e w' ⟨e1, e2⟩ => ⟨e1, b1.trans (e2.mono b1.size)⟩
  have hl1 := PK.dec_len 12 a (by omega)
  have hl2 := PK.dec_len 12 b (by omega)
  clear ha hb hE
  generalize FL.fB a = x at *
  generalize FL.fB b = y at *
  have e47 : (⟨#[47]⟩ : ByteArray) = str [47] := rfl
  have hz1 : ¬ (9223372036854775807 < (str (Lib.decDigits a)).size + 1) := by rw [str_size]; omega
  have hz2 : ¬ (9223372036854775807 < (str (Lib.decDigits a) ++ ⟨#[47]⟩).size + (str (Lib.decDigits b)).size) := by
    have h3 : (str (Lib.decDigits a) ++ ⟨#[47]⟩).size = (Lib.decDigits a).length + 1 := by
      rw [ByteArray.size_append, str_size]; rfl
    rw [h3, str_size]; omega
  have hfin : str (Lib.decDigits a) ++ ⟨#[47]⟩ ++ str (Lib.decDigits b) = str (Lib.decDigits a ++ 47 :: Lib.decDigits b) := by
    apply ByteArray.ext
    rw [ByteArray.data_append, ByteArray.data_append]
    simp [str]
  rw [← hfin]
  clear hfin e47 hl1 hl2
  generalize str (Lib.decDigits a) = sa at *
  generalize str (Lib.decDigits b) = sb at *
  go_enter Tryd.func28, Tryd.ntmps28
  go_wp2_with fail
  refine HM.out.mono ?_
  rintro e w1 ⟨rfl, rfl⟩
  go_wp2_with fail
  refine HA.out.mono ?_
  rintro e w1 ⟨rfl, b1⟩
  have HB1 := Lib.hid (HB.out w1 b1)
  clear HA HB HM b1
  go_wp2_with fail
  refine HB1.out.mono ?_
  rintro e w2 ⟨rfl, b2⟩
  have B2 := Lib.hid b2
  clear HB1 b2
  go_wp2
  go_ret
  exact ⟨rfl, B2.out⟩
end Go.Proofs.YtincbeipfgbfpaaDoor
