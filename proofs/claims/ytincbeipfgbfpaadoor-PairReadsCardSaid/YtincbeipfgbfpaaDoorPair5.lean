/-
  tollbarlaw05's sure and PairReads, by contracts: both answer true.
  Conditions: the listed variables read as listed ('Env'); the text is at most 2^47 bytes long.
-/
import Derived.Test.YtincbeipfgbfpaaDoorPair4
import Derived.Laws.ComplexArith
namespace Go.Proofs.YtincbeipfgbfpaaDoor
open Go Go.RowKit

theorem b1 : FL.fB 1 = 4607182418800017408 := by decide +kernel
theorem b3 : FL.fB 3 = 4613937818241073152 := by decide +kernel
theorem b4 : FL.fB 4 = 4616189618054758400 := by decide +kernel
theorem b5 : FL.fB 5 = 4617315517961601024 := by decide +kernel
theorem may34 (w : World) : Calls Tryd.prog 57 #[.complex .f64 4613937818241073152 4616189618054758400] w fun e w' => e = .returned (.bool true) ∧ w = w' := by
  have := may_any 3 4 w (by omega) (by omega)
  rwa [b3, b4] at this
theorem may11 (w : World) : Calls Tryd.prog 57 #[.complex .f64 4607182418800017408 4607182418800017408] w fun e w' => e = .returned (.bool true) ∧ w = w' := by
  have := may_any 1 1 w (by omega) (by omega)
  rwa [b1] at this
theorem may45 (w : World) : Calls Tryd.prog 57 #[.complex .f64 4616189618054758400 4617315517961601024] w fun e w' => e = .returned (.bool true) ∧ w = w' := by
  have := may_any 4 5 w (by omega) (by omega)
  rwa [b4, b5] at this
theorem show45 (w : World) (hE : Env w) : Calls Tryd.prog 28 #[.complex .f64 4616189618054758400 4617315517961601024] w fun e w' => e = .returned (.string ⟨#[52, 47, 53]⟩) ∧ Below w.heap.size w w' := by
  have := show_any 4 5 w (by omega) (by omega) hE
  rw [b4, b5, Lib.decDigits_one (by decide), Lib.decDigits_one (by decide)] at this
  exact this
theorem ord_neg1 : (FloatKind.f64.format.order 13830554455654793216 0 == some .gt || FloatKind.f64.format.order 13830554455654793216 0 == some .eq) = false := by decide +kernel
theorem part_neg (w : World) : Calls Tryd.prog 72 #[.float .f64 13830554455654793216] w fun e w' => e = .returned (.bool false) ∧ w = w' := by
  have h := ord_neg1
  generalize 13830554455654793216 = b at *
  go_enter Tryd.func72, Tryd.ntmps72
  go_wp2
  go_ret
  exact ⟨rfl, rfl⟩
theorem may_neg (w : World) : Calls Tryd.prog 57 #[.complex .f64 13830554455654793216 0] w fun e w' => e = .returned (.bool false) ∧ w = w' := by
  have HP := Lib.hid (part_neg w)
  generalize 13830554455654793216 = b at *
  go_enter Tryd.func57, Tryd.ntmps57
  go_wp2_with fail
  refine HP.out.mono ?_
  rintro e w1 ⟨rfl, rfl⟩
  go_wp2
  go_ret
  exact ⟨rfl, rfl⟩
theorem both_sure (w : World) : Calls Tryd.prog 73 #[.complex .f64 4613937818241073152 4616189618054758400, .complex .f64 4607182418800017408 4607182418800017408] w fun e w' => e = .returned (.bool true) ∧ w = w' := by
  have H1 := Lib.hid (may34 w)
  have H2 := Lib.hid (may11 w)
  generalize 4613937818241073152 = x3 at *
  generalize 4616189618054758400 = x4 at *
  generalize 4607182418800017408 = x1 at *
  go_enter Tryd.func73, Tryd.ntmps73
  go_wp2_with fail
  refine H1.out.mono ?_
  rintro e w1 ⟨rfl, rfl⟩
  go_wp2_with fail
  refine H2.out.mono ?_
  rintro e w1 ⟨rfl, rfl⟩
  go_wp2
  go_ret
  exact ⟨rfl, rfl⟩
theorem sum_sure : cSumBits .add .f64 4613937818241073152 4616189618054758400 4607182418800017408 4607182418800017408 = some (4616189618054758400, 4617315517961601024) := by decide +kernel
theorem add_sure (w : World) : Calls Tryd.prog 58 #[.complex .f64 4613937818241073152 4616189618054758400, .complex .f64 4607182418800017408 4607182418800017408] w fun e w' => e = .returned (.tuple #[.complex .f64 4616189618054758400 4617315517961601024, .nilIface]) ∧ w = w' := by
  have H1 := Lib.hid (both_sure w)
  have H2 := Lib.hid (may45 w)
  have hs := fun w : World => run_complex_sum (P := Tryd.prog) w .add (.inl rfl) 50 .f64 _ _ _ _ _ _ sum_sure
  generalize 4613937818241073152 = x3 at *
  generalize 4616189618054758400 = x4 at *
  generalize 4607182418800017408 = x1 at *
  generalize 4617315517961601024 = x5 at *
  go_enter Tryd.func58, Tryd.ntmps58
  go_wp2_with fail
  refine H1.out.mono ?_
  rintro e w1 ⟨rfl, rfl⟩
  go_wp2_with fail
  refine H2.out.mono ?_
  rintro e w1 ⟨rfl, rfl⟩
  go_wp2
  go_ret2
  exact ⟨rfl, rfl⟩
theorem ord45 : ((FloatKind.f64.format.order 4616189618054758400 4616189618054758400 == some .eq) && (FloatKind.f64.format.order 4617315517961601024 4617315517961601024 == some .eq)) = true := by decide +kernel
set_option maxRecDepth 100000 in
set_option maxHeartbeats 1000000 in
/-- sure. -/
theorem sure5_any (w : World) (hE : Env w) : Calls Tryd.prog 29 #[] w fun e w' => e = .returned (.bool true) ∧ Below w.heap.size w w' := by
  have H1 := Lib.hid (add_sure w)
  have H2 := Lib.hid (show45 w hE)
  have H3 := Lib.hid (fun w => may_neg w)
  have H4 := Lib.hid (fun w => may34 w)
  have ho : (FloatKind.f64.format.order 4616189618054758400 4616189618054758400 == some .eq) = true := by decide +kernel
  have ho2 : (FloatKind.f64.format.order 4617315517961601024 4617315517961601024 == some .eq) = true := by decide +kernel
  clear hE
  go_enter Tryd.func29, Tryd.ntmps29
  go_wp2_with fail
  refine H1.out.mono ?_
  rintro e w1 ⟨rfl, rfl⟩
  go_wp2_with fail
  refine H2.out.mono ?_
  rintro e w1 ⟨rfl, b1⟩
  have B1 := Lib.hid b1
  clear b1 H1 H2
  go_wp2_with fail
  refine (H3.out w1).mono ?_
  rintro e w2 ⟨rfl, rfl⟩
  go_wp2_with fail
  refine (H4.out w1).mono ?_
  rintro e w2 ⟨rfl, rfl⟩
  go_wp2
  go_ret
  exact ⟨rfl, B1.out⟩

set_option maxRecDepth 100000 in
set_option maxHeartbeats 2000000 in
/-- PairReads. -/
theorem reads_any (s : ByteArray) (w : World) (hE : Env w) (hs : s.size ≤ 140737488355328) :
    Calls Tryd.prog 5 #[.string s] w fun e w' => e = .returned (.bool true) ∧ Below w.heap.size w w' := by
  obtain ⟨g, hg⟩ := is_some s.data.toList
  have H1 := Lib.hid (pread_any s g w hE hs hg)
  have H2 := Lib.hid (fun w => rread_any s g w hs hg)
  have HS := Lib.hid (fun w (h : Env w) => sure5_any w h)
  have HE := Lib.hid hE
  have Hg := Lib.hid hg
  clear hE hs hg
  cases g with
  | some p =>
    obtain ⟨a, b⟩ := p
    have hgd : PK.Good s.data.toList a b := Hg.out
    have H3 := Lib.hid (fun w (h : Env w) => same_yes a b w h hgd.2.1 hgd.2.2)
    have H4 := Lib.hid (fun w (h : Env w) => show_any a b w hgd.2.1 hgd.2.2 h)
    rw [← hgd.1, str_of] at H4
    clear hgd Hg
    unfold pV at H1
    unfold rV at H2
    go_enter Tryd.func5, Tryd.ntmps5
    go_wp2_with fail
    refine H1.out.mono ?_
    rintro e w1 ⟨rfl, b1⟩
    have B1 := Lib.hid b1
    clear b1 H1
    go_wp2_with fail
    refine (H2.out w1).mono ?_
    rintro e w2 ⟨rfl, b2⟩
    have B2 := Lib.hid (B1.out.trans (b2.mono B1.out.size))
    clear b2 H2 B1
    go_wp2_with fail
    refine (H3.out w2 (HE.out.below B2.out)).mono ?_
    rintro e w3 ⟨rfl, b3⟩
    have B3 := Lib.hid (B2.out.trans (b3.mono B2.out.size))
    clear b3 H3 B2
    go_wp2_with fail
    refine (H4.out w3 (HE.out.below B3.out)).mono ?_
    rintro e w4 ⟨rfl, b4⟩
    have B4 := Lib.hid (B3.out.trans (b4.mono B3.out.size))
    clear b4 H4 B3
    go_wp2_with fail
    refine (HS.out w4 (HE.out.below B4.out)).mono ?_
    rintro e w5 ⟨rfl, b5⟩
    have B5 := Lib.hid (B4.out.trans (b5.mono B4.out.size))
    clear b5 HS B4
    go_wp2
    go_ret
    exact ⟨rfl, B5.out⟩
  | none =>
    have H3 := Lib.hid (fun w (h : Env w) => same_no w h)
    unfold pV at H1
    unfold rV at H2
    go_enter Tryd.func5, Tryd.ntmps5
    go_wp2_with fail
    refine H1.out.mono ?_
    rintro e w1 ⟨rfl, b1⟩
    have B1 := Lib.hid b1
    clear b1 H1
    go_wp2_with fail
    refine (H2.out w1).mono ?_
    rintro e w2 ⟨rfl, b2⟩
    have B2 := Lib.hid (B1.out.trans (b2.mono B1.out.size))
    clear b2 H2 B1
    go_wp2_with fail
    refine (H3.out w2 (HE.out.below B2.out)).mono ?_
    rintro e w3 ⟨rfl, b3⟩
    have B3 := Lib.hid (B2.out.trans (b3.mono B2.out.size))
    clear b3 H3 B2
    go_wp2_with fail
    refine (HS.out w3 (HE.out.below B3.out)).mono ?_
    rintro e w5 ⟨rfl, b5⟩
    have B5 := Lib.hid (B3.out.trans (b5.mono B3.out.size))
    clear b5 HS B3
    go_wp2
    go_ret
    exact ⟨rfl, B5.out⟩
end Go.Proofs.YtincbeipfgbfpaaDoor
