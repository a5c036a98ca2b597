/-
  The law's 'sure' of tables.
  Conditions: none.
-/
import Derived.Test.YtkanjdijmdjbaaaGreatDoorSurV
import Derived.Test.YtkanjdijmdjbaaaGreatDoorG15
namespace Go.Proofs.YtkanjdijmdjbaaaGreatDoor
open Go Go.RowKit

theorem Fr.bel2 {mb bn : Nat} {w V V' : World} (h : Below w.heap.size w V) (f : Fr (fun j => j = mb ∨ j = bn) V V') (h1 : w.heap.size ≤ mb) (h2 : w.heap.size ≤ bn) : Below w.heap.size w V' :=
  h.trans ⟨f.os, f.tape, f.output, f.size, fun q hq => f.block q (Nat.lt_of_lt_of_le hq h.size) (by omega)⟩
theorem feq0 : Op.floatEq .f64 0 0 = true := by decide
theorem eqC0 (d : Nat) (W : World) : (Op.equalIn (d + 1) 43 (.complex .f64 0 0) (.complex .f64 0 0)).run Tryz.prog W = .ok true W := by
  unfold Op.equalIn
  simp [go_sem]
  exact feq0
theorem OwnS.one {w : World} {base : Nat} {v : Value} {s : QT.Str} (h : OwnS w base v [s]) : ∃ a c, v = .slice a 1 c ∧ 1 ≤ c ∧ c ≤ maxLen := by
  rcases h with ⟨_, h⟩ | ⟨g, cap, rfl, _, h1, h2, _⟩
  · cases h
  · exact ⟨_, cap, rfl, h1, h2⟩
set_option maxRecDepth 100000 in
set_option maxHeartbeats 4000000 in
/-- sure. -/
theorem sureS_any (w : World) :
    Calls Tryz.prog 4 #[] w fun e w' => e = .returned (.bool true) ∧ Below w.heap.size w w' := by
  have hstc := @run_store_complex Tryz.prog
  have H0 := Lib.hid (newS_any w)
  go_enter Tryz.func4, Tryz.ntmps4
  go_wp2_with fail
  refine H0.out.mono ?_
  rintro e w1 ⟨TB, mb, T, bn, bu, rfl, t1, hge, b1⟩
  have Hge := Lib.hid hge
  have B1 := Lib.hid b1
  have C1 := Lib.hid (apply_open TB mb T bn bu 0 w1 t1)
  have hmb1 := Lib.hid (And.intro t1.mp.lt t1.tr.mN.lt)
  clear H0 t1 hge b1
  go_wp2_with fail
  refine C1.out.mono ?_
  rintro e w2 ⟨rfl, t2, f2⟩
  obtain ⟨W2, hW2⟩ : ∃ W, W = w2.alloc (.cells #[.int .i64 0, .int .i64 1, .int .i64 0, .complex .f64 0 0, .complex .f64 0 0] 47) := ⟨_, rfl⟩
  have bW2 : Below w2.heap.size w2 W2 := by rw [hW2]; exact (Below.refl _ _).alloc (Nat.le_refl _) _
  have GA := Lib.hid (show W2.heap[w2.heap.size]? = some (.cells #[.int .i64 0, .int .i64 1, .int .i64 0, .complex .f64 0 0, .complex .f64 0 0] 47) by rw [hW2]; exact heap_alloc_new _ _)
  have B2 := Lib.hid (Fr.bel2 B1.out f2 Hge.out.2.1 Hge.out.2.2.2.1)
  have BW2 := Lib.hid (B2.out.trans (bW2.mono B2.out.size))
  have T2 := Lib.hid (t2.below bW2)
  have hlt2 := Lib.hid (And.intro t2.mp.lt t2.tr.mN.lt)
  have HW2 := Lib.hid hW2.symm
  clear C1 t2 f2 hW2 bW2 hmb1
  go_wp2_with fail
  rw [HW2.out]
  clear HW2
  refine (adds_z W2).mono ?_
  rintro e w3 ⟨rfl, b3⟩
  have C2 := Lib.hid (apply_once TB mb T bn bu w3 (T2.out.below b3))
  have GA3 := Lib.hid ((b3.block _ (Array.getElem?_eq_some_iff.1 GA.out).1).trans GA.out)
  have B3 := Lib.hid (BW2.out.trans (b3.mono BW2.out.size))
  clear b3 T2 GA B2 BW2
  go_wp2_with fail
  refine C2.out.mono ?_
  rintro e w4 ⟨rfl, t4, f4⟩
  obtain ⟨W4, hW4⟩ : ∃ W, W = w4.alloc (.cells #[.int .i64 0, .int .i64 1, .int .i64 0, .complex .f64 0 0, .complex .f64 0 0] 47) := ⟨_, rfl⟩
  have bW4 : Below w4.heap.size w4 W4 := by rw [hW4]; exact (Below.refl _ _).alloc (Nat.le_refl _) _
  have gA4 := f4.heap GA3.out (by have := hlt2.out; omega)
  have GA4 := Lib.hid ((bW4.block _ (Array.getElem?_eq_some_iff.1 gA4).1).trans gA4)
  have GB4 := Lib.hid (show W4.heap[w4.heap.size]? = some (.cells #[.int .i64 0, .int .i64 1, .int .i64 0, .complex .f64 0 0, .complex .f64 0 0] 47) by rw [hW4]; exact heap_alloc_new _ _)
  have B4 := Lib.hid (Fr.bel2 B3.out f4 Hge.out.2.1 Hge.out.2.2.2.1)
  have BW4 := Lib.hid (B4.out.trans (bW4.mono B4.out.size))
  have T4 := Lib.hid (t4.below bW4)
  have hlt4 := Lib.hid (And.intro t4.mp.lt t4.tr.mN.lt)
  have HW4 := Lib.hid hW4.symm
  clear C2 t4 f4 hW4 bW4 gA4 GA3 B3
  go_wp2_with fail
  rw [HW4.out]
  clear HW4
  refine (adds_z W4).mono ?_
  rintro e w5 ⟨rfl, b5⟩
  have C3 := Lib.hid (apply_again TB mb T bn bu w5 (T4.out.below b5))
  have GA5 := Lib.hid ((b5.block _ (Array.getElem?_eq_some_iff.1 GA4.out).1).trans GA4.out)
  have GB5 := Lib.hid ((b5.block _ (Array.getElem?_eq_some_iff.1 GB4.out).1).trans GB4.out)
  have B5 := Lib.hid (BW4.out.trans (b5.mono BW4.out.size))
  clear b5 T4 GA4 GB4 B4 BW4
  go_wp2_with fail
  refine C3.out.mono ?_
  rintro e w6 ⟨rfl, t6, f6⟩
  obtain ⟨W6, hW6⟩ : ∃ W, W = w6.alloc (.cells #[.int .i64 0, .int .i64 1, .int .i64 0, .complex .f64 0 0, .complex .f64 0 0] 47) := ⟨_, rfl⟩
  have bW6 : Below w6.heap.size w6 W6 := by rw [hW6]; exact (Below.refl _ _).alloc (Nat.le_refl _) _
  have gA6 := f6.heap GA5.out (by have := hlt2.out; omega)
  have gB6 := f6.heap GB5.out (by have := hlt4.out; omega)
  have gA := (bW6.block _ (Array.getElem?_eq_some_iff.1 gA6).1).trans gA6
  have gB := (bW6.block _ (Array.getElem?_eq_some_iff.1 gB6).1).trans gB6
  have gC : W6.heap[w6.heap.size]? = some (.cells #[.int .i64 0, .int .i64 1, .int .i64 0, .complex .f64 0 0, .complex .f64 0 0] 47) := by rw [hW6]; exact heap_alloc_new _ _
  have B6 := Lib.hid (Fr.bel2 B5.out f6 Hge.out.2.1 Hge.out.2.2.2.1)
  have BW6 := Lib.hid (B6.out.trans (bW6.mono B6.out.size))
  have CT := Lib.hid (treeS_any TB mb T bn bu 1 2 [qz] [s2] W6 (t6.below bW6))
  obtain ⟨⟨x0, x1, x2, x3, x4⟩, _⟩ := cells5f gA
  obtain ⟨⟨y0, y1, y2, y3, y4⟩, _⟩ := cells5f gB
  obtain ⟨⟨z0, z1, z2, z3, z4⟩, _⟩ := cells5f gC
  have HW6 := Lib.hid hW6.symm
  have heq : (Op.equalIn 9998 43 (.complex .f64 0 0) (.complex .f64 0 0)).run Tryz.prog W6 = .ok true W6 := eqC0 9997 W6
  clear C3 t6 f6 hW6 bW6 gA6 gB6 gA gB gC GA5 GB5 B5 B6 hlt2 hlt4 Hge B1
  go_upto_region 7 with fail
  rw [HW6.out]
  clear HW6
  go_wp2_with fail
  refine CT.out.mono ?_
  rintro e w7 ⟨T', bn', bu', rfl, t7, b7⟩
  have B7 := Lib.hid (BW6.out.trans (b7.mono BW6.out.size))
  have CN := Lib.hid (nodes_any T' bn' bu' 1 0 [qz] [] w7 t7 qZ1.rise)
  clear CT t7 b7 BW6 x0 x1 x2 x3 x4 y0 y1 y2 y3 y4 z0 z1 z2 z3 z4
  go_wp2_with fail
  refine CN.out.mono ?_
  rintro e w8 ⟨v, rfl, o8, b8⟩
  have B8 := Lib.hid (B7.out.trans (b8.mono B7.out.size))
  obtain ⟨a8, c8, rfl, _, _⟩ := o8.one
  clear CN o8 b8 B7
  go_wp2
  go_ret
  exact ⟨rfl, B8.out⟩
end Go.Proofs.YtkanjdijmdjbaaaGreatDoor
