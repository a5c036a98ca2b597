/-
  tollbarlaw01.PackNumbers by a contract: it answers true.
  Conditions: the listed variables read as listed ('Env'); the parameters fit their kinds, the slice reads as bytes.
-/
import Derived.Test.YtincbeipfgbfpaaDoorInts
import Derived.Test.YtincbeipfgbfpaaDoorDig2
namespace Go.Proofs.YtincbeipfgbfpaaDoor
open Go Go.RowKit

theorem itoa_le (n : Int) (h0 : -9223372036854775808 ≤ n) (h1 : n ≤ 9223372036854775807) : (Lib.itoa n).length ≤ 21 := Lib.itoa_length_le n h0 h1
theorem Fr.belowN {N : Nat} {w0 w w' : World} (b : Below N w0 w) (f : Fr (fun i => i = N) w w') (hN : N < w.heap.size) : Below N w0 w' :=
  b.trans ⟨f.os, f.tape, f.output, f.size, fun k hk => f.block k (by omega) (by omega)⟩

set_option maxRecDepth 100000 in
set_option maxHeartbeats 4000000 in
theorem nums_any (x0 x1 : Nat) (n : Int) (a : Option Addr) (c : Nat) (l : List UInt8) (w : World) (hE : Env w) (hv : IsB w (.slice a l.length c) l) (h0 : x0 < 18446744073709551616)
    (hn0 : -9223372036854775808 ≤ n) (hn1 : n ≤ 9223372036854775807) :
    Calls Tryd.prog 4 #[.agg #[.int .u64 (x0 : Int), .int .u64 (x1 : Int)], .int .i64 n, .slice a l.length c] w fun e w' => e = .returned (.bool true) ∧ Below w.heap.size w w' := by
  have hd := decDigits_le x0 h0
  have hi := itoa_le n hn0 hn1
  obtain ⟨L1, hL1⟩ : ∃ L, L = 110 :: Lib.decDigits x0 ++ [59] := ⟨_, rfl⟩
  obtain ⟨L2, hL2⟩ : ∃ L, L = L1 ++ (105 :: Lib.itoa n ++ [59]) := ⟨_, rfl⟩
  have hl1 : L1.length ≤ 22 := by rw [hL1]; simp; omega
  have hl2 : L2.length ≤ 50 := by rw [hL2]; simp; omega
  have HW1 : Hid (∀ (W : World) (B M : Nat), Env W → Wr W B M [] → Calls Tryd.prog 18 #[.pointer (some ⟨M, 0, none⟩), .int .u64 (x0 : Int)] W fun e w' => e = .returned (.pointer (some ⟨M, 0, none⟩)) ∧ Wr w' B M L1 ∧ Below B W w') := by
    intro W B M hE h
    have := wuint_any B M [] x0 W h h0 (by simp [roomB]; omega) hE
    rw [List.nil_append, ← hL1] at this
    exact this
  have HW2 : Hid (∀ (W : World) (B M : Nat), Env W → Wr W B M L1 → Calls Tryd.prog 19 #[.pointer (some ⟨M, 0, none⟩), .int .i64 n] W fun e w' => e = .returned (.pointer (some ⟨M, 0, none⟩)) ∧ Wr w' B M L2 ∧ Below B W w') := by
    intro W B M hE h
    have := wint_any B M L1 n W h hn0 hn1 (by simp only [roomB]; omega) hE
    rw [← hL2] at this
    exact this
  have HR1 : Hid (∀ W : World, Calls Tryd.prog 21 #[.slice none 0 0, .int .u64 (x0 : Int)] W fun e w' => RW W w' e L1) := by
    intro W
    have := ruint_w none 0 0 [] x0 W rfl (IsB.nil W) h0 (by simp [roomB])
    rw [List.nil_append, ← hL1] at this
    exact this
  have HR2 : Hid (∀ (W : World) (a' : Option Addr) (n' c' : Nat), L1.length = n' → IsB W (.slice a' n' c') L1 → Calls Tryd.prog 20 #[.slice a' n' c', .int .i64 n] W fun e w' => RW W w' e L2) := by
    intro W a' n' c' hl hv
    have := rint_w a' n' c' L1 n W hl hv hn0 hn1 (by simp only [roomB]; omega)
    rw [← hL2] at this
    exact this
  obtain ⟨v1, l1, k1, hP1⟩ : ∃ v1 l1 k1, PK.uintP x1 l 0 = (v1, l1, k1) := ⟨_, _, _, rfl⟩
  obtain ⟨v2, l2, k2, hP2⟩ : ∃ v2 l2 k2, PK.intP l1 k1 = (v2, l2, k2) := ⟨_, _, _, rfl⟩
  have HU : Hid (∀ (W : World) (N : Nat), Env W → Rd W N l 0 → Calls Tryd.prog 22 #[.pointer (some ⟨N, 0, none⟩), .int .u64 (x1 : Int)] W fun v w' => v = .returned (.int .u64 (v1 : Int)) ∧ Rd w' N l1 k1 ∧ Fr (fun i => i = N) W w') := by
    intro W N hE h
    have := uint_any N x1 l 0 W hE h
    simp only [hP1] at this
    exact this
  have HI : Hid (∀ (W : World) (N : Nat), Env W → Rd W N l1 k1 → Calls Tryd.prog 10 #[.pointer (some ⟨N, 0, none⟩)] W fun v w' => v = .returned (.int .i64 v2) ∧ Rd w' N l2 k2 ∧ Fr (fun i => i = N) W w') := by
    intro W N hE h
    have := int_any N l1 k1 W hE h
    simp only [hP2] at this
    exact this
  have HRU : Hid (∀ W : World, IsB W (.slice a l.length c) l → Calls Tryd.prog 23 #[.agg #[.slice a l.length c, .int .i64 0], .int .u64 (x1 : Int)] W fun v w' =>
      (∃ a' m c', v = .returned (.tuple #[.agg #[.slice a' m c', .int .i64 (k1 : Int)], .int .u64 (v1 : Int)]) ∧ l1.length = m ∧ IsB w' (.slice a' m c') l1) ∧ Below W.heap.size W w') := by
    intro W hv
    have := rreadUint_any a c 0 x1 l W hv
    simp only [hP1] at this
    exact this.mono fun e w' ⟨⟨a', c', e1, e2⟩, b⟩ => ⟨⟨a', _, c', e1, rfl, e2⟩, b⟩
  have HRI : Hid (∀ (W : World) (a' : Option Addr) (m c' : Nat), l1.length = m → IsB W (.slice a' m c') l1 → Calls Tryd.prog 11 #[.agg #[.slice a' m c', .int .i64 (k1 : Int)]] W fun v w' =>
      (∃ a2 m2 c2, v = .returned (.tuple #[.agg #[.slice a2 m2 c2, .int .i64 (k2 : Int)], .int .i64 v2]) ∧ l2.length = m2) ∧ Below W.heap.size W w') := by
    intro W a' m c' hm hv
    subst hm
    have := rreadInt_any a' c' k1 l1 W hv
    simp only [hP2] at this
    exact this.mono fun e w' ⟨⟨a2, c2, e1, _⟩, b⟩ => ⟨⟨a2, _, c2, e1, rfl⟩, b⟩
  have HE := Lib.hid hE
  have HV := Lib.hid hv
  have HL2 := Lib.hid hl2
  clear hE hv h0 hn0 hn1 hd hi hL1 hL2 hl1 hl2 hP1 hP2
  go_enter Tryd.func4, Tryd.ntmps4
  go_wp2_with fail
  have q0 : (w.alloc (.cells #[.int .u64 (x0 : Int), .int .u64 (x1 : Int)] 38)).cell? ⟨w.heap.size, 0, none⟩ = some (.int .u64 (x0 : Int)) := World.cell?_alloc_new _ _ _ 0
  have Ba : Below w.heap.size w (w.alloc (.cells #[.int .u64 (x0 : Int), .int .u64 (x1 : Int)] 38)) := (Below.refl _ _).alloc (Nat.le_refl _) _
  have hsz : w.heap.size < (w.alloc (.cells #[.int .u64 (x0 : Int), .int .u64 (x1 : Int)] 38)).heap.size := by simp
  generalize w.alloc (.cells #[.int .u64 (x0 : Int), .int .u64 (x1 : Int)] 38) = Wa at *
  have Ea := Lib.hid (HE.out.below Ba)
  have BA := Lib.hid Ba
  obtain ⟨M, hM⟩ : ∃ M, Wa.heap.size = M := ⟨_, rfl⟩
  have HM := Lib.hid hM
  have next : Hid (∀ W W' : World, (Hid (Below M Wa W) ∧ W.cell? ⟨w.heap.size, 0, none⟩ = some (.int .u64 (x0 : Int))) → Below M W W' → (Hid (Below M Wa W') ∧ W'.cell? ⟨w.heap.size, 0, none⟩ = some (.int .u64 (x0 : Int)))) := by
    rintro W W' ⟨h, _⟩ b
    have bb : Below M Wa W' := h.out.trans b
    exact ⟨Lib.hid bb, (World.cell?_of_block (bb.block _ (show w.heap.size < M by omega))).trans q0⟩
  have S0 : Hid (Below M Wa Wa.drew) ∧ Wa.drew.cell? ⟨w.heap.size, 0, none⟩ = some (.int .u64 (x0 : Int)) := ⟨Lib.hid (Below.refl _ _).drew, q0⟩
  have C17 : Hid (Calls Tryd.prog 17 #[] Wa.drew fun e w' => e = .returned (.pointer (some ⟨M, 0, none⟩)) ∧ (Hid (Below M Wa w') ∧ w'.cell? ⟨w.heap.size, 0, none⟩ = some (.int .u64 (x0 : Int))) ∧ Hid (Wr w' M M [])) := by
    refine (new_any Wa.drew (Ea.out.below (Below.refl _ _).drew)).mono ?_
    rintro e w' ⟨rfl, h, b⟩
    have hs : Wa.drew.heap.size = M := hM
    rw [hs] at h b ⊢
    exact ⟨rfl, next.out _ _ S0 b, h⟩
  have C18 : Hid (∀ W : World, (Hid (Below M Wa W) ∧ W.cell? ⟨w.heap.size, 0, none⟩ = some (.int .u64 (x0 : Int))) → Hid (Wr W M M []) → Calls Tryd.prog 18 #[.pointer (some ⟨M, 0, none⟩), .int .u64 (x0 : Int)] W fun e w' =>
      e = .returned (.pointer (some ⟨M, 0, none⟩)) ∧ (Hid (Below M Wa w') ∧ w'.cell? ⟨w.heap.size, 0, none⟩ = some (.int .u64 (x0 : Int))) ∧ Hid (Wr w' M M L1)) := fun W h hw =>
    (HW1.out W M M (Ea.out.below (by rw [HM.out]; exact h.1.out)) hw.out).mono fun e w' ⟨e1, e2, e3⟩ => ⟨e1, next.out _ _ h e3, e2⟩
  have C19 : Hid (∀ W : World, (Hid (Below M Wa W) ∧ W.cell? ⟨w.heap.size, 0, none⟩ = some (.int .u64 (x0 : Int))) → Hid (Wr W M M L1) → Calls Tryd.prog 19 #[.pointer (some ⟨M, 0, none⟩), .int .i64 n] W fun e w' =>
      e = .returned (.pointer (some ⟨M, 0, none⟩)) ∧ (Hid (Below M Wa w') ∧ w'.cell? ⟨w.heap.size, 0, none⟩ = some (.int .u64 (x0 : Int))) ∧ Hid (Wr w' M M L2)) := fun W h hw =>
    (HW2.out W M M (Ea.out.below (by rw [HM.out]; exact h.1.out)) hw.out).mono fun e w' ⟨e1, e2, e3⟩ => ⟨e1, next.out _ _ h e3, e2⟩
  have Hlt : Hid (w.heap.size < M) := by rw [← hM]; exact hsz
  clear Ba hsz hM next HW1 HW2 q0
  go_region_held3 (fun W => Hid (Below M Wa W) ∧ W.cell? ⟨w.heap.size, 0, none⟩ = some (.int .u64 (x0 : Int))) (assumption)
    (first
      | (go_at_call 17; refine C17.out.mono ?_; rintro e w3 ⟨rfl, hk3, hw3⟩)
      | (go_at_call 18; refine (C18.out _ ?_ ?_).mono ?_; assumption; assumption; rintro e w4 ⟨rfl, hk4, hw4⟩)
      | (go_at_call 19; refine (C19.out _ ?_ ?_).mono ?_; assumption; assumption; rintro e w5 ⟨rfl, hk5, hw5⟩))
  obtain ⟨b5, c5⟩ := hk5
  have B5 : Hid (Below w.heap.size w w5) := BA.out.trans (b5.out.mono (Nat.le_of_lt Hlt.out))
  clear C17 C18 C19 S0 Ea hk3 hw3 hk4 hw4 BA b5
  go_wp2_with fail
  refine (HR1.out _).mono ?_
  rintro e w6 ⟨⟨a6, n6, c6, rfl, hl6, o6, ho6⟩, b6⟩
  have H6 := Lib.hid (HR2.out w6 a6 n6 c6 hl6 o6.isB)
  have B6 := Lib.hid b6
  clear HR1 HR2 hl6 o6 ho6 b6 c5
  go_wp2_with fail
  refine H6.out.mono ?_
  rintro e w7 ⟨⟨a7, n7, c7, rfl, hl7, o7, ho7⟩, b7⟩
  have B57 : Below w5.heap.size w5 w7 := B6.out.trans (b7.mono B6.out.size)
  have B7 := Lib.hid (B5.out.trans (B57.mono B5.out.size))
  have W7 := Lib.hid (hw5.out.below B57)
  have V7 := Lib.hid o7.isB
  have HN7 := Lib.hid hl7
  clear H6 B6 hl7 o7 ho7 b7 B57 hw5 B5
  have E7 := Lib.hid (HE.out.below B7.out)
  have H7 := Lib.hid (read_any a c l w7 E7.out (HV.out.below B7.out))
  go_wp2_with fail
  refine H7.out.mono ?_
  rintro e w8 ⟨rfl, r8, b8⟩
  obtain ⟨N, hN⟩ : ∃ N, w7.heap.size = N := ⟨_, rfl⟩
  rw [hN] at r8 b8 ⊢
  have HN := Lib.hid hN
  have H8 := Lib.hid (HU.out w8 N (E7.out.below (by rw [hN]; exact b8)) r8)
  have B8 := Lib.hid b8
  have R8 := Lib.hid r8.lt
  clear H7 HU r8 b8 hN
  go_wp2_with fail
  refine H8.out.mono ?_
  rintro e w9 ⟨rfl, r9, f9⟩
  have b9 := f9.belowN B8.out R8.out
  have H9 := Lib.hid (HI.out w9 N (E7.out.below (by rw [HN.out]; exact b9)) r9)
  have B9 := Lib.hid b9
  have R9 := Lib.hid r9.lt
  clear H8 HI r9 f9 b9 B8 R8
  go_wp2_with fail
  refine H9.out.mono ?_
  rintro e w10 ⟨rfl, r10, f10⟩
  have b10 := f10.belowN B9.out R9.out
  have B10 := Lib.hid b10
  have R10 := Lib.hid r10
  have H10 := Lib.hid (HRU.out w10 ((HV.out.below B7.out).below (by rw [HN.out]; exact b10)))
  clear H9 HRU r10 f10 b10 B9 R9
  go_wp2_with fail
  refine H10.out.mono ?_
  rintro e w11 ⟨⟨a11, n11, c11, rfl, hl11, v11⟩, b11⟩
  have H11 : Hid (∀ W, Below w11.heap.size w11 W → Calls Tryd.prog 11 #[.agg #[.slice a11 n11 c11, .int .i64 (k1 : Int)]] W fun v w' =>
      (∃ a2 m2 c2, v = .returned (.tuple #[.agg #[.slice a2 m2 c2, .int .i64 (k2 : Int)], .int .i64 v2]) ∧ l2.length = m2) ∧ Below W.heap.size W w') := fun W b => HRI.out W a11 n11 c11 hl11 (v11.below b)
  have R11 := Lib.hid (R10.out.below b11)
  have B11 : Hid (Below N w7 w11) := B10.out.trans (b11.mono (by have := B10.out.size; have := HN.out; omega))
  clear H10 HRI hl11 v11 b11 B10 R10
  go_wp2_with fail
  refine (H11.out _ ((Below.refl _ _).alloc (Nat.le_refl _) _)).mono ?_
  rintro e w12 ⟨⟨a12, n12, c12, rfl, hl12⟩, b12⟩
  subst hl12
  obtain ⟨h12, b1112⟩ := own1 b12
  obtain ⟨p0, p1, p2, p3⟩ := cells2 h12
  have B12 := Lib.hid b1112
  have H12 := Lib.hid h12
  clear H11 b12 b1112 h12
  go_wp2_with fail
  obtain ⟨qb, hqb⟩ : ∃ qb, w11.heap.size = qb := ⟨_, rfl⟩
  have h0 := stored2 H12.out (.slice a12 l2.length c12) (.int .i64 (k2 : Int))
  have b0 := two_stores B12.out (M := w11.heap.size) (Nat.le_refl _) (.slice a12 l2.length c12) (.int .i64 (k2 : Int))
  rw [hqb] at h0 b0 ⊢
  clear p0 p1 p2 p3 B12 H12
  generalize (w12.setCell ⟨qb, 0, none⟩ (.slice a12 l2.length c12)).setCell ⟨qb, 1, none⟩ (.int .i64 (k2 : Int)) = W0 at *
  have R0 := Lib.hid (R11.out.below (by rw [hqb]; exact b0))
  have hNq : N ≤ qb := by have := R11.out.lt; omega
  have b70 : Below N w7 W0 := B11.out.trans (b0.mono hNq)
  have Wr0 := Lib.hid (W7.out.below (by rw [HN.out]; exact b70))
  have V0 := Lib.hid (V7.out.below (by rw [HN.out]; exact b70))
  have E0 := Lib.hid (E7.out.below (by rw [HN.out]; exact b70))
  have BW0 : Hid (Below w.heap.size w W0) := B7.out.trans (b70.mono (by rw [← HN.out]; exact B7.out.size))
  obtain ⟨q0, q1, _, _⟩ := cells2 h0
  have hqs : qb < W0.heap.size := (Array.getElem?_eq_some_iff.1 h0).1
  clear R11 B11 W7 V7 E7 B7 b70 b0 h0 hqb hNq HE HV HN
  have next : ∀ W W' : World, (Hid (Below W0.heap.size W0 W) ∧ W.cell? ⟨qb, 0, none⟩ = some (.slice a12 l2.length c12) ∧ W.cell? ⟨qb, 1, none⟩ = some (.int .i64 (k2 : Int))) → Below W.heap.size W W' → (Hid (Below W0.heap.size W0 W') ∧ W'.cell? ⟨qb, 0, none⟩ = some (.slice a12 l2.length c12) ∧ W'.cell? ⟨qb, 1, none⟩ = some (.int .i64 (k2 : Int))) := by
    rintro W W' ⟨h, _, _⟩ b
    have bb : Below W0.heap.size W0 W' := h.out.trans (b.mono h.out.size)
    exact ⟨Lib.hid bb, (World.cell?_of_block (bb.block _ hqs)).trans q0, (World.cell?_of_block (bb.block _ hqs)).trans q1⟩
  have C24 : Hid (∀ W : World, (Hid (Below W0.heap.size W0 W) ∧ W.cell? ⟨qb, 0, none⟩ = some (.slice a12 l2.length c12) ∧ W.cell? ⟨qb, 1, none⟩ = some (.int .i64 (k2 : Int))) → Calls Tryd.prog 24 #[.pointer (some ⟨M, 0, none⟩)] W fun e w' => (∃ a' m' c', e = .returned (.slice a' m' c') ∧ (convert 22 9 (.slice a' m' c')).run Tryd.prog w' = .ok (.string (str L2)) w') ∧ (Hid (Below W0.heap.size W0 w') ∧ w'.cell? ⟨qb, 0, none⟩ = some (.slice a12 l2.length c12) ∧ w'.cell? ⟨qb, 1, none⟩ = some (.int .i64 (k2 : Int)))) := fun W h =>
    (wdone_any M M L2 W (Wr0.out.below h.1.out) (by have := HL2.out; simp only [roomB]; omega)).mono fun e w' ⟨⟨a', c', e1, e2, _⟩, b⟩ => ⟨⟨a', _, c', e1, run_toStr T22 U9 e2.isB⟩, next W w' h b⟩
  have e52 : ∀ W : World, Hid (Below W0.heap.size W0 W) → (convert 22 9 (.slice a7 n7 c7)).run Tryd.prog W = .ok (.string (str L2)) W := fun W h => run_toStr T22 U9 (V0.out.below h.out)
  have C13 : Hid (∀ W : World, (Hid (Below W0.heap.size W0 W) ∧ W.cell? ⟨qb, 0, none⟩ = some (.slice a12 l2.length c12) ∧ W.cell? ⟨qb, 1, none⟩ = some (.int .i64 (k2 : Int))) → Calls Tryd.prog 13 #[.pointer (some ⟨N, 0, none⟩)] W fun e w' => e = .returned (errV (PK.doneP l2 k2)) ∧ W = w') := fun W h => done_any _ _ _ W (R0.out.below h.1.out)
  have C12 : Hid (∀ W : World, (Hid (Below W0.heap.size W0 W) ∧ W.cell? ⟨qb, 0, none⟩ = some (.slice a12 l2.length c12) ∧ W.cell? ⟨qb, 1, none⟩ = some (.int .i64 (k2 : Int))) → Calls Tryd.prog 12 #[errV (PK.doneP l2 k2)] W fun e w' => e = .returned (.int .i64 ((PK.doneP l2 k2 : Nat) : Int)) ∧ (Hid (Below W0.heap.size W0 w') ∧ w'.cell? ⟨qb, 0, none⟩ = some (.slice a12 l2.length c12) ∧ w'.cell? ⟨qb, 1, none⟩ = some (.int .i64 (k2 : Int)))) := fun W h =>
    (num_any _ W (E0.out.below h.1.out)).mono fun e w' hw => ⟨hw.1, next W w' h hw.2⟩
  have C14 : Hid (∀ W : World, (Hid (Below W0.heap.size W0 W) ∧ W.cell? ⟨qb, 0, none⟩ = some (.slice a12 l2.length c12) ∧ W.cell? ⟨qb, 1, none⟩ = some (.int .i64 (k2 : Int))) → Calls Tryd.prog 14 #[.agg #[.slice a12 l2.length c12, .int .i64 (k2 : Int)]] W fun e w' => e = .returned (.int .i64 ((PK.doneP l2 k2 : Nat) : Int)) ∧ (Hid (Below W0.heap.size W0 w') ∧ w'.cell? ⟨qb, 0, none⟩ = some (.slice a12 l2.length c12) ∧ w'.cell? ⟨qb, 1, none⟩ = some (.int .i64 (k2 : Int)))) := fun W h =>
    (rdone_any a12 c12 k2 l2 W).mono fun e w' hw => ⟨hw.1, next W w' h hw.2⟩
  have C15 : Hid (∀ W : World, (Hid (Below W0.heap.size W0 W) ∧ W.cell? ⟨qb, 0, none⟩ = some (.slice a12 l2.length c12) ∧ W.cell? ⟨qb, 1, none⟩ = some (.int .i64 (k2 : Int))) → Calls Tryd.prog 15 #[.pointer (some ⟨N, 0, none⟩)] W fun e w' => e = .returned (.int .i64 l2.length) ∧ W = w') := fun W h => left_any _ _ _ W (R0.out.below h.1.out)
  have C16 : Hid (∀ W : World, (Hid (Below W0.heap.size W0 W) ∧ W.cell? ⟨qb, 0, none⟩ = some (.slice a12 l2.length c12) ∧ W.cell? ⟨qb, 1, none⟩ = some (.int .i64 (k2 : Int))) → Calls Tryd.prog 16 #[] W fun e w' => e = .returned (.bool true) ∧ (Hid (Below W0.heap.size W0 w') ∧ w'.cell? ⟨qb, 0, none⟩ = some (.slice a12 l2.length c12) ∧ w'.cell? ⟨qb, 1, none⟩ = some (.int .i64 (k2 : Int)))) := fun W h =>
    (sure_any W (E0.out.below h.1.out)).mono fun e w' hw => ⟨hw.1, next W w' h hw.2⟩
  have S0 : Hid (Below W0.heap.size W0 W0.drew) ∧ W0.drew.cell? ⟨qb, 0, none⟩ = some (.slice a12 l2.length c12) ∧ W0.drew.cell? ⟨qb, 1, none⟩ = some (.int .i64 (k2 : Int)) := ⟨Lib.hid (Below.refl _ _).drew, q0, q1⟩
  have Hsz := Lib.hid (show w.heap.size ≤ W0.heap.size from BW0.out.size)
  clear next q0 q1 hqs Wr0 V0 E0 R0 HL2
  generalize PK.doneP l2 k2 = m at *
  generalize errV m = em at *
  generalize str L2 = sL at *
  refine wp_region_noPanic ?_
  refine wp_region_held_drew (S := fun W => Hid (Below W0.heap.size W0 W) ∧ W.cell? ⟨qb, 0, none⟩ = some (.slice a12 l2.length c12) ∧ W.cell? ⟨qb, 1, none⟩ = some (.int .i64 (k2 : Int))) (by kernel_rfl) S0 (fun hHeld => ?_)
  refine wpAnyH_take (i := 0) (v := ?hv0) (List.getElem?_toArray.trans rfl) (by kernel_rfl) (by kernel_rfl) (by kernel_rfl) (fun _ _ _ h => h) (Or.inl ⟨by rfl, ?hy0⟩) (by assumption) ?hr0
  case hy0 => (intro wt hSw; (try dsimp only at hSw); go_simp; try (with_reducible rfl))
  try simp only [Act.put, List.setIfInBounds_toArray, List.set_cons_zero, List.set_cons_succ]
  refine wpAnyH_take (i := 3) (v := ?hv3) (List.getElem?_toArray.trans rfl) (by kernel_rfl) (by kernel_rfl) (by kernel_rfl) (fun _ _ _ h => h) (Or.inl ⟨by rfl, ?hy3⟩) (by assumption) ?hr3
  case hy3 => (intro wt hSw; (try dsimp only at hSw); go_simp; try (with_reducible rfl))
  try simp only [Act.put, List.setIfInBounds_toArray, List.set_cons_zero, List.set_cons_succ]
  refine wpAnyH_take (i := 4) (v := ?hv4) (List.getElem?_toArray.trans rfl) (by kernel_rfl) (by kernel_rfl) (by kernel_rfl) (fun _ _ _ h => h) (Or.inl ⟨by rfl, ?hy4⟩) (by assumption) ?hr4
  case hy4 => (intro wt hSw; (try dsimp only at hSw); go_simp; try (with_reducible rfl))
  try simp only [Act.put, List.setIfInBounds_toArray, List.set_cons_zero, List.set_cons_succ]
  refine wpAnyH_ready (rs := [1]) (by kernel_rfl) (by simp) ?_
  refine AllReadyH.cons (List.getElem?_toArray.trans rfl) (fun K hK => ?_) AllReadyH.nil
  go_simp
  go_at_call 24
  refine (C24.out _ ?_).mono ?_
  · assumption
  rintro e w20 ⟨⟨a24, m24, c24, rfl, e24⟩, hk20⟩
  try (go_wp2_with fail)
  refine hK.out _ _ ?_ (fun hHeld => ?_)
  · (try dsimp only)
    assumption
  clear hK K
  try simp only [Act.put, List.setIfInBounds_toArray, List.set_cons_zero, List.set_cons_succ]
  refine wpAnyH_ready (rs := [2]) (by kernel_rfl) (by simp) ?_
  refine AllReadyH.cons (List.getElem?_toArray.trans rfl) (fun K hK => ?_) AllReadyH.nil
  go_simp
  refine hK.out _ _ ?_ (fun hHeld => ?_)
  · (try dsimp only)
    assumption
  clear hK K
  try simp only [Act.put, List.setIfInBounds_toArray, List.set_cons_zero, List.set_cons_succ]
  refine wpAnyH_take (i := 5) (v := ?hv5) (List.getElem?_toArray.trans rfl) (by kernel_rfl) (by kernel_rfl) (by kernel_rfl) (fun _ _ _ h => h) (Or.inl ⟨by rfl, ?hy5⟩) (by assumption) ?hr5
  case hy5 => (intro wt hSw; (try dsimp only at hSw); go_simp; try (with_reducible rfl))
  try simp only [Act.put, List.setIfInBounds_toArray, List.set_cons_zero, List.set_cons_succ]
  refine wpAnyH_take (i := 6) (v := ?hv6) (List.getElem?_toArray.trans rfl) (by kernel_rfl) (by kernel_rfl) (by kernel_rfl) (fun _ _ _ h => h) (Or.inl ⟨by rfl, ?hy6⟩) (by assumption) ?hr6
  case hy6 => (intro wt hSw; (try dsimp only at hSw); go_simp; try (with_reducible rfl))
  try simp only [Act.put, List.setIfInBounds_toArray, List.set_cons_zero, List.set_cons_succ]
  refine wpAnyH_take (i := 7) (v := ?hv7) (List.getElem?_toArray.trans rfl) (by kernel_rfl) (by kernel_rfl) (by kernel_rfl) (fun _ _ _ h => h) (Or.inl ⟨by rfl, ?hy7⟩) (by assumption) ?hr7
  case hy7 => (intro wt hSw; (try dsimp only at hSw); go_simp; try (with_reducible rfl))
  try simp only [Act.put, List.setIfInBounds_toArray, List.set_cons_zero, List.set_cons_succ]
  refine wpAnyH_take (i := 8) (v := ?hv8) (List.getElem?_toArray.trans rfl) (by kernel_rfl) (by kernel_rfl) (by kernel_rfl) (fun _ _ _ h => h) (Or.inl ⟨by rfl, ?hy8⟩) (by assumption) ?hr8
  case hy8 => (intro wt hSw; (try dsimp only at hSw); go_simp; try (with_reducible rfl))
  try simp only [Act.put, List.setIfInBounds_toArray, List.set_cons_zero, List.set_cons_succ]
  refine wpAnyH_take (i := 9) (v := ?hv9) (List.getElem?_toArray.trans rfl) (by kernel_rfl) (by kernel_rfl) (by kernel_rfl) (fun _ _ _ h => h) (Or.inl ⟨by rfl, ?hy9⟩) (by assumption) ?hr9
  case hy9 => (intro wt hSw; (try dsimp only at hSw); go_simp; try (with_reducible rfl))
  try simp only [Act.put, List.setIfInBounds_toArray, List.set_cons_zero, List.set_cons_succ]
  refine wpAnyH_take (i := 10) (v := ?hv10) (List.getElem?_toArray.trans rfl) (by kernel_rfl) (by kernel_rfl) (by kernel_rfl) (fun _ _ _ h => h) (Or.inl ⟨by rfl, ?hy10⟩) (by assumption) ?hr10
  case hy10 => (intro wt hSw; (try dsimp only at hSw); go_simp; try (with_reducible rfl))
  try simp only [Act.put, List.setIfInBounds_toArray, List.set_cons_zero, List.set_cons_succ]
  refine wpAnyH_take (i := 11) (v := ?hv11) (List.getElem?_toArray.trans rfl) (by kernel_rfl) (by kernel_rfl) (by kernel_rfl) (fun _ _ _ h => h) (Or.inl ⟨by rfl, ?hy11⟩) (by assumption) ?hr11
  case hy11 => (intro wt hSw; (try dsimp only at hSw); go_simp; try (with_reducible rfl))
  try simp only [Act.put, List.setIfInBounds_toArray, List.set_cons_zero, List.set_cons_succ]
  refine wpAnyH_take (i := 12) (v := ?hv12) (List.getElem?_toArray.trans rfl) (by kernel_rfl) (by kernel_rfl) (by kernel_rfl) (fun _ _ _ h => h) (Or.inl ⟨by rfl, ?hy12⟩) (by assumption) ?hr12
  case hy12 => (intro wt hSw; (try dsimp only at hSw); go_simp; try (with_reducible rfl))
  try simp only [Act.put, List.setIfInBounds_toArray, List.set_cons_zero, List.set_cons_succ]
  refine wpAnyH_take (i := 13) (v := ?hv13) (List.getElem?_toArray.trans rfl) (by kernel_rfl) (by kernel_rfl) (by kernel_rfl) (fun _ _ _ h => h) (Or.inl ⟨by rfl, ?hy13⟩) (by assumption) ?hr13
  case hy13 => (intro wt hSw; (try dsimp only at hSw); go_simp; try (with_reducible rfl))
  try simp only [Act.put, List.setIfInBounds_toArray, List.set_cons_zero, List.set_cons_succ]
  refine wpAnyH_take (i := 14) (v := ?hv14) (List.getElem?_toArray.trans rfl) (by kernel_rfl) (by kernel_rfl) (by kernel_rfl) (fun _ _ _ h => h) (Or.inl ⟨by rfl, ?hy14⟩) (by assumption) ?hr14
  case hy14 => (intro wt hSw; (try dsimp only at hSw); go_simp; try (with_reducible rfl))
  try simp only [Act.put, List.setIfInBounds_toArray, List.set_cons_zero, List.set_cons_succ]
  refine wpAnyH_take (i := 15) (v := ?hv15) (List.getElem?_toArray.trans rfl) (by kernel_rfl) (by kernel_rfl) (by kernel_rfl) (fun _ _ _ h => h) (Or.inl ⟨by rfl, ?hy15⟩) (by assumption) ?hr15
  case hy15 => (intro wt hSw; (try dsimp only at hSw); go_simp; try (with_reducible rfl))
  try simp only [Act.put, List.setIfInBounds_toArray, List.set_cons_zero, List.set_cons_succ]
  refine wpAnyH_take (i := 16) (v := ?hv16) (List.getElem?_toArray.trans rfl) (by kernel_rfl) (by kernel_rfl) (by kernel_rfl) (fun _ _ _ h => h) (Or.inl ⟨by rfl, ?hy16⟩) (by assumption) ?hr16
  case hy16 => (intro wt hSw; (try dsimp only at hSw); go_simp; try (with_reducible rfl))
  try simp only [Act.put, List.setIfInBounds_toArray, List.set_cons_zero, List.set_cons_succ]
  refine wpAnyH_take (i := 17) (v := ?hv17) (List.getElem?_toArray.trans rfl) (by kernel_rfl) (by kernel_rfl) (by kernel_rfl) (fun _ _ _ h => h) (Or.inl ⟨by rfl, ?hy17⟩) (by assumption) ?hr17
  case hy17 => (intro wt hSw; (try dsimp only at hSw); go_simp; try (with_reducible rfl))
  try simp only [Act.put, List.setIfInBounds_toArray, List.set_cons_zero, List.set_cons_succ]
  refine wpAnyH_take (i := 20) (v := ?hv20) (List.getElem?_toArray.trans rfl) (by kernel_rfl) (by kernel_rfl) (by kernel_rfl) (fun _ _ _ h => h) (Or.inl ⟨by rfl, ?hy20⟩) (by assumption) ?hr20
  case hy20 => (intro wt hSw; (try dsimp only at hSw); go_simp; try (with_reducible rfl))
  try simp only [Act.put, List.setIfInBounds_toArray, List.set_cons_zero, List.set_cons_succ]
  refine wpAnyH_ready (rs := [18]) (by kernel_rfl) (by simp) ?_
  refine AllReadyH.cons (List.getElem?_toArray.trans rfl) (fun K hK => ?_) AllReadyH.nil
  go_simp
  go_at_call 13
  refine (C13.out _ ?_).mono ?_
  · assumption
  rintro e w21 ⟨rfl, rfl⟩
  try (go_wp2_with fail)
  refine hK.out _ _ ?_ (fun hHeld => ?_)
  · (try dsimp only)
    assumption
  clear hK K
  try simp only [Act.put, List.setIfInBounds_toArray, List.set_cons_zero, List.set_cons_succ]
  refine wpAnyH_ready (rs := [19]) (by kernel_rfl) (by simp) ?_
  refine AllReadyH.cons (List.getElem?_toArray.trans rfl) (fun K hK => ?_) AllReadyH.nil
  go_simp
  go_at_call 12
  refine (C12.out _ ?_).mono ?_
  · assumption
  rintro e w22 ⟨rfl, hk22⟩
  try (go_wp2_with fail)
  refine hK.out _ _ ?_ (fun hHeld => ?_)
  · (try dsimp only)
    assumption
  clear hK K
  try simp only [Act.put, List.setIfInBounds_toArray, List.set_cons_zero, List.set_cons_succ]
  refine wpAnyH_ready (rs := [21]) (by kernel_rfl) (by simp) ?_
  refine AllReadyH.cons (List.getElem?_toArray.trans rfl) (fun K hK => ?_) AllReadyH.nil
  go_simp
  go_at_call 14
  refine (C14.out _ ?_).mono ?_
  · assumption
  rintro e w23 ⟨rfl, hk23⟩
  try (go_wp2_with fail)
  refine hK.out _ _ ?_ (fun hHeld => ?_)
  · (try dsimp only)
    assumption
  clear hK K
  try simp only [Act.put, List.setIfInBounds_toArray, List.set_cons_zero, List.set_cons_succ]
  refine wpAnyH_take (i := 22) (v := ?hv22) (List.getElem?_toArray.trans rfl) (by kernel_rfl) (by kernel_rfl) (by kernel_rfl) (fun _ _ _ h => h) (Or.inl ⟨by rfl, ?hy22⟩) (by assumption) ?hr22
  case hy22 => (intro wt hSw; (try dsimp only at hSw); go_simp; try (with_reducible rfl))
  try simp only [Act.put, List.setIfInBounds_toArray, List.set_cons_zero, List.set_cons_succ]
  refine wpAnyH_take (i := 23) (v := ?hv23) (List.getElem?_toArray.trans rfl) (by kernel_rfl) (by kernel_rfl) (by kernel_rfl) (fun _ _ _ h => h) (Or.inl ⟨by rfl, ?hy23⟩) (by assumption) ?hr23
  case hy23 => (intro wt hSw; (try dsimp only at hSw); go_simp; try (with_reducible rfl))
  try simp only [Act.put, List.setIfInBounds_toArray, List.set_cons_zero, List.set_cons_succ]
  refine wpAnyH_take (i := 24) (v := ?hv24) (List.getElem?_toArray.trans rfl) (by kernel_rfl) (by kernel_rfl) (by kernel_rfl) (fun _ _ _ h => h) (Or.inl ⟨by rfl, ?hy24⟩) (by assumption) ?hr24
  case hy24 => (intro wt hSw; (try dsimp only at hSw); go_simp; try (with_reducible rfl))
  try simp only [Act.put, List.setIfInBounds_toArray, List.set_cons_zero, List.set_cons_succ]
  refine wpAnyH_take (i := 25) (v := ?hv25) (List.getElem?_toArray.trans rfl) (by kernel_rfl) (by kernel_rfl) (by kernel_rfl) (fun _ _ _ h => h) (Or.inl ⟨by rfl, ?hy25⟩) (by assumption) ?hr25
  case hy25 => (intro wt hSw; (try dsimp only at hSw); go_simp; try (with_reducible rfl))
  try simp only [Act.put, List.setIfInBounds_toArray, List.set_cons_zero, List.set_cons_succ]
  refine wpAnyH_take (i := 27) (v := ?hv27) (List.getElem?_toArray.trans rfl) (by kernel_rfl) (by kernel_rfl) (by kernel_rfl) (fun _ _ _ h => h) (Or.inl ⟨by rfl, ?hy27⟩) (by assumption) ?hr27
  case hy27 => (intro wt hSw; (try dsimp only at hSw); go_simp; try (with_reducible rfl))
  try simp only [Act.put, List.setIfInBounds_toArray, List.set_cons_zero, List.set_cons_succ]
  refine wpAnyH_take (i := 28) (v := ?hv28) (List.getElem?_toArray.trans rfl) (by kernel_rfl) (by kernel_rfl) (by kernel_rfl) (fun _ _ _ h => h) (Or.inl ⟨by rfl, ?hy28⟩) (by assumption) ?hr28
  case hy28 => (intro wt hSw; (try dsimp only at hSw); go_simp; try (with_reducible rfl))
  try simp only [Act.put, List.setIfInBounds_toArray, List.set_cons_zero, List.set_cons_succ]
  refine wpAnyH_take (i := 29) (v := ?hv29) (List.getElem?_toArray.trans rfl) (by kernel_rfl) (by kernel_rfl) (by kernel_rfl) (fun _ _ _ h => h) (Or.inl ⟨by rfl, ?hy29⟩) (by assumption) ?hr29
  case hy29 => (intro wt hSw; (try dsimp only at hSw); go_simp; try (with_reducible rfl))
  try simp only [Act.put, List.setIfInBounds_toArray, List.set_cons_zero, List.set_cons_succ]
  refine wpAnyH_ready (rs := [26]) (by kernel_rfl) (by simp) ?_
  refine AllReadyH.cons (List.getElem?_toArray.trans rfl) (fun K hK => ?_) AllReadyH.nil
  go_simp
  go_at_call 15
  refine (C15.out _ ?_).mono ?_
  · assumption
  rintro e w24 ⟨rfl, rfl⟩
  try (go_wp2_with fail)
  refine hK.out _ _ ?_ (fun hHeld => ?_)
  · (try dsimp only)
    assumption
  clear hK K
  try simp only [Act.put, List.setIfInBounds_toArray, List.set_cons_zero, List.set_cons_succ]
  refine wpAnyH_take (i := 30) (v := ?hv30) (List.getElem?_toArray.trans rfl) (by kernel_rfl) (by kernel_rfl) (by kernel_rfl) (fun _ _ _ h => h) (Or.inl ⟨by rfl, ?hy30⟩) (by assumption) ?hr30
  case hy30 => (intro wt hSw; (try dsimp only at hSw); go_simp; try (with_reducible rfl))
  try simp only [Act.put, List.setIfInBounds_toArray, List.set_cons_zero, List.set_cons_succ]
  refine wpAnyH_take (i := 31) (v := ?hv31) (List.getElem?_toArray.trans rfl) (by kernel_rfl) (by kernel_rfl) (by kernel_rfl) (fun _ _ _ h => h) (Or.inl ⟨by rfl, ?hy31⟩) (by assumption) ?hr31
  case hy31 => (intro wt hSw; (try dsimp only at hSw); go_simp; try (with_reducible rfl))
  try simp only [Act.put, List.setIfInBounds_toArray, List.set_cons_zero, List.set_cons_succ]
  refine wpAnyH_take (i := 32) (v := ?hv32) (List.getElem?_toArray.trans rfl) (by kernel_rfl) (by kernel_rfl) (by kernel_rfl) (fun _ _ _ h => h) (Or.inl ⟨by rfl, ?hy32⟩) (by assumption) ?hr32
  case hy32 => (intro wt hSw; (try dsimp only at hSw); go_simp; try (with_reducible rfl))
  try simp only [Act.put, List.setIfInBounds_toArray, List.set_cons_zero, List.set_cons_succ]
  refine wpAnyH_ready (rs := [33]) (by kernel_rfl) (by simp) ?_
  refine AllReadyH.cons (List.getElem?_toArray.trans rfl) (fun K hK => ?_) AllReadyH.nil
  go_simp
  go_at_call 16
  refine (C16.out _ ?_).mono ?_
  · assumption
  rintro e w25 ⟨rfl, hk25⟩
  try (go_wp2_with fail)
  refine hK.out _ _ ?_ (fun hHeld => ?_)
  · (try dsimp only)
    assumption
  clear hK K
  try simp only [Act.put, List.setIfInBounds_toArray, List.set_cons_zero, List.set_cons_succ]
  refine wpAnyH_take (i := 34) (v := ?hv34) (List.getElem?_toArray.trans rfl) (by kernel_rfl) (by kernel_rfl) (by kernel_rfl) (fun _ _ _ h => h) (Or.inl ⟨by rfl, ?hy34⟩) (by assumption) ?hr34
  case hy34 => (intro wt hSw; (try dsimp only at hSw); go_simp; try (with_reducible rfl))
  try simp only [Act.put, List.setIfInBounds_toArray, List.set_cons_zero, List.set_cons_succ]
  refine wpAnyH_take (i := 35) (v := ?hv35) (List.getElem?_toArray.trans rfl) (by kernel_rfl) (by kernel_rfl) (by kernel_rfl) (fun _ _ _ h => h) (Or.inl ⟨by rfl, ?hy35⟩) (by assumption) ?hr35
  case hy35 => (intro wt hSw; (try dsimp only at hSw); go_simp; try (with_reducible rfl))
  try simp only [Act.put, List.setIfInBounds_toArray, List.set_cons_zero, List.set_cons_succ]
  refine wpAnyH_done (by kernel_rfl) ?_ _
  refine NoPanic.normal ?_
  go_wp2
  go_ret
  exact ⟨rfl, BW0.out.trans (hk25.1.out.mono Hsz.out)⟩
end Go.Proofs.YtincbeipfgbfpaaDoor
