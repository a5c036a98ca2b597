/-
  tollbarlaw01.PackInts by a contract: it answers true.
  Conditions: the listed variables read as listed ('Env'); the parameter reads as bytes.
-/
import Derived.Test.YtincbeipfgbfpaaDoorSure
import Derived.Test.YtincbeipfgbfpaaDoorRef4
import Derived.Deep.RegionHeld3
namespace Go.Proofs.YtincbeipfgbfpaaDoor
open Go Go.RowKit

set_option maxRecDepth 100000 in
set_option maxHeartbeats 4000000 in
theorem ints_any (a : Option Addr) (c : Nat) (l : List UInt8) (w : World) (hE : Env w) (hv : IsB w (.slice a l.length c) l) :
    Calls Tryd.prog 3 #[.slice a l.length c] w fun e w' => e = .returned (.bool true) ∧ Below w.heap.size w w' := by
  have H1 := Lib.hid (read_any a c l w hE hv)
  have H2 : Hid (∀ w1, Rd w1 w.heap.size l 0 → Below w.heap.size w w1 → Calls Tryd.prog 10 #[.pointer (some ⟨w.heap.size, 0, none⟩)] w1 fun v w' => v = .returned (.int .i64 (PK.intP l 0).1) ∧ Rd w' w.heap.size (PK.intP l 0).2.1 (PK.intP l 0).2.2 ∧ Below w.heap.size w w') := by
    intro w1 r1 b1
    refine (int_any _ _ _ w1 (hE.below b1) r1).mono ?_
    rintro e w2 ⟨rfl, r2, f2⟩
    exact ⟨rfl, r2, b1.trans ⟨f2.os, f2.tape, f2.output, f2.size, fun k hk => f2.block k (by have := r1.lt; omega) (by omega)⟩⟩
  have H3 : Hid (∀ w2, Below w.heap.size w w2 → Calls Tryd.prog 11 #[.agg #[.slice a l.length c, .int .i64 (0 : Nat)]] w2 fun v w' =>
      (∃ a' c', v = .returned (.tuple #[.agg #[.slice a' (PK.intP l 0).2.1.length c', .int .i64 (PK.intP l 0).2.2], .int .i64 (PK.intP l 0).1])) ∧ Below w2.heap.size w2 w') := by
    intro w2 b2
    refine (rreadInt_any a c 0 l w2 (hv.below b2)).mono ?_
    rintro e w3 ⟨⟨a', c', rfl, _⟩, b3⟩
    exact ⟨⟨a', c', rfl⟩, b3⟩
  have HE := Lib.hid hE
  clear hE hv
  generalize PK.intP l 0 = R at *
  obtain ⟨v, lr, k⟩ := R
  simp only at H2 H3
  go_enter Tryd.func3, Tryd.ntmps3
  go_wp2_with fail
  refine H1.out.mono ?_
  rintro e w1 ⟨rfl, r1, b1⟩
  have K2 := Lib.hid (H2.out w1 r1 b1)
  clear H1 H2 r1 b1
  go_wp2_with fail
  refine K2.out.mono ?_
  rintro e w2 ⟨rfl, r2, b2⟩
  have K3 := Lib.hid (H3.out w2 b2)
  have B2 := Lib.hid b2
  have R2 := Lib.hid r2
  clear K2 H3 r2 b2
  go_wp2_with fail
  refine K3.out.mono ?_
  rintro e w3 ⟨⟨a', c', rfl⟩, b3⟩
  have R3 := Lib.hid (R2.out.below b3)
  have B3 := Lib.hid (B2.out.trans (b3.mono B2.out.size))
  clear K3 R2 B2 b3
  go_wp2_with fail
  have E3 : Hid (Env w3) := HE.out.below B3.out
  have Hs : Hid (w.heap.size < w3.heap.size) := R3.out.lt
  generalize hq : w3.heap.size = qb at *
  have q0 : (w3.alloc (.cells #[.slice a' lr.length c', .int .i64 (k : Int)] 27)).cell? ⟨qb, 0, none⟩ = some (.slice a' lr.length c') := by rw [← hq]; exact World.cell?_alloc_new _ _ _ 0
  have q1 : (w3.alloc (.cells #[.slice a' lr.length c', .int .i64 (k : Int)] 27)).cell? ⟨qb, 1, none⟩ = some (.int .i64 (k : Int)) := by rw [← hq]; exact World.cell?_alloc_new _ _ _ 1
  have Ba : Below w.heap.size w (w3.alloc (.cells #[.slice a' lr.length c', .int .i64 (k : Int)] 27)) := B3.out.alloc (by rw [hq]; exact Nat.le_of_lt Hs.out) _
  have Ea : Env (w3.alloc (.cells #[.slice a' lr.length c', .int .i64 (k : Int)] 27)) := E3.out.below ((Below.refl _ _).alloc (Nat.le_refl _) _)
  have Ra : Rd (w3.alloc (.cells #[.slice a' lr.length c', .int .i64 (k : Int)] 27)) w.heap.size lr k := R3.out.below ((Below.refl _ _).alloc (Nat.le_refl _) _)
  have hqs : qb < (w3.alloc (.cells #[.slice a' lr.length c', .int .i64 (k : Int)] 27)).heap.size := by rw [← hq]; simp
  clear hq B3 E3 R3
  generalize w3.alloc (.cells #[.slice a' lr.length c', .int .i64 (k : Int)] 27) = W0 at *
  have next : ∀ W W' : World, (Hid (Below W0.heap.size W0 W) ∧ W.cell? ⟨qb, 0, none⟩ = some (.slice a' lr.length c') ∧ W.cell? ⟨qb, 1, none⟩ = some (.int .i64 (k : Int))) → Below W.heap.size W W' →
      (Hid (Below W0.heap.size W0 W') ∧ W'.cell? ⟨qb, 0, none⟩ = some (.slice a' lr.length c') ∧ W'.cell? ⟨qb, 1, none⟩ = some (.int .i64 (k : Int))) := by
    rintro W W' ⟨h, _, _⟩ b
    have bb : Below W0.heap.size W0 W' := h.out.trans (b.mono h.out.size)
    exact ⟨Lib.hid bb, (World.cell?_of_block (bb.block _ hqs)).trans q0, (World.cell?_of_block (bb.block _ hqs)).trans q1⟩
  have C13 : Hid (∀ W : World, (Hid (Below W0.heap.size W0 W) ∧ W.cell? ⟨qb, 0, none⟩ = some (.slice a' lr.length c') ∧ W.cell? ⟨qb, 1, none⟩ = some (.int .i64 (k : Int))) →
      Calls Tryd.prog 13 #[.pointer (some ⟨w.heap.size, 0, none⟩)] W fun e w' => e = .returned (errV (PK.doneP lr k)) ∧ W = w') := fun W h => done_any _ _ _ W (Ra.below h.1.out)
  have C12 : Hid (∀ W : World, (Hid (Below W0.heap.size W0 W) ∧ W.cell? ⟨qb, 0, none⟩ = some (.slice a' lr.length c') ∧ W.cell? ⟨qb, 1, none⟩ = some (.int .i64 (k : Int))) →
      Calls Tryd.prog 12 #[errV (PK.doneP lr k)] W fun e w' => e = .returned (.int .i64 ((PK.doneP lr k : Nat) : Int)) ∧ (Hid (Below W0.heap.size W0 w') ∧ w'.cell? ⟨qb, 0, none⟩ = some (.slice a' lr.length c') ∧ w'.cell? ⟨qb, 1, none⟩ = some (.int .i64 (k : Int)))) := fun W h =>
    (num_any _ W (Ea.below h.1.out)).mono fun e w' hw => ⟨hw.1, next W w' h hw.2⟩
  have C14 : Hid (∀ W : World, (Hid (Below W0.heap.size W0 W) ∧ W.cell? ⟨qb, 0, none⟩ = some (.slice a' lr.length c') ∧ W.cell? ⟨qb, 1, none⟩ = some (.int .i64 (k : Int))) →
      Calls Tryd.prog 14 #[.agg #[.slice a' lr.length c', .int .i64 (k : Int)]] W fun e w' => e = .returned (.int .i64 ((PK.doneP lr k : Nat) : Int)) ∧ (Hid (Below W0.heap.size W0 w') ∧ w'.cell? ⟨qb, 0, none⟩ = some (.slice a' lr.length c') ∧ w'.cell? ⟨qb, 1, none⟩ = some (.int .i64 (k : Int)))) := fun W h =>
    (rdone_any a' c' k lr W).mono fun e w' hw => ⟨hw.1, next W w' h hw.2⟩
  have C15 : Hid (∀ W : World, (Hid (Below W0.heap.size W0 W) ∧ W.cell? ⟨qb, 0, none⟩ = some (.slice a' lr.length c') ∧ W.cell? ⟨qb, 1, none⟩ = some (.int .i64 (k : Int))) →
      Calls Tryd.prog 15 #[.pointer (some ⟨w.heap.size, 0, none⟩)] W fun e w' => e = .returned (.int .i64 lr.length) ∧ W = w') := fun W h => left_any _ _ _ W (Ra.below h.1.out)
  have C16 : Hid (∀ W : World, (Hid (Below W0.heap.size W0 W) ∧ W.cell? ⟨qb, 0, none⟩ = some (.slice a' lr.length c') ∧ W.cell? ⟨qb, 1, none⟩ = some (.int .i64 (k : Int))) →
      Calls Tryd.prog 16 #[] W fun e w' => e = .returned (.bool true) ∧ (Hid (Below W0.heap.size W0 w') ∧ w'.cell? ⟨qb, 0, none⟩ = some (.slice a' lr.length c') ∧ w'.cell? ⟨qb, 1, none⟩ = some (.int .i64 (k : Int)))) := fun W h =>
    (sure_any W (Ea.below h.1.out)).mono fun e w' hw => ⟨hw.1, next W w' h hw.2⟩
  have S0 : Hid (Below W0.heap.size W0 W0.drew) ∧ W0.drew.cell? ⟨qb, 0, none⟩ = some (.slice a' lr.length c') ∧ W0.drew.cell? ⟨qb, 1, none⟩ = some (.int .i64 (k : Int)) := ⟨Lib.hid (Below.refl _ _).drew, q0, q1⟩
  have HB := Lib.hid Ba
  have Hsz := Lib.hid (show w.heap.size ≤ W0.heap.size from Ba.size)
  clear next Ra Ea Ba q0 q1 hqs HE Hs
  generalize PK.doneP lr k = m at *
  generalize errV m = em at *
  go_region_held3 (fun W => Hid (Below W0.heap.size W0 W) ∧ W.cell? ⟨qb, 0, none⟩ = some (.slice a' lr.length c') ∧ W.cell? ⟨qb, 1, none⟩ = some (.int .i64 (k : Int))) (assumption)
    (first
      | (go_at_call 13; refine (C13.out _ ?_).mono ?_; assumption; rintro e w' ⟨rfl, rfl⟩)
      | (go_at_call 12; refine (C12.out _ ?_).mono ?_; assumption; rintro e w' ⟨rfl, hk⟩)
      | (go_at_call 14; refine (C14.out _ ?_).mono ?_; assumption; rintro e w' ⟨rfl, hk⟩)
      | (go_at_call 15; refine (C15.out _ ?_).mono ?_; assumption; rintro e w' ⟨rfl, rfl⟩)
      | (go_at_call 16; refine (C16.out _ ?_).mono ?_; assumption; rintro e w' ⟨rfl, hk⟩))
  go_wp2
  go_ret
  rename_i hH
  exact ⟨rfl, HB.out.trans (hH.1.out.mono Hsz.out)⟩
end Go.Proofs.YtincbeipfgbfpaaDoor
