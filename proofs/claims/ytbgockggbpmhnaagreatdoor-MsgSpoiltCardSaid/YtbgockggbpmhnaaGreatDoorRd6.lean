/-
  pack.Reader's Bool by a contract.
  Conditions: none but the reader's block.
-/
import Derived.Test.YtbgockggbpmhnaaGreatDoorRd4
namespace Go.Proofs.YtbgockggbpmhnaaGreatDoor
open Go Go.RowKit

set_option maxHeartbeats 1000000 in
/-- Bool. -/
theorem bool_any (N : Nat) (l : List UInt8) (k : Nat) (w : World) (h : Rd w N l k) :
    Calls Tryz.prog 27 #[.pointer (some ⟨N, 0, none⟩)] w fun v w' => v = .returned (.bool (PK.boolP l k).1) ∧ Rd w' N (PK.boolP l k).2.1 (PK.boolP l k).2.2 ∧ Fr (fun i => i = N) w w' := by
  have HB := Lib.hid (begin_any N l k ⟨#[121, 122]⟩ w h (by decide))
  have H := Lib.hid h
  have hbe : (⟨#[121, 122]⟩ : ByteArray).data.toList = [121, 122] := rfl
  rw [hbe] at HB
  clear h hbe
  by_cases hy : k ≠ 0 ∨ PK.begP [121, 122] l ≠ 0
  · obtain ⟨e, he, hi⟩ : ∃ e, (if k = 0 then PK.begP [121, 122] l else k) = e + 1 ∧ PK.boolP l k = (false, l, e + 1) := by
      by_cases hk : k = 0
      · subst hk
        have hb : PK.begP [121, 122] l ≠ 0 := by simpa using hy
        refine ⟨PK.begP [121, 122] l - 1, by rw [if_pos rfl]; omega, ?_⟩
        unfold PK.boolP
        rw [if_neg (by simp), if_pos hb, show PK.begP [121, 122] l - 1 + 1 = PK.begP [121, 122] l from by omega]
      · refine ⟨k - 1, by rw [if_neg hk]; omega, ?_⟩
        unfold PK.boolP
        rw [if_pos hk, show k - 1 + 1 = k from by omega]
    have He := Lib.hid he
    have Hi := Lib.hid hi
    clear hy he hi
    go_enter Tryz.func27, Tryz.ntmps27
    go_wp2_with fail
    refine HB.out.mono ?_
    rintro v w1 ⟨rfl, b1⟩
    have B1 := Lib.hid b1
    clear b1
    have HF := Lib.hid (fails_yes N l k (PK.begP [121, 122] l) e w1 (H.out.below B1.out) He.out)
    go_wp2_with fail
    refine HF.out.mono ?_
    rintro v w2 ⟨rfl, r2, f2⟩
    have R2 := Lib.hid r2
    have F2 := Lib.hid f2
    clear r2 f2
    go_wp2
    go_ret
    rw [Hi.out]
    exact ⟨rfl, R2.out, (Fr.of_below B1.out).trans F2.out⟩
  · obtain rfl : k = 0 := by omega
    have hb0 : PK.begP [121, 122] l = 0 := by omega
    have hl : l ≠ [] := by rintro rfl; simp [PK.begP] at hb0
    have hi : PK.boolP l 0 = (l.head? == some 121, l.drop 1, 0) := by unfold PK.boolP; rw [if_neg (by simp), if_neg (by simp [hb0])]
    rw [hb0] at HB
    have Hi := Lib.hid hi
    have hlen : 1 ≤ l.length := by cases l with | nil => exact absurd rfl hl | cons _ _ => simp
    have Hlen := Lib.hid hlen
    have Hl := Lib.hid hl
    obtain ⟨x, hx⟩ : ∃ x, at8 l 0 = x := ⟨_, rfl⟩
    have hhead : (l.head? == some 121) = (x == 121) := by
      cases l with
      | nil => exact absurd rfl hl
      | cons c r =>
        have : at8 (c :: r) 0 = (c.toNat : Int) := by simp [at8]
        rw [← hx, this]
        simp only [List.head?_cons]
        rw [Bool.eq_iff_iff]
        simp only [beq_iff_eq, Option.some.injEq]
        constructor
        · rintro rfl; rfl
        · intro h; exact UInt8.toNat_inj.1 (show c.toNat = 121 by omega)
    have Hhead := Lib.hid hhead
    have Hx := Lib.hid hx
    clear hy hb0 hi hlen hl hhead hx
    go_enter Tryz.func27, Tryz.ntmps27
    go_wp2_with fail
    refine HB.out.mono ?_
    rintro v w1 ⟨rfl, b1⟩
    have B1 := Lib.hid b1
    clear b1
    have HF := Lib.hid (fails_no N l w1 (H.out.below B1.out))
    go_wp2_with fail
    refine HF.out.mono ?_
    rintro v w2 ⟨rfl, r2, f2⟩
    have F2 := Lib.hid f2
    obtain ⟨_, a, c, hh, hv⟩ := id r2
    obtain ⟨p0, p1, p2, p3⟩ := cells2 hh
    obtain ⟨hsl, hv2⟩ := rest_from hv 1 Hlen.out
    rw [show ((1 : Nat) : Int) = 1 from rfl] at hsl
    obtain ⟨_, _, _, b, o, rfl, hc⟩ := hv.open_cons Hl.out
    have hc0 := hc 0 (by have := Hlen.out; omega)
    rw [Hx.out, Nat.add_zero] at hc0
    obtain ⟨R3, F3⟩ := r2.setRest (cutAt (some ⟨b, o, none⟩) 1 c) (l.length - 1) (c - 1) (by simp) hv2
    have HR := Lib.hid R3
    have HF3 := Lib.hid F3
    have hpos : (0 : Int) < (l.length : Int) := by have := Hlen.out; omega
    clear r2 f2 hh hv hv2 hc R3 F3
    go_wp2
    go_ret
    rw [Hi.out, Hhead.out]
    exact ⟨rfl, HR.out, (Fr.of_below B1.out).trans (F2.out.trans HF3.out)⟩
end Go.Proofs.YtbgockggbpmhnaaGreatDoor
