/-
  The reference writer's Bool and Bytes, by contracts.
  Conditions: what is laid is at most 2^47 bytes long.
-/
import Derived.Test.YtbgockggbpmhnaaGreatDoorDig2
import Derived.Deep.RegionHeld3
namespace Go.Proofs.YtbgockggbpmhnaaGreatDoor
open Go Go.RowKit

set_option maxHeartbeats 1000000 in
theorem rbool_w (a : Option Addr) (n c : Nat) (l : List UInt8) (b : Bool) (w : World) (hl : l.length = n) (hv : IsB w (.slice a n c) l) (hroom : n + 1 ≤ roomB) :
    Calls Tryz.prog 49 #[.slice a n c, .bool b] w fun e w' => RW w w' e (l ++ [if b then 121 else 122]) := by
  have HA : ∀ u : UInt8, Hid (Calls Tryz.prog 73 #[.slice a n c, .string ⟨#[u]⟩] w fun e w' => RW w w' e (l ++ [u])) := fun u => Lib.hid (add_at a n c l [u] ⟨#[u]⟩ w hl rfl hv (by simpa using hroom))
  cases b with
  | true =>
    have H1 := HA 121
    clear HA hl hv hroom
    go_enter Tryz.func49, Tryz.ntmps49
    go_wp2_with fail
    refine H1.out.mono ?_
    rintro e w2 ⟨⟨a', n', c', rfl, hh⟩, b⟩
    have HH := Lib.hid hh
    have HB := Lib.hid b
    clear H1 hh b
    go_wp2
    go_ret
    exact ⟨⟨a', n', c', rfl, HH.out⟩, HB.out⟩
  | false =>
    have H1 := HA 122
    clear HA hl hv hroom
    go_enter Tryz.func49, Tryz.ntmps49
    go_wp2_with fail
    refine H1.out.mono ?_
    rintro e w2 ⟨⟨a', n', c', rfl, hh⟩, b⟩
    have HH := Lib.hid hh
    have HB := Lib.hid b
    clear H1 hh b
    go_wp2
    go_ret
    exact ⟨⟨a', n', c', rfl, HH.out⟩, HB.out⟩

set_option maxRecDepth 100000 in
set_option maxHeartbeats 2000000 in
theorem rbytes_w (a : Option Addr) (n c : Nat) (l : List UInt8) (x : Option Addr) (xn xc : Nat) (d : List UInt8) (w : World) (hl : l.length = n) (hd : d.length = xn) (hv : IsB w (.slice a n c) l) (hx : IsB w (.slice x xn xc) d) (hroom : n + xn + 100 ≤ roomB) :
    Calls Tryz.prog 48 #[.slice a n c, .slice x xn xc] w fun e w' => RW w w' e (l ++ (98 :: Lib.decDigits xn ++ [58]) ++ d) := by
  subst hd
  have hdl := hx.len
  have hu : d.length < 18446744073709551616 := by simp only [maxLen] at hdl; omega
  have hlen := decDigits_le d.length hu
  have hwrap : IntKind.u64.wrap (d.length : Int) = (d.length : Int) := by rw [IntKind.wrap_u64]; omega
  have HD := Lib.hid (fun W : World => digitsW_any d.length W hu)
  have HA : Hid (∀ W, Hid (Below w.heap.size w W) → Calls Tryz.prog 73 #[.slice a n c, .string (⟨#[98]⟩ ++ str (Lib.decDigits d.length) ++ ⟨#[58]⟩ ++ str d)] W fun e w' => (∃ a n c, e = .returned (.slice a n c) ∧ Hid ((l ++ (98 :: Lib.decDigits d.length ++ [58]) ++ d).length = n ∧ OwnB w' (.slice a n c) (l ++ (98 :: Lib.decDigits d.length ++ [58]) ++ d) ∧ ∀ b, Value.ownBlock (.slice a n c) = some b → w.heap.size ≤ b)) ∧ Hid (Below w.heap.size w w')) := fun W hW => by
    have := add_at a n c l ((98 :: Lib.decDigits d.length ++ [58]) ++ d) (⟨#[98]⟩ ++ str (Lib.decDigits d.length) ++ ⟨#[58]⟩ ++ str d) W hl (by
      rw [show (⟨#[98]⟩ : ByteArray) = str [98] from rfl, show (⟨#[58]⟩ : ByteArray) = str [58] from rfl, str_app, str_app, str_app]; rfl) (hv.below hW.out) (by simp; omega)
    refine this.mono ?_
    rw [← List.append_assoc]
    rintro e w' ⟨⟨a', n', c', rfl, h1, h2, h3⟩, b⟩
    exact ⟨⟨a', n', c', rfl, h1, h2, fun b hb => Nat.le_trans hW.out.size (h3 b hb)⟩, hW.out.trans (b.mono hW.out.size)⟩
  have ecv : ∀ W : World, Hid (Below w.heap.size w W) → (convert 22 9 (.slice x d.length xc)).run Tryz.prog W = .ok (.string (str d)) W := fun W h => run_toStr T22 U9 (hx.below h.out)
  have S0 : Hid (Below w.heap.size w w.drew) := (Below.refl _ _).drew
  have h1 : ¬ 9223372036854775807 < 1 + (str (Lib.decDigits d.length)).size := by rw [str_size]; omega
  have h2 : ¬ 9223372036854775807 < 1 + (str (Lib.decDigits d.length)).size + 1 := by rw [str_size]; omega
  have h3 : ¬ 9223372036854775807 < 1 + (str (Lib.decDigits d.length)).size + 1 + (str d).size := by rw [str_size, str_size]; simp only [maxLen] at hdl; simp only [roomB] at hroom; omega
  clear hv hx hroom hl hlen hdl
  generalize hL : l ++ (98 :: Lib.decDigits d.length ++ [58]) ++ d = L at *
  clear hL
  generalize hm : d.length = m at *
  generalize Lib.decDigits m = ds at *
  generalize str d = sd at *
  clear hm
  go_enter Tryz.func48, Tryz.ntmps48
  go_wp2_with fail
  go_region_held3 (fun W => Hid (Below w.heap.size w W)) (assumption)
    (first
      | (go_at_call 74; refine (HD.out _).mono ?_; rintro e w' ⟨rfl, rfl⟩)
      | (go_at_call 73; refine (HA.out _ ?_).mono ?_; assumption; rintro e w' ⟨⟨a', n', c', rfl, hh⟩, hk⟩))
  go_wp2
  go_ret
  exact ⟨⟨_, _, _, rfl, hh.out⟩, hk.out⟩
end Go.Proofs.YtbgockggbpmhnaaGreatDoor
