/-
  The reference writer's Uint and Int, by contracts.
  Conditions: what is laid is at most 2^47 bytes long.
-/
import Derived.Test.YtbgockggbpmhnaaGreatDoorDig
namespace Go.Proofs.YtbgockggbpmhnaaGreatDoor
open Go Go.RowKit

/-- What the reference's writer hands back. -/
def RW (w w' : World) (e : Ending) (l : List UInt8) : Prop :=
  (∃ a n c, e = .returned (.slice a n c) ∧ l.length = n ∧ OwnB w' (.slice a n c) l ∧ ∀ b, Value.ownBlock (.slice a n c) = some b → w.heap.size ≤ b) ∧ Below w.heap.size w w'
theorem add_at (a : Option Addr) (n c : Nat) (l m : List UInt8) (d : ByteArray) (w : World) (hl : l.length = n) (hd : d = str m) (hv : IsB w (.slice a n c) l) (hroom : n + m.length ≤ roomB) :
    Calls Tryz.prog 73 #[.slice a n c, .string d] w fun e w' => RW w w' e (l ++ m) := by
  subst hd hl
  refine (add_any a _ c l (str m) w rfl hv (by rw [str_size]; exact hroom)).mono ?_
  rintro e w' ⟨⟨a', c', rfl, o, h⟩, b⟩
  rw [str_size] at o h ⊢
  rw [str_list] at o
  exact ⟨⟨a', _, c', rfl, by rw [List.length_append], o, h⟩, b⟩

set_option maxHeartbeats 1000000 in
theorem ruint_w (a : Option Addr) (n c : Nat) (l : List UInt8) (u : Nat) (w : World) (hl : l.length = n) (hv : IsB w (.slice a n c) l) (hu : u < 18446744073709551616) (hroom : n + 100 ≤ roomB) :
    Calls Tryz.prog 47 #[.slice a n c, .int .u64 u] w fun e w' => RW w w' e (l ++ (110 :: Lib.decDigits u ++ [59])) := by
  have hlen := decDigits_le u hu
  have HD := Lib.hid (digitsW_any u w hu)
  have HA := Lib.hid (add_at a n c l (110 :: Lib.decDigits u ++ [59]) (⟨#[110]⟩ ++ str (Lib.decDigits u) ++ ⟨#[59]⟩) w hl (by
    rw [show (⟨#[110]⟩ : ByteArray) = str [110] from rfl, show (⟨#[59]⟩ : ByteArray) = str [59] from rfl, str_app, str_app]; rfl) hv (by simp; omega))
  clear hu hv hl hroom
  generalize Lib.decDigits u = ds at *
  have h1 : 1 + (str ds).size ≤ 9223372036854775807 := by rw [str_size]; omega
  have h2 : 1 + (str ds).size + 1 ≤ 9223372036854775807 := by rw [str_size]; omega
  clear hlen
  go_enter Tryz.func47, Tryz.ntmps47
  go_wp2_with fail
  refine HD.out.mono ?_
  rintro e w1 ⟨rfl, rfl⟩
  clear HD
  go_wp2_with fail
  refine HA.out.mono ?_
  rintro e w2 ⟨⟨a', n', c', rfl, hh⟩, b⟩
  have HH := Lib.hid hh
  have HB := Lib.hid b
  clear HA hh b h1 h2
  go_wp2
  go_ret
  exact ⟨⟨a', n', c', rfl, HH.out⟩, HB.out⟩

end Go.Proofs.YtbgockggbpmhnaaGreatDoor
