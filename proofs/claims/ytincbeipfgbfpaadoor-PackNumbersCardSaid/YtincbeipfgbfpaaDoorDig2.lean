/-
  The reference writer's Uint and Int, by contracts.
  Conditions: what is laid is at most 2^47 bytes long.
-/
import Derived.Test.YtincbeipfgbfpaaDoorDig
namespace Go.Proofs.YtincbeipfgbfpaaDoor
open Go Go.RowKit

/-- What the reference's writer hands back. -/
def RW (w w' : World) (e : Ending) (l : List UInt8) : Prop :=
  (∃ a n c, e = .returned (.slice a n c) ∧ l.length = n ∧ OwnB w' (.slice a n c) l ∧ ∀ b, Value.ownBlock (.slice a n c) = some b → w.heap.size ≤ b) ∧ Below w.heap.size w w'
theorem add_at (a : Option Addr) (n c : Nat) (l m : List UInt8) (d : ByteArray) (w : World) (hl : l.length = n) (hd : d = str m) (hv : IsB w (.slice a n c) l) (hroom : n + m.length ≤ roomB) :
    Calls Tryd.prog 48 #[.slice a n c, .string d] w fun e w' => RW w w' e (l ++ m) := by
  subst hd hl
  refine (add_any a _ c l (str m) w rfl hv (by rw [str_size]; exact hroom)).mono ?_
  rintro e w' ⟨⟨a', c', rfl, o, h⟩, b⟩
  rw [str_size] at o h ⊢
  rw [str_list] at o
  exact ⟨⟨a', _, c', rfl, by rw [List.length_append], o, h⟩, b⟩

set_option maxHeartbeats 1000000 in
theorem ruint_w (a : Option Addr) (n c : Nat) (l : List UInt8) (u : Nat) (w : World) (hl : l.length = n) (hv : IsB w (.slice a n c) l) (hu : u < 18446744073709551616) (hroom : n + 100 ≤ roomB) :
    Calls Tryd.prog 21 #[.slice a n c, .int .u64 u] w fun e w' => RW w w' e (l ++ (110 :: Lib.decDigits u ++ [59])) := by
  have hlen := decDigits_le u hu
  have HD := Lib.hid (digitsW_any u w hu)
  have HA := Lib.hid (add_at a n c l (110 :: Lib.decDigits u ++ [59]) (⟨#[110]⟩ ++ str (Lib.decDigits u) ++ ⟨#[59]⟩) w hl (by
    rw [show (⟨#[110]⟩ : ByteArray) = str [110] from rfl, show (⟨#[59]⟩ : ByteArray) = str [59] from rfl, str_app, str_app]; rfl) hv (by simp; omega))
  clear hu hv hl hroom
  generalize Lib.decDigits u = ds at *
  have h1 : 1 + (str ds).size ≤ 9223372036854775807 := by rw [str_size]; omega
  have h2 : 1 + (str ds).size + 1 ≤ 9223372036854775807 := by rw [str_size]; omega
  clear hlen
  go_enter Tryd.func21, Tryd.ntmps21
  go_wp2_with fail
  refine HD.out.mono ?_
  rintro e w1 ⟨rfl, rfl⟩
  clear HD
  go_wp2_with fail
  refine HA.out.mono ?_
  rintro e w2 ⟨⟨a', n', c', rfl, hh⟩, b⟩
  have HH := Lib.hid hh
  have HB := Lib.hid b
  clear HA hh b h1 h2
  go_wp2
  go_ret
  exact ⟨⟨a', n', c', rfl, HH.out⟩, HB.out⟩

set_option maxHeartbeats 1000000 in
theorem rint_w (a : Option Addr) (n c : Nat) (l : List UInt8) (u : Int) (w : World) (hl : l.length = n) (hv : IsB w (.slice a n c) l) (hu0 : -9223372036854775808 ≤ u) (hu1 : u ≤ 9223372036854775807) (hroom : n + 100 ≤ roomB) :
    Calls Tryd.prog 20 #[.slice a n c, .int .i64 u] w fun e w' => RW w w' e (l ++ (105 :: Lib.itoa u ++ [59])) := by
  by_cases hneg : u < 0
  · obtain ⟨k, hk⟩ : ∃ k : Nat, -u = k := ⟨u.natAbs, by omega⟩
    have hit : Lib.itoa u = 45 :: Lib.decDigits k := by rw [show u = -(k : Int) by omega, Lib.itoa_neg k (by omega)]
    have hlen := decDigits_le k (by omega)
    have HD := Lib.hid (digitsW_any k w (by omega))
    have HA := Lib.hid (add_at a n c l (105 :: 45 :: Lib.decDigits k ++ [59]) (⟨#[105, 45]⟩ ++ str (Lib.decDigits k) ++ ⟨#[59]⟩) w hl (by
      rw [show (⟨#[105, 45]⟩ : ByteArray) = str [105, 45] from rfl, show (⟨#[59]⟩ : ByteArray) = str [59] from rfl, str_app, str_app]; rfl) hv (by simp; omega))
    rw [hit]
    have w1 : IntKind.i64.wrap (u + 1) = u + 1 := by rw [IntKind.wrap_i64]; omega
    have w2 : IntKind.i64.wrap (-(u + 1)) = -(u + 1) := by rw [IntKind.wrap_i64]; omega
    have w3 : IntKind.u64.wrap (-(u + 1)) = -(u + 1) := by rw [IntKind.wrap_u64]; omega
    have w4 : IntKind.u64.wrap (-(u + 1) + 1) = k := by rw [IntKind.wrap_u64]; omega
    clear hu0 hu1 hv hl hroom hit
    generalize Lib.decDigits k = ds at *
    have h1 : 2 + (str ds).size ≤ 9223372036854775807 := by rw [str_size]; omega
    have h2 : 2 + (str ds).size + 1 ≤ 9223372036854775807 := by rw [str_size]; omega
    clear hlen hk
    go_enter Tryd.func20, Tryd.ntmps20
    go_wp2_with fail
    refine HD.out.mono ?_
    rintro e w1 ⟨rfl, rfl⟩
    clear HD
    go_wp2_with fail
    refine HA.out.mono ?_
    rintro e w2 ⟨⟨a', n', c', rfl, hh⟩, b⟩
    have HH := Lib.hid hh
    have HB := Lib.hid b
    clear HA hh b h1 h2
    go_wp2
    go_ret
    exact ⟨⟨a', n', c', rfl, HH.out⟩, HB.out⟩
  · obtain ⟨k, rfl⟩ : ∃ k : Nat, u = k := ⟨u.toNat, by omega⟩
    rw [Lib.itoa_nonneg]
    have hlen := decDigits_le k (by omega)
    have HD := Lib.hid (digitsW_any k w (by omega))
    have HA := Lib.hid (add_at a n c l (105 :: Lib.decDigits k ++ [59]) (⟨#[105]⟩ ++ str (Lib.decDigits k) ++ ⟨#[59]⟩) w hl (by
      rw [show (⟨#[105]⟩ : ByteArray) = str [105] from rfl, show (⟨#[59]⟩ : ByteArray) = str [59] from rfl, str_app, str_app]; rfl) hv (by simp; omega))
    have w3 : IntKind.u64.wrap (k : Int) = k := by rw [IntKind.wrap_u64]; omega
    clear hu0 hu1 hv hl hroom
    generalize Lib.decDigits k = ds at *
    have h1 : 1 + (str ds).size ≤ 9223372036854775807 := by rw [str_size]; omega
    have h2 : 1 + (str ds).size + 1 ≤ 9223372036854775807 := by rw [str_size]; omega
    clear hlen
    go_enter Tryd.func20, Tryd.ntmps20
    go_wp2_with fail
    refine HD.out.mono ?_
    rintro e w1 ⟨rfl, rfl⟩
    clear HD
    go_wp2_with fail
    refine HA.out.mono ?_
    rintro e w2 ⟨⟨a', n', c', rfl, hh⟩, b⟩
    have HH := Lib.hid hh
    have HB := Lib.hid b
    clear HA hh b h1 h2
    go_wp2
    go_ret
    exact ⟨⟨a', n', c', rfl, HH.out⟩, HB.out⟩
end Go.Proofs.YtincbeipfgbfpaaDoor
