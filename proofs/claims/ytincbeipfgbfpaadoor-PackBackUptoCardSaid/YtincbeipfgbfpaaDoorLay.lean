/-
  tollbarlaw01.lay by a contract: a thing laid.
  Conditions: the listed variables read as listed ('Env'); the thing's bytes lie below the writer's blocks; what is laid is at most 2^47 bytes long.
-/
import Derived.Test.YtincbeipfgbfpaaDoorWr2
import Derived.Test.YtincbeipfgbfpaaDoorPure3
namespace Go.Proofs.YtincbeipfgbfpaaDoor
open Go Go.RowKit

theorem wrap_u64_nat (n : Int) : IntKind.u64.wrap n = ((PK.u64 n : Nat) : Int) := by
  rw [IntKind.wrap_u64]; unfold PK.u64; omega

set_option maxRecDepth 100000 in
set_option maxHeartbeats 2000000 in
theorem lay_of (B M : Nat) (l : List UInt8) (kd n : Int) (a : Option Addr) (m c : Nat) (b : List UInt8) (w : World) (h : Wr w B M l) (hv : IsB w (.slice a m c) b) (hxb : b ≠ [] → ∀ k, Value.ownBlock (.slice a m c) = some k → k < B)
    (hn0 : -9223372036854775808 ≤ n) (hn1 : n ≤ 9223372036854775807) (hroom : l.length + b.length + 25 ≤ roomB) (hE : Env w) :
    Calls Tryd.prog 30 #[.pointer (some ⟨M, 0, none⟩), .agg #[.int .i64 kd, .int .i64 n, .slice a m c]] w fun e w' => e = .returned (.pointer (some ⟨M, 0, none⟩)) ∧ Wr w' B M (l ++ PK.layP ⟨PK.u64 kd % 5, n, b⟩) ∧ Below B w w' := by
  have hm : m = b.length := by obtain ⟨_, _, e, _⟩ := hv; simp at e; exact e.2.1
  subst hm
  have hb : B ≤ w.heap.size := Nat.le_of_lt (Nat.lt_of_le_of_lt h.base h.lt)
  have hd1 : (Lib.decDigits (PK.u64 n)).length ≤ 20 := PK.dec_le _ (PK.u64_lt n)
  have hd2 := Lib.itoa_length_le n hn0 hn1
  have hbl : b.length ≤ maxLen := hv.len
  have hd3 : (Lib.itoa b.length).length ≤ 20 := by rw [Lib.itoa_nonneg]; exact PK.dec_le _ (by simp only [maxLen] at hbl; omega)
  have HU : Hid (∀ w1, Below w.heap.size w w1 → Calls Tryd.prog 18 #[.pointer (some ⟨M, 0, none⟩), .int .u64 ((PK.u64 n : Nat) : Int)] w1 fun e w' => e = .returned (.pointer (some ⟨M, 0, none⟩)) ∧ Wr w' B M (l ++ (110 :: Lib.decDigits (PK.u64 n) ++ [59])) ∧ Below B w w') := fun w1 b1 =>
    (wuint_any B M l (PK.u64 n) w1 (h.below b1) (PK.u64_lt n) (by omega) (hE.below b1)).mono fun e w' ⟨e1, e2, e3⟩ => ⟨e1, e2, (b1.mono hb).trans e3⟩
  have HI : Hid (∀ w1, Below w.heap.size w w1 → Calls Tryd.prog 19 #[.pointer (some ⟨M, 0, none⟩), .int .i64 n] w1 fun e w' => e = .returned (.pointer (some ⟨M, 0, none⟩)) ∧ Wr w' B M (l ++ (105 :: Lib.itoa n ++ [59])) ∧ Below B w w') := fun w1 b1 =>
    (wint_any B M l n w1 (h.below b1) hn0 hn1 (by omega) (hE.below b1)).mono fun e w' ⟨e1, e2, e3⟩ => ⟨e1, e2, (b1.mono hb).trans e3⟩
  have HB : Hid (∀ w1, Below w.heap.size w w1 → Calls Tryd.prog 43 #[.pointer (some ⟨M, 0, none⟩), .bool (decide (0 < n))] w1 fun e w' => e = .returned (.pointer (some ⟨M, 0, none⟩)) ∧ Wr w' B M (l ++ [if decide (0 < n) then 121 else 122]) ∧ Below B w w') := fun w1 b1 =>
    (wbool_any B M l (decide (0 < n)) w1 (h.below b1) (by omega)).mono fun e w' ⟨e1, e2, e3⟩ => ⟨e1, e2, (b1.mono hb).trans e3⟩
  have HT : Hid (∀ w1, Below w.heap.size w w1 → Calls Tryd.prog 44 #[.pointer (some ⟨M, 0, none⟩), .string (str b)] w1 fun e w' => e = .returned (.pointer (some ⟨M, 0, none⟩)) ∧ Wr w' B M (l ++ (116 :: Lib.itoa b.length ++ [58] ++ b)) ∧ Below B w w') := fun w1 b1 =>
    (wtext_any B M l (str b) w1 (h.below b1) hbl (by rw [str_size]; omega) (hE.below b1)).mono fun e w' ⟨e1, e2, e3⟩ => ⟨e1, by rw [str_size, str_list, List.append_assoc] at e2; exact e2, (b1.mono hb).trans e3⟩
  have HX : Hid (∀ w1, Below w.heap.size w w1 → Calls Tryd.prog 59 #[.pointer (some ⟨M, 0, none⟩), .slice a b.length c] w1 fun e w' => e = .returned (.pointer (some ⟨M, 0, none⟩)) ∧ Wr w' B M (l ++ (98 :: Lib.itoa b.length ++ [58] ++ b)) ∧ Below B w w') := fun w1 b1 =>
    (wbytes_any B M l a b.length c b w1 (h.below b1) (hv.below b1) hxb (by omega) (hE.below b1)).mono fun e w' ⟨e1, e2, e3⟩ => ⟨e1, by rw [List.append_assoc] at e2; exact e2, (b1.mono hb).trans e3⟩
  have hal : Below w.heap.size w (w.alloc (.cells #[.int .i64 kd, .int .i64 n, .slice a b.length c] 61)) := (Below.refl _ _).alloc (Nat.le_refl _) _
  have Hal := Lib.hid hal
  have hcv : ∀ W : World, (convert 22 9 (.slice a b.length c)).run Tryd.prog (w.alloc (.cells #[.int .i64 kd, .int .i64 n, .slice a b.length c] 61)) = .ok (.string (str b)) (w.alloc (.cells #[.int .i64 kd, .int .i64 n, .slice a b.length c] 61)) := fun _ => run_toStr T22 U9 (hv.below hal)
  have hwk := wrap_u64_nat kd
  have hwn := wrap_u64_nat n
  have hu := PK.u64_lt kd
  generalize hku : PK.u64 kd = u at *
  clear hku
  have h5 : u % 5 = 0 ∨ u % 5 = 1 ∨ u % 5 = 2 ∨ u % 5 = 3 ∨ u % 5 = 4 := by omega
  have hcv' := hcv w
  clear h hv hxb hroom hE hb hd1 hd2 hbl hd3 hal hn0 hn1 hcv
  rcases h5 with h5 | h5 | h5 | h5 | h5
  · have HL : Hid (PK.layP ⟨u % 5, n, b⟩ = 110 :: Lib.decDigits (PK.u64 n) ++ [59]) := by rw [h5]; exact Lib.hid rfl
    have hm5 : (u : Int) % 5 = 0 := by omega
    clear h5
    generalize PK.u64 n = un at *
    go_enter Tryd.func30, Tryd.ntmps30
    go_wp2_with fail
    refine (HU.out _ Hal.out).mono ?_
    rintro e w' ⟨rfl, h1⟩
    have H1 := Lib.hid h1
    clear h1 HU HI HB HT HX
    go_wp2
    go_ret
    rw [HL.out]
    exact ⟨rfl, H1.out⟩
  · have HL : Hid (PK.layP ⟨u % 5, n, b⟩ = 105 :: Lib.itoa n ++ [59]) := by rw [h5]; exact Lib.hid rfl
    have hm5 : (u : Int) % 5 = 1 := by omega
    clear h5
    generalize PK.u64 n = un at *
    go_enter Tryd.func30, Tryd.ntmps30
    go_wp2_with fail
    refine (HI.out _ Hal.out).mono ?_
    rintro e w' ⟨rfl, h1⟩
    have H1 := Lib.hid h1
    clear h1 HU HI HB HT HX
    go_wp2
    go_ret
    rw [HL.out]
    exact ⟨rfl, H1.out⟩
  · have HL : Hid (PK.layP ⟨u % 5, n, b⟩ = [if decide (0 < n) then 121 else 122]) := by rw [h5]; exact Lib.hid rfl
    have hm5 : (u : Int) % 5 = 2 := by omega
    clear h5
    generalize PK.u64 n = un at *
    go_enter Tryd.func30, Tryd.ntmps30
    go_wp2_with fail
    refine (HB.out _ Hal.out).mono ?_
    rintro e w' ⟨rfl, h1⟩
    have H1 := Lib.hid h1
    clear h1 HU HI HB HT HX
    go_wp2
    go_ret
    rw [HL.out]
    exact ⟨rfl, H1.out⟩
  · have HL : Hid (PK.layP ⟨u % 5, n, b⟩ = 116 :: Lib.itoa b.length ++ [58] ++ b) := by rw [h5]; exact Lib.hid rfl
    have hm5 : (u : Int) % 5 = 3 := by omega
    clear h5
    generalize PK.u64 n = un at *
    go_enter Tryd.func30, Tryd.ntmps30
    go_wp2_with fail
    refine (HT.out _ Hal.out).mono ?_
    rintro e w' ⟨rfl, h1⟩
    have H1 := Lib.hid h1
    clear h1 HU HI HB HT HX
    go_wp2
    go_ret
    rw [HL.out]
    exact ⟨rfl, H1.out⟩
  · have HL : Hid (PK.layP ⟨u % 5, n, b⟩ = 98 :: Lib.itoa b.length ++ [58] ++ b) := by rw [h5]; exact Lib.hid rfl
    have hm5 : (u : Int) % 5 = 4 := by omega
    clear h5
    generalize PK.u64 n = un at *
    go_enter Tryd.func30, Tryd.ntmps30
    go_wp2_with fail
    refine (HX.out _ Hal.out).mono ?_
    rintro e w' ⟨rfl, h1⟩
    have H1 := Lib.hid h1
    clear h1 HU HI HB HT HX
    go_wp2
    go_ret
    rw [HL.out]
    exact ⟨rfl, H1.out⟩
end Go.Proofs.YtincbeipfgbfpaaDoor
