/-
  The reference writer's Digits, add, Uint and Int, by contracts.
  Conditions: what is laid is at most 2^47 bytes long.
  The reference writer's Uint and Int, by contracts.
  Conditions: what is laid is at most 2^47 bytes long.
  The reference writer's Bool and Bytes, by contracts.
  Conditions: what is laid is at most 2^47 bytes long.
  The document's Parts of an amount, by a contract.
  Conditions: an amount (whole numbers from 0 to 2^40).
  The document's Text and Put (an amount laid), by contracts.
  Conditions: a text of at most 2^40 bytes; an amount (whole numbers from 0 to 2^40); room for what is laid.
-/
import Derived.Test.YtflghelhdalhiaaGreatDoorG5
import Derived.Lib.ItoaLen
import Derived.Deep.RegionHeld3
import Derived.Test.YtflghelhdalhiaaGreatDoorG7
import Derived.Test.YtflghelhdalhiaaGreatDoorG9
namespace Go.Proofs.YtflghelhdalhiaaGreatDoor
open Go Go.RowKit

def emptyB : Value → Nat
  | .string s => if s.size = 0 then 1 else 0
  | _ => 0

theorem str_app (l m : List UInt8) : str l ++ str m = str (l ++ m) := by
  apply ByteArray.ext
  rw [ByteArray.data_append]
  simp [str]
theorem digit_piece : ∀ d, d < 10 → (⟨#[48, 49, 50, 51, 52, 53, 54, 55, 56, 57]⟩ : ByteArray).extract d (d + 1) = str [UInt8.ofNat (48 + d)] := by decide
theorem decDigits_ne (u : Nat) : Lib.decDigits u ≠ [] := by
  rw [Lib.decDigits]
  split <;> simp
theorem decDigits_le (u : Nat) (hu : u < 18446744073709551616) : (Lib.decDigits u).length ≤ 20 := by
  rw [Lib.decDigits_length]
  exact Lib.nDigits_le20 u hu
/-- One round of the reference's digits. -/
theorem digits_step {u n : Nat} {s : List UInt8} (h : Lib.decDigits u = Lib.decDigits n ++ s) :
    (n / 10 = 0 ∧ [UInt8.ofNat (48 + n % 10)] ++ s ≠ [] ∧ Lib.decDigits u = [UInt8.ofNat (48 + n % 10)] ++ s) ∨
    ((0 < n / 10 ∨ [UInt8.ofNat (48 + n % 10)] ++ s = []) ∧ Lib.decDigits u = Lib.decDigits (n / 10) ++ ([UInt8.ofNat (48 + n % 10)] ++ s)) := by
  by_cases hn : n < 10
  · rw [Lib.decDigits_one hn] at h
    exact .inl ⟨by omega, by simp, by rw [h, Nat.mod_eq_of_lt hn]⟩
  · have e : Lib.decDigits n = Lib.decDigits (n / 10) ++ [UInt8.ofNat (48 + n % 10)] := by rw [Lib.decDigits, dif_neg hn]
    rw [e] at h
    exact .inr ⟨.inl (by omega), by rw [h, List.append_assoc]⟩

set_option maxHeartbeats 2000000 in
set_option maxRecDepth 100000 in
theorem digitsW_any (u : Nat) (w : World) (hu : u < 18446744073709551616) :
    Calls Tryz.prog 72 #[.int .u64 u] w fun e w' => e = .returned (.string (str (Lib.decDigits u))) ∧ w = w' := by
  have Hlen := Lib.hid (decDigits_le u hu)
  have Hu := Lib.hid hu
  clear hu
  go_enter Tryz.func72, Tryz.ntmps72
  go_wp2
  go_loop [0, 3] (fun v0 v3 => ∃ (n : Nat) (s : List UInt8), v0 = .int .u64 (n : Int) ∧ v3 = .string (str s) ∧ Hid (n < 18446744073709551616) ∧ Hid ((n = 0 ∧ s ≠ [] ∧ Lib.decDigits u = s) ∨ ((0 < n ∨ s = []) ∧ Lib.decDigits u = Lib.decDigits n ++ s))) (fun v0 v3 => 2 * (intOf v0).toNat + emptyB v3)
  case atStart => exact ⟨u, [], rfl, rfl, Hu, .inr ⟨.inr rfl, by simp⟩⟩
  case round =>
    obtain ⟨n, s, rfl, rfl, Hn, H⟩ := hrel
    by_cases h0 : 0 < n
    · have h1 : (0 : Int) < n := by omega
      have HD : Hid (Lib.decDigits u = Lib.decDigits n ++ s) := by rcases H.out with ⟨h, _⟩ | ⟨_, h⟩; exact absurd h (by omega); exact h
      have hb : min (n % 10 + 1) 10 - n % 10 + (str s).size ≤ 9223372036854775807 := by
        have h2 := Hlen.out
        rw [HD.out, List.length_append] at h2
        rw [str_size]
        omega
      have hw : IntKind.u64.wrap ((n : Int) / 10) = (n : Int) / 10 := by have := Hn.out; rw [IntKind.wrap_u64]; omega
      go_wp2
      rw [digit_piece (n % 10) (Nat.mod_lt _ (by decide)), str_app]
      refine ⟨⟨n / 10, _, by simp, rfl, by have := Hn.out; exact Lib.hid (by omega), digits_step HD.out⟩, ?_⟩
      simp [intOf, emptyB, str_size]
      omega
    · obtain rfl : n = 0 := by omega
      by_cases hs : s = []
      · subst hs
        have HD : Hid (Lib.decDigits u = Lib.decDigits 0 ++ []) := by rcases H.out with ⟨_, h, _⟩ | ⟨_, h⟩; exact absurd rfl h; exact h
        have ht : (str []).toList.isEmpty = true := by rw [ByteArray.toList_eq]; rfl
        have hb : ¬ (9223372036854775807 < 1 + (str []).size) := by rw [str_size]; decide
        go_wp2
        rw [digit_piece 0 (by decide), str_app]
        refine ⟨⟨0, _, rfl, rfl, Lib.hid (by decide), digits_step HD.out⟩, ?_⟩
        simp [intOf, emptyB, str_size]
      · have HD : Hid (Lib.decDigits u = s) := by rcases H.out with ⟨_, _, h⟩ | ⟨h, _⟩; exact h; rcases h with h | h; exact absurd h (by omega); exact absurd h hs
        have ht : (str s).toList.isEmpty = false := by rw [ByteArray.toList_eq]; show s.isEmpty = false; cases s <;> simp_all
        clear hs
        go_wp2
        go_ret
        rw [HD.out]
        exact ⟨rfl, rfl⟩

theorem own_new {H : Nat} {a' : Option Addr} {n c : Nat} (b1 : Value.ownBlock (.slice a' n c) = Value.ownBlock (.slice none 0 0) ∨ ∃ g, a' = some ⟨g, 0, none⟩ ∧ H ≤ g) : ∀ b, Value.ownBlock (.slice a' n c) = some b → H ≤ b := by
  intro b hb
  rcases b1 with b1 | ⟨g, rfl, hg⟩
  · rw [b1] at hb; simp [Value.ownBlock] at hb
  · simp [Value.ownBlock] at hb; omega
theorem own_next2 {w w1 : World} {v : Value} {a' : Option Addr} {n c : Nat} (f : Below w.heap.size w w1) (h : ∀ b, v.ownBlock = some b → w.heap.size ≤ b)
    (b1 : Value.ownBlock (.slice a' n c) = v.ownBlock ∨ ∃ g, a' = some ⟨g, 0, none⟩ ∧ w1.heap.size ≤ g) : ∀ b, Value.ownBlock (.slice a' n c) = some b → w.heap.size ≤ b := by
  intro b hb
  rcases b1 with b1 | ⟨g, rfl, hg⟩
  · exact h b (b1 ▸ hb)
  · have := f.size
    simp [Value.ownBlock] at hb; omega
theorem below_then {w w1 w2 : World} (f : Below w.heap.size w w1) (g : Fr (fun k => w.heap.size ≤ k) w1 w2) : Below w.heap.size w w2 :=
  f.trans ⟨g.os, g.tape, g.output, g.size, fun k hk => g.block k (Nat.lt_of_lt_of_le hk f.size) (by omega)⟩

set_option maxHeartbeats 1000000 in
/-- add: a fresh slice of what was there and the text. -/
theorem add_any (a : Option Addr) (n c : Nat) (l : List UInt8) (d : ByteArray) (w : World) (hl : l.length = n) (hv : IsB w (.slice a n c) l) (hroom : n + d.size ≤ roomB) :
    Calls Tryz.prog 71 #[.slice a n c, .string d] w fun e w' => (∃ a' c', e = .returned (.slice a' (n + d.size) c') ∧ OwnB w' (.slice a' (n + d.size) c') (l ++ d.data.toList) ∧ ∀ b, Value.ownBlock (.slice a' (n + d.size) c') = some b → w.heap.size ≤ b) ∧ Below w.heap.size w w' := by
  have hds : d.data.toList.length = d.size := Array.length_toList
  have Hds := Lib.hid hds
  have Hl := Lib.hid hl
  have Hroom := Lib.hid hroom
  have S0 : Hid (SrcB Tryz.prog 22 w (.slice a n c) l) := srcB_of Tryz.underlying22 hv
  clear hds hl hroom hv
  go_enter Tryz.func71, Tryz.ntmps71
  go_wp2_with (first
    | (at_builtin; refine wpList_appN rfl (.tmp 6) (.tmp 7) rfl T22 (n := 0) (m := n) rfl Hl.out rfl (OwnB.nil w) rfl S0.out (by have := Hroom.out; omega) ?_; intro a1 c1 w1 o1 g1 b1; rw [Nat.zero_add] at o1 b1; have O1 := Lib.hid o1; have G1 := Lib.hid (Fr.below (g1.mono (Y := fun _ => False) (fun k _ hk => nomatch hk))); have B1 := Lib.hid (own_new b1); clear o1 g1 b1)
    | (at_builtin; refine wpList_appN rfl (.tmp 9) (.tmp 10) rfl T22 (n := n) (m := d.size) Hl.out Hds.out rfl O1.out rfl (srcB_str w1 U9 d) Hroom.out ?_; intro a2 c2 w2 o2 g2 b2; have O2 := Lib.hid o2; have G2 := Lib.hid (below_then G1.out (Fr.mono (Y := fun k => w.heap.size ≤ k) g2 (fun k _ hk => B1.out k hk))); have B2 := Lib.hid (own_next2 G1.out B1.out b2); clear o2 g2 b2))
  go_ret
  exact ⟨⟨_, _, rfl, O2.out, B2.out⟩, G2.out⟩
end Go.Proofs.YtflghelhdalhiaaGreatDoor

namespace Go.Proofs.YtflghelhdalhiaaGreatDoor
open Go Go.RowKit

/-- What the reference's writer hands back. -/
def RW (w w' : World) (e : Ending) (l : List UInt8) : Prop :=
  (∃ a n c, e = .returned (.slice a n c) ∧ l.length = n ∧ OwnB w' (.slice a n c) l ∧ ∀ b, Value.ownBlock (.slice a n c) = some b → w.heap.size ≤ b) ∧ Below w.heap.size w w'
theorem add_at (a : Option Addr) (n c : Nat) (l m : List UInt8) (d : ByteArray) (w : World) (hl : l.length = n) (hd : d = str m) (hv : IsB w (.slice a n c) l) (hroom : n + m.length ≤ roomB) :
    Calls Tryz.prog 71 #[.slice a n c, .string d] w fun e w' => RW w w' e (l ++ m) := by
  subst hd hl
  refine (add_any a _ c l (str m) w rfl hv (by rw [str_size]; exact hroom)).mono ?_
  rintro e w' ⟨⟨a', c', rfl, o, h⟩, b⟩
  rw [str_size] at o h ⊢
  rw [str_list] at o
  exact ⟨⟨a', _, c', rfl, by rw [List.length_append], o, h⟩, b⟩

set_option maxHeartbeats 1000000 in
theorem ruint_w (a : Option Addr) (n c : Nat) (l : List UInt8) (u : Nat) (w : World) (hl : l.length = n) (hv : IsB w (.slice a n c) l) (hu : u < 18446744073709551616) (hroom : n + 100 ≤ roomB) :
    Calls Tryz.prog 37 #[.slice a n c, .int .u64 u] w fun e w' => RW w w' e (l ++ (110 :: Lib.decDigits u ++ [59])) := by
  have hlen := decDigits_le u hu
  have HD := Lib.hid (digitsW_any u w hu)
  have HA := Lib.hid (add_at a n c l (110 :: Lib.decDigits u ++ [59]) (⟨#[110]⟩ ++ str (Lib.decDigits u) ++ ⟨#[59]⟩) w hl (by
    rw [show (⟨#[110]⟩ : ByteArray) = str [110] from rfl, show (⟨#[59]⟩ : ByteArray) = str [59] from rfl, str_app, str_app]; rfl) hv (by simp; omega))
  clear hu hv hl hroom
  generalize Lib.decDigits u = ds at *
  have h1 : 1 + (str ds).size ≤ 9223372036854775807 := by rw [str_size]; omega
  have h2 : 1 + (str ds).size + 1 ≤ 9223372036854775807 := by rw [str_size]; omega
  clear hlen
  go_enter Tryz.func37, Tryz.ntmps37
  go_wp2_with fail
  refine HD.out.mono ?_
  rintro e w1 ⟨rfl, rfl⟩
  clear HD
  go_wp2_with fail
  refine HA.out.mono ?_
  rintro e w2 ⟨⟨a', n', c', rfl, hh⟩, b⟩
  have HH := Lib.hid hh
  have HB := Lib.hid b
  clear HA hh b h1 h2
  go_wp2
  go_ret
  exact ⟨⟨a', n', c', rfl, HH.out⟩, HB.out⟩

end Go.Proofs.YtflghelhdalhiaaGreatDoor

namespace Go.Proofs.YtflghelhdalhiaaGreatDoor
open Go Go.RowKit


end Go.Proofs.YtflghelhdalhiaaGreatDoor

namespace Go.Proofs.YtflghelhdalhiaaGreatDoor
open Go Go.RowKit

set_option maxHeartbeats 2000000 in
theorem rparts_any (a b : Nat) (w : World) (ha : a ≤ 1099511627776) (hb : b ≤ 1099511627776) :
    Calls Tryz.prog 73 #[.complex .f64 (FL.fB a) (FL.fB b)] w fun e w' => e = .returned (.tuple #[.int .i64 a, .int .i64 b, .int .i64 0]) ∧ w = w' := by
  have HM := rmayQ_any a b w (by omega) (by omega)
  rw [decide_eq_true ⟨ha, hb⟩] at HM
  have HM1 := Lib.hid HM
  have c1 := fun w => run_toInt a w ha
  have c2 := fun w => run_toInt b w hb
  clear HM ha hb
  generalize FL.fB a = x at *
  generalize FL.fB b = y at *
  go_enter Tryz.func73, Tryz.ntmps73
  go_wp2_with fail
  refine HM1.out.mono ?_
  rintro e w1 ⟨rfl, rfl⟩
  go_wp2
  go_ret3
  exact ⟨rfl, rfl⟩
end Go.Proofs.YtflghelhdalhiaaGreatDoor

namespace Go.Proofs.YtflghelhdalhiaaGreatDoor
open Go Go.RowKit

set_option maxHeartbeats 1000000 in
theorem rtext_w (a : Option Addr) (n c : Nat) (l d : List UInt8) (w : World) (hl : l.length = n) (hv : IsB w (.slice a n c) l) (hd : d.length ≤ 1099511627776) (hroom : n + d.length + 100 ≤ roomB) :
    Calls Tryz.prog 39 #[.slice a n c, .string (str d)] w fun e w' => RW w w' e (l ++ QT.xB d) := by
  have hu : d.length < 18446744073709551616 := by omega
  have hlen := decDigits_le d.length hu
  have hwrap : IntKind.u64.wrap ((str d).size : Int) = (d.length : Int) := by rw [IntKind.wrap_u64, str_size]; omega
  have HD := Lib.hid (digitsW_any d.length w hu)
  have HA := Lib.hid (add_at a n c l (QT.xB d) (⟨#[116]⟩ ++ str (Lib.decDigits d.length) ++ ⟨#[58]⟩ ++ str d) w hl (by
      rw [show (⟨#[116]⟩ : ByteArray) = str [116] from rfl, show (⟨#[58]⟩ : ByteArray) = str [58] from rfl, str_app, str_app, str_app]; rfl) hv (by simp [QT.xB]; omega))
  have h1 : ¬ 9223372036854775807 < 1 + (str (Lib.decDigits d.length)).size := by rw [str_size]; omega
  have h2 : ¬ 9223372036854775807 < 1 + (str (Lib.decDigits d.length)).size + 1 := by rw [str_size]; omega
  have h3 : ¬ 9223372036854775807 < 1 + (str (Lib.decDigits d.length)).size + 1 + (str d).size := by rw [str_size, str_size]; omega
  clear hv hroom hl hlen hu hd
  generalize QT.xB d = xd at *
  generalize hm : d.length = m at *
  generalize Lib.decDigits m = ds at *
  generalize str d = sd at *
  clear hm
  go_enter Tryz.func39, Tryz.ntmps39
  go_wp2_with fail
  refine HD.out.mono ?_
  rintro e w1 ⟨rfl, rfl⟩
  clear HD
  go_wp2_with fail
  refine HA.out.mono ?_
  rintro e w2 ⟨⟨a', n', c', rfl, hh⟩, b⟩
  have HH := Lib.hid hh
  have HB := Lib.hid b
  clear HA hh b
  go_wp2
  go_ret
  exact ⟨⟨a', n', c', rfl, HH.out⟩, HB.out⟩

set_option maxHeartbeats 2000000 in
theorem rputA_w (a : Option Addr) (n c : Nat) (l : List UInt8) (x y : Nat) (w : World) (hl : l.length = n) (hv : IsB w (.slice a n c) l) (hx : x ≤ 1099511627776) (hy : y ≤ 1099511627776) (hroom : n + 300 ≤ roomB) :
    Calls Tryz.prog 38 #[.slice a n c, .complex .f64 (FL.fB x) (FL.fB y)] w fun e w' => RW w w' e (l ++ PK.uB x ++ PK.uB y) := by
  have HP := Lib.hid (fun W : World => rparts_any x y W hx hy)
  have S0 : Hid (SrcB Tryz.prog 22 w (.slice a n c) l) := srcB_of Tryz.underlying22 hv
  have HU1 := Lib.hid (fun (W : World) (a' : Option Addr) (c' : Nat) (h : OwnB W (.slice a' n c') l) => ruint_w a' n c' l x W hl h.isB (by omega) (by omega))
  have hu := PK.uB_len x (by omega)
  have HU2 := Lib.hid (fun (W : World) (a' : Option Addr) (n' c' : Nat) (hn : (l ++ PK.uB x).length = n') (h : OwnB W (.slice a' n' c') (l ++ PK.uB x)) => ruint_w a' n' c' (l ++ PK.uB x) y W hn h.isB (by omega) (by rw [List.length_append] at hn; omega))
  have wx : IntKind.u64.wrap (x : Int) = (x : Int) := by rw [IntKind.wrap_u64]; omega
  have wy : IntKind.u64.wrap (y : Int) = (y : Int) := by rw [IntKind.wrap_u64]; omega
  have HL := Lib.hid hl
  have HR := Lib.hid hroom
  clear hl hv hx hy hroom hu
  generalize FL.fB x = fx at *
  generalize FL.fB y = fy at *
  go_enter Tryz.func38, Tryz.ntmps38
  go_wp2_with (at_builtin; refine wpList_appN rfl _ _ rfl T22 (n := 0) (m := n) rfl HL.out rfl (OwnB.nil w) rfl S0.out (by have := HR.out; omega) ?_; intro a1 c1 w1 o1 g1 b1; rw [List.nil_append] at o1; rw [Nat.zero_add] at o1 b1; have O1 := Lib.hid o1; have G1 := Lib.hid (Fr.below (g1.mono (Y := fun _ => False) (fun k _ hk => nomatch hk))); have B1 := Lib.hid (own_new b1); clear o1 g1 b1)
  refine (HP.out w1).mono ?_
  rintro e w2 ⟨rfl, rfl⟩
  clear HP
  go_wp2_with fail
  refine (HU1.out w1 a1 c1 O1.out).mono ?_
  rintro e w2 ⟨⟨a2, n2, c2, rfl, hn2, o2, h2⟩, b2⟩
  have O2 := Lib.hid o2
  have N2 := Lib.hid hn2
  have G2 := Lib.hid (G1.out.trans (b2.mono G1.out.size))
  clear HU1 o2 hn2 h2 b2 G1 B1 O1
  go_wp2_with fail
  refine (HU2.out w2 a2 n2 c2 N2.out O2.out).mono ?_
  rintro e w3 ⟨⟨a3, n3, c3, rfl, hn3, o3, h3⟩, b3⟩
  have O3 := Lib.hid o3
  have N3 := Lib.hid hn3
  have G3 := Lib.hid (G2.out.trans (b3.mono G2.out.size))
  have B3 := Lib.hid (fun b hb => Nat.le_trans G2.out.size (h3 b hb))
  clear HU2 o3 hn3 h3 b3 G2 O2 N2
  go_wp2
  go_ret
  exact ⟨⟨a3, n3, c3, rfl, N3.out, O3.out, B3.out⟩, G3.out⟩
end Go.Proofs.YtflghelhdalhiaaGreatDoor
