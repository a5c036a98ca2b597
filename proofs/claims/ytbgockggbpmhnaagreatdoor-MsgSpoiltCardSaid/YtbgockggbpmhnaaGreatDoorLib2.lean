/-
  strconv's functions in the form that the walks use, and an error's number ('num').
  Conditions: the listed package-level variables read as listed ('Env').
-/
import Derived.Test.YtbgockggbpmhnaaGreatDoorAs
import Derived.Test.YtbgockggbpmhnaaGreatDoorLib
namespace Go.Proofs.YtbgockggbpmhnaaGreatDoor
open Go Go.RowKit Go.Sort

/-- strconv.Itoa. -/
theorem itoa_any (n : Int) (w : World) (h0 : -9223372036854775808 ≤ n) (h1 : n ≤ 9223372036854775807) (hE : Env w) :
    Calls Tryz.prog 71 #[.int .i64 n] w fun e w' => e = .returned (.string (str (Lib.itoa n))) ∧ Below w.heap.size w w' := by
  refine (Tryz.strconv_Itoa n h0 h1 w hE.tab).mono ?_
  rintro e w' ⟨rfl, k, os, rfl⟩
  exact ⟨rfl, Lib.below_grow _ w (Nat.le_refl _) k os⟩

theorem holds_zero0 (w : World) (T : TypeId) (nd : Nat) (hs : nd ≤ 24) : Holds (fun (b : UInt8) => Value.int .u8 (b.toNat : Int)) (w.alloc (.cells Lib.zeros24 T)) w.heap.size 0 (Array.replicate nd (0 : UInt8)) := fun j hj => by
  have hj' : j < nd := by simpa using hj
  refine ⟨?_, World.frozen?_alloc_new _ _ _ _⟩
  rw [World.cell?_alloc_new, Nat.zero_add, Lib.zeros24_at _ (by omega), getElem!_pos _ j hj]
  simp

set_option maxHeartbeats 1000000 in
set_option maxRecDepth 100000 in
/-- internal/strconv.FormatUint at base 10. -/
theorem iformatUint_any (u : Nat) (w : World) (hu64 : u < 18446744073709551616) (hE : Env w) :
    Calls Tryz.prog 88 #[.int .u64 u, .int .i64 10] w fun e w' => e = .returned (.string (str (Lib.decDigits u))) ∧ Below w.heap.size w w' := by
  have htab := hE.tab
  clear hE
  by_cases hs : u < 100
  · have hs' : decide ((u : Int) < 100) = true := by simp; omega
    go_enter Tryz.func88, Tryz.ntmps88
    go_wp2_with (go_at_call 97; refine (Tryz.internal_strconv_small u hs _).mono ?_; rintro e w' ⟨rfl, rfl⟩)
    go_ret
    exact ⟨rfl, Below.refl _ _⟩
  · have hu1 : 1 ≤ u := by omega
    have hnd20 : Lib.nDigits u ≤ 20 := by have := Lib.numDigits_eq u hu1 hu64; split at this <;> omega
    have hal : Tryz.prog.arrayLen 165 = 24 := by kernel_rfl
    have hsl : ∀ W, (Instr.sliceAt 165 (.pointer (some ⟨w.heap.size, 0, none⟩)) none (some (.int .i64 (Lib.nDigits u : Int))) none).run Tryz.prog W = .ok (.slice (some ⟨w.heap.size, 0, none⟩) (Lib.nDigits u) 24) W := fun W => by
      rw [run_sliceAt_array_h W 165 ⟨w.heap.size, 0, none⟩ (by kernel_rfl) .i64 (Lib.nDigits u : Int) (by omega) (by rw [hal]; omega)]
      go_simp
    have hH0 := holds_zero0 w 165 (Lib.nDigits u) (by omega)
    have hfmt := Tryz.internal_strconv_formatBase10 w.heap.size 0 24 u (Array.replicate (Lib.nDigits u) 0) (w.alloc (.cells Lib.zeros24 165)) hH0 (by rw [Array.size_replicate]; exact Lib.lt_pow_nDigits u) hu64 (by rw [Array.size_replicate]; omega)
    rw [Array.size_replicate] at hfmt
    have HH0 := Lib.hid hH0
    clear hH0 hal
    go_enter Tryz.func88, Tryz.ntmps88
    go_wp2_with (first
      | (go_at_call 98; refine (Tryz.internal_strconv_numDigits u hu1 hu64 _ (Lib.tabIs_alloc htab _)).mono ?_; rintro e w' ⟨rfl, rfl⟩))
    go_at_call 99
    refine hfmt.mono ?_
    rintro e w' ⟨rfl, k, v', dk, rfl, hF⟩
    have hcv : (convert 22 9 (.slice (some ⟨w.heap.size, 0, none⟩) (Lib.nDigits u) 24)).run Tryz.prog ((putRow (fun (b : UInt8) => Value.int .u8 (b.toNat : Int)) (w.alloc (.cells Lib.zeros24 165)) w.heap.size 0 dk).drewN k) = .ok (.string ⟨(Lib.decDigits u).toArray⟩) ((putRow (fun (b : UInt8) => Value.int .u8 (b.toNat : Int)) (w.alloc (.cells Lib.zeros24 165)) w.heap.size 0 dk).drewN k) := by
      have h := run_convert_bytes_back (P := Tryz.prog) ((putRow (fun (b : UInt8) => Value.int .u8 (b.toNat : Int)) (w.alloc (.cells Lib.zeros24 165)) w.heap.size 0 dk).drewN k) 22 9 5 ⟨w.heap.size, 0, none⟩ 24 (Lib.decDigits u) Tryz.underlying22 Tryz.underlying5 Tryz.underlying9 (fun j hj => by
        rw [Lib.row_is_numeral hF j hj, Lib.add_plain, World.cell?_drewN]
        exact cell?_putRow (fun (b : UInt8) => Value.int .u8 (b.toNat : Int)) _ w.heap.size 0 _ dk HH0.out (by rw [hF.size, Array.size_replicate]) j (by rw [hF.size]; rw [Lib.decDigits_length] at hj; exact hj))
      rw [Lib.decDigits_length] at h
      exact h
    go_wp2
    go_ret
    refine ⟨rfl, ?_⟩
    rw [alloc_eq_grow]
    obtain ⟨os', _, e⟩ := putRow_grow_new (fun (b : UInt8) => Value.int .u8 (b.toNat : Int)) w #[.cells Lib.zeros24 165] w.heap.size 0 dk (Nat.le_refl _)
    rw [e]
    exact Lib.below_grow _ w (Nat.le_refl _) k os'

/-- strconv.FormatUint at base 10. -/
theorem formatUint_any (u : Nat) (w : World) (hu64 : u < 18446744073709551616) (hE : Env w) :
    Calls Tryz.prog 70 #[.int .u64 u, .int .i64 10] w fun e w' => e = .returned (.string (str (Lib.decDigits u))) ∧ Below w.heap.size w w' := by
  have H := Lib.hid (iformatUint_any u w hu64 hE)
  clear hu64 hE
  go_enter Tryz.func70, Tryz.ntmps70
  go_wp2_with fail
  refine H.out.mono ?_
  rintro e w1 ⟨rfl, hb⟩
  have Hb := Lib.hid hb
  clear hb
  go_wp2
  go_ret
  exact ⟨rfl, Hb.out⟩

/-- An error that is no nil. -/
def IsErr (v : Value) : Prop := ∃ t x, v = .iface t x

/-- strconv.ParseUint(s, 10, 64) at a text of digits that spells a uint64. -/
theorem parseUint_ok (l : List UInt8) (w : World) (hd : ∀ c ∈ l, PK.isD c = true) (hl : l ≠ []) (hlen : l.length ≤ 100) (hv : PK.dval 0 l < 18446744073709551616) :
    Calls Tryz.prog 103 #[.string (str l), .int .i64 10, .int .i64 64] w fun e w' => e = .returned (.tuple #[.int .u64 (PK.dval 0 l), .nilIface]) ∧ Below w.heap.size w w' := by
  have hp : Lib.parseUintB 64 (str l).data.toList = .ok (PK.dval 0 l) := by
    rw [str_list, PK.parse_digits l hd hl, if_pos (by omega)]
  refine (Tryz.strconv_ParseUint_10_at64_ok (str l) (by rw [str_size]; omega) _ hp w).mono ?_
  rintro e w' ⟨rfl, h | h⟩
  · subst h; exact ⟨rfl, Below.refl _ _⟩
  · subst h; exact ⟨rfl, Lib.bytesWorld_below _ _ _⟩
/-- strconv.ParseUint at a text of digits that spells none, or at none. -/
theorem parseUint_no (l : List UInt8) (w : World) (hE : Env w) (hd : ∀ c ∈ l, PK.isD c = true) (hlen : l.length ≤ 100) (hv : l = [] ∨ 18446744073709551616 ≤ PK.dval 0 l) :
    Calls Tryz.prog 103 #[.string (str l), .int .i64 10, .int .i64 64] w fun e w' => (∃ u : Int, ∃ t x, e = .returned (.tuple #[.int .u64 u, .iface t x])) ∧ Below w.heap.size w w' := by
  have hsz : (str l).size ≤ 281474976710656 := by rw [str_size]; omega
  by_cases hl : l = []
  · obtain ⟨tp, p, hc⟩ := hE.es
    have hp : Lib.parseUintB 64 (str l).data.toList = Lib.NumEnd.syntax := by rw [str_list, hl]; exact PK.parse_empty
    refine (Tryz.strconv_ParseUint_10_at64_syntax (str l) hsz hp _ w hc (.inr ⟨tp, p, rfl⟩)).mono ?_
    rintro e w' ⟨N, rfl, _, _, hb⟩
    exact ⟨⟨_, _, _, rfl⟩, hb⟩
  · obtain ⟨tp, p, hc⟩ := hE.er
    have hp : Lib.parseUintB 64 (str l).data.toList = .range := by
      rw [str_list, PK.parse_digits l hd hl, if_neg (by rcases hv with h | h; exact absurd h hl; omega)]
    refine (Tryz.strconv_ParseUint_10_at64_range (str l) hsz hp _ w hc (.inr ⟨tp, p, rfl⟩)).mono ?_
    rintro e w' ⟨N, rfl, _, _, hb⟩
    exact ⟨⟨_, _, _, rfl⟩, hb⟩


set_option maxHeartbeats 1000000 in
/-- num: an error's number. -/
theorem num_any (k : Nat) (w : World) (hE : Env w) :
    Calls Tryz.prog 18 #[errV k] w fun e w' => e = .returned (.int .i64 k) ∧ Below w.heap.size w w' := by
  cases k with
  | zero =>
    clear hE
    unfold errV
    go_enter Tryz.func18, Tryz.ntmps18
    go_wp2
    go_ret
    exact ⟨rfl, (Below.refl _ _).alloc (Nat.le_refl _) _⟩
  | succ n =>
    have hlt : 0 < w.heap.size := Nat.lt_of_le_of_lt (Nat.zero_le _) hE.big
    have hit := fun w0 : World => as_hit ((n : Int) + 1) ⟨w.heap.size, 0, none⟩ (.int .i64 0) (w.alloc (.cells #[.int .i64 0] 60)) (by rw [World.cell?_alloc_lt _ _ _ hlt]; exact hE.et) (by simp) (by simp)
    have Hit := Lib.hid hit
    clear hit hE
    unfold errV
    go_enter Tryz.func18, Tryz.ntmps18
    go_wp2_with fail
    refine (Hit.out w).mono ?_
    rintro e w' ⟨rfl, rfl⟩
    go_wp2
    go_ret
    refine ⟨by simp, ?_⟩
    go_grown
end Go.Proofs.YtbgockggbpmhnaaGreatDoor
