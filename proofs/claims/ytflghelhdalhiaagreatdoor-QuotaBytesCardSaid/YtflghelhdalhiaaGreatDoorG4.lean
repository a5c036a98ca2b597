/-
  Contracts of what the program calls of Go's library, at this translation: slices.Index, Contains, Clone over bytes; strconv's functions in the form that the walks use.
  Conditions: the listed package-level variables read as listed ('Env').
  strconv's functions in the form that the walks use, and an error's number ('num').
  Conditions: the listed package-level variables read as listed ('Env').
  pack.Reader's methods, by contracts over plain Lean functions (Pure): what each answers, what is left, the reader's error; only the reader's own block turns.
  Conditions: the listed variables read as listed ('Env'); the reader's block is behind the variables' blocks.
-/
import Derived.Test.YtflghelhdalhiaaGreatDoorProg
import Derived.Test.YtflghelhdalhiaaGreatDoorG2
import Derived.Test.YtflghelhdalhiaaGreatDoorG3
import Derived.Test.YtflghelhdalhiaaGreatDoorShelf
import Derived.Lib.SmallJoins
import Derived.Lib.AppendIntMem
import Derived.WalkLawsBesides
import Derived.WalkSpells
import Derived.Test.YtflghelhdalhiaaGreatDoorAs
namespace Go.Proofs.YtflghelhdalhiaaGreatDoor
open Go Go.RowKit

theorem T22 : ByteT Tryz.prog 22 5 := ⟨Tryz.underlying22, Tryz.underlying5, by kernel_rfl⟩
theorem U9 : Tryz.prog.underlying 9 = some .string := Tryz.underlying9

/-- The program's error of a number (0: nil). -/
def errV : Nat → Value
  | 0 => .nilIface
  | n + 1 => .iface 64 (.int .i64 ((n : Int) + 1))

/-- WHAT THE LISTED VARIABLES HOLD. -/
structure Env (w : World) : Prop where
  big : 6 < w.heap.size
  et : w.cell? ⟨0, 0, none⟩ = some (.iface 146 (.agg #[.pointer (some ⟨7, 26, none⟩)]))
  es : ∃ tp p, w.cell? ⟨5, 0, none⟩ = some (.iface tp p)
  er : ∃ tp p, w.cell? ⟨6, 0, none⟩ = some (.iface tp p)
  tab : Lib.TabIs Tryz.prog w "internal/strconv.uint64pow10" .u64 Lib.pow10Tab
/-- The first block that is no package-level variable's. -/
def glob : Nat := 6 + 1
theorem Env.kept {X : Nat → Prop} {w w' : World} (h : Env w) (f : Fr X w w') (hx : ∀ k, k < glob → ¬ X k) : Env w' := by
  have hb := h.big
  have hX : ∀ k, k < 6 + 1 → ¬ X k := hx
  refine ⟨f.lt hb, f.cell h.et (hX _ (by simp)), ?_, ?_, ?_⟩
  · obtain ⟨tp, p, hc⟩ := h.es; exact ⟨tp, p, f.cell hc (hX _ (by simp))⟩
  · obtain ⟨tp, p, hc⟩ := h.er; exact ⟨tp, p, f.cell hc (hX _ (by simp))⟩
  · have ht := h.tab
    unfold Lib.TabIs World.var? at ht ⊢
    have hg : Tryz.prog.globalNamed "internal/strconv.uint64pow10" = some 2 := by kernel_rfl
    rw [hg] at ht ⊢
    simp only [Option.bind_some] at ht ⊢
    rw [f.block 2 (by omega) (hX _ (by omega))]
    exact ht
theorem Env.below {w w' : World} (h : Env w) (f : Below w.heap.size w w') : Env w' := h.kept (X := fun _ => False) (Fr.of_below f) (fun _ _ x => x)

/-- slices.Index over bytes. -/
theorem index_any (b o n cap : Nat) (x : Int) (l : List UInt8) (w : World) (hcap : cap ≤ maxLen) (hn : n ≤ cap) (hc : ∀ i, i < n → w.cell? ⟨b, o + i, none⟩ = some (.int .u8 (at8 l i))) :
    Calls Tryz.prog 132 #[.slice (some ⟨b, o, none⟩) n cap, .int .u8 x] w fun e w' => (∃ k : Int, e = .returned (.int .i64 k) ∧ -1 ≤ k ∧ k ≤ n ∧ (0 ≤ k ↔ ∃ i, i < n ∧ at8 l i = x)) ∧ w = w' := by
  unfold maxLen at hcap
  have Hc := Lib.hid hc
  clear hc
  go_enter Tryz.func132, Tryz.ntmps132
  go_wp2
  go_loop [8] (fun v => ∃ k : Nat, k ≤ n ∧ v = .int .i64 k ∧ Hid (∀ i, i < k → at8 l i ≠ x)) (fun v => n - (intOf v).toNat)
  case atStart => exact ⟨0, by omega, rfl, fun i hi => by omega⟩
  case round =>
    obtain ⟨k, hk, rfl, Hno⟩ := hrel
    by_cases hlt : k < n
    · have hck := Hc.out k hlt
      by_cases hx : at8 l k = x
      · have hx' : (x == at8 l k) = true := by rw [hx]; simp
        have Hx := Lib.hid hx
        clear hx
        go_wp2
        go_ret
        exact ⟨⟨k, rfl, by omega, by omega, ⟨fun _ => ⟨k, hlt, Hx.out⟩, fun _ => by omega⟩⟩, rfl⟩
      · have hx' : (x == at8 l k) = false := by simp; exact fun e => hx e.symm
        have Hx := Lib.hid hx
        clear hx
        go_wp2
        go_round
        case rel => exact ⟨k + 1, by omega, by go_num, fun i hi => by
          by_cases e : i = k
          · rw [e]; exact Hx.out
          · exact Hno.out i (by omega)⟩
        case measure => simp [intOf]; omega
    · go_wp2
      go_ret
      exact ⟨⟨-1, rfl, by omega, by omega, ⟨fun h => by omega, fun ⟨i, hi, hh⟩ => absurd hh (Hno.out i (by omega))⟩⟩, rfl⟩

/-- slices.Contains over bytes: among the bytes of a string. -/
theorem contains_yes (b o n cap : Nat) (x : Int) (l : List UInt8) (w : World) (hcap : cap ≤ maxLen) (hn : n ≤ cap) (hc : ∀ i, i < n → w.cell? ⟨b, o + i, none⟩ = some (.int .u8 (at8 l i))) (h : ∃ i, i < n ∧ at8 l i = x) :
    Calls Tryz.prog 112 #[.slice (some ⟨b, o, none⟩) n cap, .int .u8 x] w fun e w' => e = .returned (.bool true) ∧ w = w' := by
  go_enter Tryz.func112, Tryz.ntmps112
  have H := Lib.hid h
  have Hc := Lib.hid hc
  clear h hc
  go_wp2_with fail
  refine (index_any b o n cap x l w hcap hn Hc.out).mono ?_
  rintro e w' ⟨⟨k, rfl, hk1, hk2, hk3⟩, rfl⟩
  have h0 : 0 ≤ k := hk3.2 H.out
  clear hk3
  go_wp2
  go_ret
  exact ⟨rfl, rfl⟩
theorem contains_no (b o n cap : Nat) (x : Int) (l : List UInt8) (w : World) (hcap : cap ≤ maxLen) (hn : n ≤ cap) (hc : ∀ i, i < n → w.cell? ⟨b, o + i, none⟩ = some (.int .u8 (at8 l i))) (h : ∀ i, i < n → at8 l i ≠ x) :
    Calls Tryz.prog 112 #[.slice (some ⟨b, o, none⟩) n cap, .int .u8 x] w fun e w' => e = .returned (.bool false) ∧ w = w' := by
  go_enter Tryz.func112, Tryz.ntmps112
  have H := Lib.hid h
  have Hc := Lib.hid hc
  clear h hc
  go_wp2_with fail
  refine (index_any b o n cap x l w hcap hn Hc.out).mono ?_
  rintro e w' ⟨⟨k, rfl, hk1, hk2, hk3⟩, rfl⟩
  have h0 : k < 0 := by
    rcases Int.lt_or_le k 0 with h | h
    · exact h
    · obtain ⟨i, hi, hh⟩ := hk3.1 h; exact absurd hh (H.out i hi)
  have h0' : decide (0 ≤ k) = false := by simp; omega
  clear hk3
  go_wp2
  go_ret
  exact ⟨rfl, rfl⟩

/-- slices.Clone over bytes: a slice of its own. -/
theorem clone_any (v : Value) (l : List UInt8) (w : World) (hv : IsB w v l) (hl : l.length ≤ roomB) :
    Calls Tryz.prog 70 #[v] w fun e w' => (∃ a c, e = .returned (.slice a l.length c) ∧ OwnB w' (.slice a l.length c) l ∧ ∀ b, Value.ownBlock (.slice a l.length c) = some b → w.heap.size ≤ b) ∧ Below w.heap.size w w' := by
  have hv' := hv
  obtain ⟨a, cap, rfl, h1, h2, h0, h3⟩ := hv
  have H3 := Lib.hid h3
  clear h3
  cases a with
  | none =>
    have hl0 : l = [] := by
      rcases H3.out with h | ⟨b, o, h, _⟩
      · exact h
      · cases h
    have hc := h0 rfl
    subst hl0 hc
    clear hv' H3 h0
    have hq : ∀ w : World, (binOp .eql 22 (.slice none 0 0) (.slice none 0 0)).run Tryz.prog w = .ok (.bool true) w := fun _ => by kernel_rfl
    go_enter Tryz.func70, Tryz.ntmps70
    go_wp2
    go_ret
    exact ⟨⟨none, 0, rfl, .inl ⟨rfl, rfl⟩, by simp [Value.ownBlock]⟩, Below.refl _ _⟩
  | some ad =>
    have hq : ∀ w : World, (binOp .eql 22 (.slice (some ad) l.length cap) (.slice none 0 0)).run Tryz.prog w = .ok (.bool false) w := fun w : World => run_eql_sl_nil (P := Tryz.prog) w 22 5 (some ad) l.length cap Tryz.underlying22
    have hown : OwnB (w.alloc (.cells #[] 5)) (.slice (some ⟨w.heap.size, 0, none⟩) 0 0) [] :=
      .inr ⟨w.heap.size, 0, 0, rfl, by simp, by simp [maxLen], by simp, fun i hi => by simp at hi, fun j hj => by omega⟩
    have hsrc : SrcB Tryz.prog 22 (w.alloc (.cells #[] 5)) (.slice (some ad) l.length cap) l := srcB_of Tryz.underlying22 (hv'.below (((Below.refl _ w).alloc (Nat.le_refl _) _)))
    have Hown := Lib.hid hown
    have Hsrc := Lib.hid hsrc
    have Hl := Lib.hid hl
    clear hown hsrc hl hv' H3 h0 h1 h2
    go_enter Tryz.func70, Tryz.ntmps70
    go_wp2_with (at_builtin; refine wpList_app rfl _ _ rfl T22 rfl Hown.out rfl Hsrc.out (by simpa using Hl.out) ?_; intro a c w1 ho hf hb; have Ho := Lib.hid ho; have Hf := Lib.hid hf; have Hb := Lib.hid hb; clear ho hf hb)
    go_ret
    simp only [List.length_nil, Nat.zero_add, List.nil_append] at Ho Hb
    refine ⟨⟨a, c, rfl, Ho.out, fun b hb => ?_⟩, ?_⟩
    · rcases Hb.out with h | ⟨g, h, hg⟩
      · have e : b = w.heap.size := Option.some.inj (hb.symm.trans h)
        omega
      · subst h
        simp [Value.ownBlock] at hb hg
        omega
    · have h2 := Hf.out
      exact (Fr.then (X := fun _ => False) ((Fr.refl _ w).alloc _) h2 (fun i hi hy => by have e : w.heap.size = i := Option.some.inj hy; omega)).below
end Go.Proofs.YtflghelhdalhiaaGreatDoor

namespace Go.Proofs.YtflghelhdalhiaaGreatDoor
open Go Go.RowKit Go.Sort

/-- strconv.Itoa. -/
theorem itoa_any (n : Int) (w : World) (h0 : -9223372036854775808 ≤ n) (h1 : n ≤ 9223372036854775807) (hE : Env w) :
    Calls Tryz.prog 68 #[.int .i64 n] w fun e w' => e = .returned (.string (str (Lib.itoa n))) ∧ Below w.heap.size w w' := by
  refine (Tryz.strconv_Itoa n h0 h1 w hE.tab).mono ?_
  rintro e w' ⟨rfl, k, os, rfl⟩
  exact ⟨rfl, Lib.below_grow _ w (Nat.le_refl _) k os⟩

theorem holds_zero0 (w : World) (T : TypeId) (nd : Nat) (hs : nd ≤ 24) : Holds (fun (b : UInt8) => Value.int .u8 (b.toNat : Int)) (w.alloc (.cells Lib.zeros24 T)) w.heap.size 0 (Array.replicate nd (0 : UInt8)) := fun j hj => by
  have hj' : j < nd := by simpa using hj
  refine ⟨?_, World.frozen?_alloc_new _ _ _ _⟩
  rw [World.cell?_alloc_new, Nat.zero_add, Lib.zeros24_at _ (by omega), getElem!_pos _ j hj]
  simp

set_option maxHeartbeats 1000000 in
set_option maxRecDepth 100000 in
/-- internal/strconv.FormatUint at base 10. -/
theorem iformatUint_any (u : Nat) (w : World) (hu64 : u < 18446744073709551616) (hE : Env w) :
    Calls Tryz.prog 88 #[.int .u64 u, .int .i64 10] w fun e w' => e = .returned (.string (str (Lib.decDigits u))) ∧ Below w.heap.size w w' := by
  have htab := hE.tab
  clear hE
  by_cases hs : u < 100
  · have hs' : decide ((u : Int) < 100) = true := by simp; omega
    go_enter Tryz.func88, Tryz.ntmps88
    go_wp2_with (go_at_call 101; refine (Tryz.internal_strconv_small u hs _).mono ?_; rintro e w' ⟨rfl, rfl⟩)
    go_ret
    exact ⟨rfl, Below.refl _ _⟩
  · have hu1 : 1 ≤ u := by omega
    have hnd20 : Lib.nDigits u ≤ 20 := by have := Lib.numDigits_eq u hu1 hu64; split at this <;> omega
    have hal : Tryz.prog.arrayLen 167 = 24 := by kernel_rfl
    have hsl : ∀ W, (Instr.sliceAt 167 (.pointer (some ⟨w.heap.size, 0, none⟩)) none (some (.int .i64 (Lib.nDigits u : Int))) none).run Tryz.prog W = .ok (.slice (some ⟨w.heap.size, 0, none⟩) (Lib.nDigits u) 24) W := fun W => by
      rw [run_sliceAt_array_h W 167 ⟨w.heap.size, 0, none⟩ (by kernel_rfl) .i64 (Lib.nDigits u : Int) (by omega) (by rw [hal]; omega)]
      go_simp
    have hH0 := holds_zero0 w 167 (Lib.nDigits u) (by omega)
    have hfmt := Tryz.internal_strconv_formatBase10 w.heap.size 0 24 u (Array.replicate (Lib.nDigits u) 0) (w.alloc (.cells Lib.zeros24 167)) hH0 (by rw [Array.size_replicate]; exact Lib.lt_pow_nDigits u) hu64 (by rw [Array.size_replicate]; omega)
    rw [Array.size_replicate] at hfmt
    have HH0 := Lib.hid hH0
    clear hH0 hal
    go_enter Tryz.func88, Tryz.ntmps88
    go_wp2_with (first
      | (go_at_call 102; refine (Tryz.internal_strconv_numDigits u hu1 hu64 _ (Lib.tabIs_alloc htab _)).mono ?_; rintro e w' ⟨rfl, rfl⟩))
    go_at_call 103
    refine hfmt.mono ?_
    rintro e w' ⟨rfl, k, v', dk, rfl, hF⟩
    have hcv : (convert 22 9 (.slice (some ⟨w.heap.size, 0, none⟩) (Lib.nDigits u) 24)).run Tryz.prog ((putRow (fun (b : UInt8) => Value.int .u8 (b.toNat : Int)) (w.alloc (.cells Lib.zeros24 167)) w.heap.size 0 dk).drewN k) = .ok (.string ⟨(Lib.decDigits u).toArray⟩) ((putRow (fun (b : UInt8) => Value.int .u8 (b.toNat : Int)) (w.alloc (.cells Lib.zeros24 167)) w.heap.size 0 dk).drewN k) := by
      have h := run_convert_bytes_back (P := Tryz.prog) ((putRow (fun (b : UInt8) => Value.int .u8 (b.toNat : Int)) (w.alloc (.cells Lib.zeros24 167)) w.heap.size 0 dk).drewN k) 22 9 5 ⟨w.heap.size, 0, none⟩ 24 (Lib.decDigits u) Tryz.underlying22 Tryz.underlying5 Tryz.underlying9 (fun j hj => by
        rw [Lib.row_is_numeral hF j hj, Lib.add_plain, World.cell?_drewN]
        exact cell?_putRow (fun (b : UInt8) => Value.int .u8 (b.toNat : Int)) _ w.heap.size 0 _ dk HH0.out (by rw [hF.size, Array.size_replicate]) j (by rw [hF.size]; rw [Lib.decDigits_length] at hj; exact hj))
      rw [Lib.decDigits_length] at h
      exact h
    go_wp2
    go_ret
    refine ⟨rfl, ?_⟩
    rw [alloc_eq_grow]
    obtain ⟨os', _, e⟩ := putRow_grow_new (fun (b : UInt8) => Value.int .u8 (b.toNat : Int)) w #[.cells Lib.zeros24 167] w.heap.size 0 dk (Nat.le_refl _)
    rw [e]
    exact Lib.below_grow _ w (Nat.le_refl _) k os'

/-- strconv.FormatUint at base 10. -/
theorem formatUint_any (u : Nat) (w : World) (hu64 : u < 18446744073709551616) (hE : Env w) :
    Calls Tryz.prog 65 #[.int .u64 u, .int .i64 10] w fun e w' => e = .returned (.string (str (Lib.decDigits u))) ∧ Below w.heap.size w w' := by
  have H := Lib.hid (iformatUint_any u w hu64 hE)
  clear hu64 hE
  go_enter Tryz.func65, Tryz.ntmps65
  go_wp2_with fail
  refine H.out.mono ?_
  rintro e w1 ⟨rfl, hb⟩
  have Hb := Lib.hid hb
  clear hb
  go_wp2
  go_ret
  exact ⟨rfl, Hb.out⟩

/-- An error that is no nil. -/
def IsErr (v : Value) : Prop := ∃ t x, v = .iface t x

/-- strconv.ParseUint(s, 10, 64) at a text of digits that spells a uint64. -/
theorem parseUint_ok (l : List UInt8) (w : World) (hd : ∀ c ∈ l, PK.isD c = true) (hl : l ≠ []) (hlen : l.length ≤ 100) (hv : PK.dval 0 l < 18446744073709551616) :
    Calls Tryz.prog 113 #[.string (str l), .int .i64 10, .int .i64 64] w fun e w' => e = .returned (.tuple #[.int .u64 (PK.dval 0 l), .nilIface]) ∧ Below w.heap.size w w' := by
  have hp : Lib.parseUintB 64 (str l).data.toList = .ok (PK.dval 0 l) := by
    rw [str_list, PK.parse_digits l hd hl, if_pos (by omega)]
  refine (Tryz.strconv_ParseUint_10_at64_ok (str l) (by rw [str_size]; omega) _ hp w).mono ?_
  rintro e w' ⟨rfl, h | h⟩
  · subst h; exact ⟨rfl, Below.refl _ _⟩
  · subst h; exact ⟨rfl, Lib.bytesWorld_below _ _ _⟩
/-- strconv.ParseUint at a text of digits that spells none, or at none. -/
theorem parseUint_no (l : List UInt8) (w : World) (hE : Env w) (hd : ∀ c ∈ l, PK.isD c = true) (hlen : l.length ≤ 100) (hv : l = [] ∨ 18446744073709551616 ≤ PK.dval 0 l) :
    Calls Tryz.prog 113 #[.string (str l), .int .i64 10, .int .i64 64] w fun e w' => (∃ u : Int, ∃ t x, e = .returned (.tuple #[.int .u64 u, .iface t x])) ∧ Below w.heap.size w w' := by
  have hsz : (str l).size ≤ 281474976710656 := by rw [str_size]; omega
  by_cases hl : l = []
  · obtain ⟨tp, p, hc⟩ := hE.es
    have hp : Lib.parseUintB 64 (str l).data.toList = Lib.NumEnd.syntax := by rw [str_list, hl]; exact PK.parse_empty
    refine (Tryz.strconv_ParseUint_10_at64_syntax (str l) hsz hp _ w hc (.inr ⟨tp, p, rfl⟩)).mono ?_
    rintro e w' ⟨N, rfl, _, _, hb⟩
    exact ⟨⟨_, _, _, rfl⟩, hb⟩
  · obtain ⟨tp, p, hc⟩ := hE.er
    have hp : Lib.parseUintB 64 (str l).data.toList = .range := by
      rw [str_list, PK.parse_digits l hd hl, if_neg (by rcases hv with h | h; exact absurd h hl; omega)]
    refine (Tryz.strconv_ParseUint_10_at64_range (str l) hsz hp _ w hc (.inr ⟨tp, p, rfl⟩)).mono ?_
    rintro e w' ⟨N, rfl, _, _, hb⟩
    exact ⟨⟨_, _, _, rfl⟩, hb⟩


set_option maxHeartbeats 1000000 in
/-- num: an error's number. -/
theorem num_any (k : Nat) (w : World) (hE : Env w) :
    Calls Tryz.prog 7 #[errV k] w fun e w' => e = .returned (.int .i64 k) ∧ Below w.heap.size w w' := by
  cases k with
  | zero =>
    clear hE
    unfold errV
    go_enter Tryz.func7, Tryz.ntmps7
    go_wp2
    go_ret
    exact ⟨rfl, (Below.refl _ _).alloc (Nat.le_refl _) _⟩
  | succ n =>
    have hlt : 0 < w.heap.size := Nat.lt_of_le_of_lt (Nat.zero_le _) hE.big
    have hit := fun w0 : World => as_hit ((n : Int) + 1) ⟨w.heap.size, 0, none⟩ (.int .i64 0) (w.alloc (.cells #[.int .i64 0] 64)) (by rw [World.cell?_alloc_lt _ _ _ hlt]; exact hE.et) (by simp) (by simp)
    have Hit := Lib.hid hit
    clear hit hE
    unfold errV
    go_enter Tryz.func7, Tryz.ntmps7
    go_wp2_with fail
    refine (Hit.out w).mono ?_
    rintro e w' ⟨rfl, rfl⟩
    go_wp2
    go_ret
    refine ⟨by simp, ?_⟩
    go_grown
end Go.Proofs.YtflghelhdalhiaaGreatDoor

namespace Go.Proofs.YtflghelhdalhiaaGreatDoor
open Go Go.RowKit

/-- A READER in block N: it has the bytes l left, and the error k (0: none). -/
structure Rd (w : World) (N : Nat) (l : List UInt8) (k : Nat) : Prop where
  glob : glob ≤ N
  ex : ∃ a c, w.heap[N]? = some (.cells #[.slice a l.length c, errV k] 94) ∧ IsB w (.slice a l.length c) l
theorem errV_form (k : Nat) : errV k = .nilIface ∨ ∃ t x, errV k = .iface t x := by
  cases k with
  | zero => exact .inl rfl
  | succ n => exact .inr ⟨_, _, rfl⟩
theorem errV_noByte (k : Nat) (n : Int) : errV k ≠ .int .u8 n := by cases k <;> simp [errV]
theorem Rd.lt {w : World} {N : Nat} {l : List UInt8} {k : Nat} (h : Rd w N l k) : N < w.heap.size := by
  obtain ⟨_, a, c, hh, _⟩ := h
  exact (Array.getElem?_eq_some_iff.1 hh).1
/-- The cells as the walk asks for them. -/
theorem cells2 {w : World} {N : Nat} {x y : Value} {t : TypeId} (h : w.heap[N]? = some (.cells #[x, y] t)) :
    w.cell? ⟨N, 0, none⟩ = some x ∧ w.cell? ⟨N, 1, none⟩ = some y ∧ w.frozen? ⟨N, 0, none⟩ = false ∧ w.frozen? ⟨N, 1, none⟩ = false := by
  simp [World.cell?, World.frozen?, h]
theorem IsB.apart2 {w : World} {v x y : Value} {l : List UInt8} (h : IsB w v l) {k : Nat} {t : TypeId} (hk : w.heap[k]? = some (.cells #[x, y] t))
    (hx : ∀ n, x ≠ .int .u8 n) (hy : ∀ n, y ≠ .int .u8 n) (hl : l ≠ []) : v.ownBlock ≠ some k :=
  h.apart hk (fun j n => by
    rcases j with _ | _ | j
    · simpa using hx n
    · simpa using hy n
    · simp) hl
/-- A slice of no bytes reads so in every world. -/
theorem IsB.empty {w w' : World} {v : Value} (h : IsB w v []) : IsB w' v [] := by
  obtain ⟨a, cap, rfl, h1, h2, h0, h3⟩ := h
  exact ⟨a, cap, rfl, h1, h2, h0, .inl rfl⟩
/-- The reader's bytes read on while its own block turns. -/
theorem Rd.bytes {w w' : World} {N : Nat} {k : Nat} {a : Option Addr} {n c : Nat} (hh : w.heap[N]? = some (.cells #[.slice a n c, errV k] 94)) {v : Value} {m : List UInt8} (hv : IsB w v m) (f : Fr (fun j => j = N) w w') : IsB w' v m := by
  by_cases hl : m = []
  · subst hl; exact hv.empty
  · exact hv.kept f (fun b hb e => hv.apart2 hh (by simp) (errV_noByte k) hl (by rw [hb, e]))
theorem Rd.kept {X : Nat → Prop} {w w' : World} {N : Nat} {l : List UInt8} {k : Nat} (h : Rd w N l k) (f : Fr X w w') (hx : ¬ X N) (hb : ∀ a c, w.heap[N]? = some (.cells #[.slice a l.length c, errV k] 94) → ∀ b, Value.ownBlock (.slice a l.length c) = some b → ¬ X b) : Rd w' N l k := by
  obtain ⟨hg, a, c, hh, hv⟩ := h
  exact ⟨hg, a, c, f.heap hh hx, hv.kept f (hb a c hh)⟩
theorem Rd.below {w w' : World} {N : Nat} {l : List UInt8} {k : Nat} (h : Rd w N l k) (f : Below w.heap.size w w') : Rd w' N l k := h.kept (X := fun _ => False) (Fr.of_below f) (fun x => x) (fun _ _ _ _ _ x => x)

/-- A store of the error. -/
theorem Rd.setErr {w : World} {N : Nat} {l : List UInt8} {k : Nat} (h : Rd w N l k) (j : Nat) : Rd (w.setCell ⟨N, 1, none⟩ (errV j)) N l j ∧ Fr (fun i => i = N) w (w.setCell ⟨N, 1, none⟩ (errV j)) := by
  obtain ⟨hg, a, c, hh, hv⟩ := h
  have f : Fr (fun i => i = N) w (w.setCell ⟨N, 1, none⟩ (errV j)) := Fr.setCell (X := fun i => i = N) (Fr.refl _ w) (fun _ => rfl) _
  refine ⟨⟨hg, a, c, ?_, Rd.bytes hh hv f⟩, f⟩
  have hlt := (Array.getElem?_eq_some_iff.1 hh).1
  simp only [World.setCell, Array.getElem?_modify, if_true, hh, Option.map_some]
  simp
/-- A store of what is left. -/
theorem Rd.setRest {w : World} {N : Nat} {l m : List UInt8} {k : Nat} (h : Rd w N l k) (a : Option Addr) (n c : Nat) (hn : m.length = n) (hv : IsB w (.slice a n c) m) : Rd (w.setCell ⟨N, 0, none⟩ (.slice a n c)) N m k ∧ Fr (fun i => i = N) w (w.setCell ⟨N, 0, none⟩ (.slice a n c)) := by
  subst hn
  obtain ⟨hg, a', c', hh, hv'⟩ := h
  have f : Fr (fun i => i = N) w (w.setCell ⟨N, 0, none⟩ (.slice a m.length c)) := Fr.setCell (X := fun i => i = N) (Fr.refl _ w) (fun _ => rfl) _
  refine ⟨⟨hg, a, c, ?_, Rd.bytes hh hv f⟩, f⟩
  simp only [World.setCell, Array.getElem?_modify, if_true, hh, Option.map_some]
  simp
theorem Env.rd {w w' : World} {N : Nat} (h : Env w) (f : Fr (fun i => i = N) w w') (hN : glob ≤ N) : Env w' := h.kept f (fun k hk e => by omega)

/-- pack.Read: a reader of the bytes. -/
theorem read_any (a : Option Addr) (c : Nat) (l : List UInt8) (w : World) (hE : Env w) (hv : IsB w (.slice a l.length c) l) :
    Calls Tryz.prog 14 #[.slice a l.length c] w fun e w' => e = .returned (.pointer (some ⟨w.heap.size, 0, none⟩)) ∧ Rd w' w.heap.size l 0 ∧ Below w.heap.size w w' := by
  have hg : glob ≤ w.heap.size := hE.big
  have Hv := Lib.hid hv
  have Hg := Lib.hid hg
  clear hv hE hg
  go_enter Tryz.func14, Tryz.ntmps14
  go_wp2
  go_ret
  exact ⟨rfl, ⟨Hg.out, a, c, heap_alloc_new w _, Hv.out.alloc _⟩, (Below.refl _ _).alloc (Nat.le_refl _) _⟩


/-- Done. -/
theorem done_any (N : Nat) (l : List UInt8) (k : Nat) (w : World) (h : Rd w N l k) :
    Calls Tryz.prog 20 #[.pointer (some ⟨N, 0, none⟩)] w fun e w' => e = .returned (errV (PK.doneP l k)) ∧ w = w' := by
  obtain ⟨_, a, c, hh, _⟩ := h
  obtain ⟨c0, c1, _, _⟩ := cells2 hh
  clear hh
  unfold PK.doneP
  cases k with
  | zero =>
    by_cases hl : l = []
    · subst hl
      unfold errV at c1
      go_enter Tryz.func20, Tryz.ntmps20
      go_wp2
      go_ret
      exact ⟨rfl, rfl⟩
    · have hp : 0 < l.length := List.length_pos_iff.2 hl
      have Hl := Lib.hid hl
      clear hl
      unfold errV at c1
      go_enter Tryz.func20, Tryz.ntmps20
      go_wp2
      go_ret
      exact ⟨rfl, rfl⟩
  | succ n =>
    unfold errV at c1
    go_enter Tryz.func20, Tryz.ntmps20
    go_wp2
    go_ret
    exact ⟨rfl, rfl⟩

/-- fails(err): the first error is noted; whether there is one. -/
theorem fails_any (N : Nat) (l : List UInt8) (k j : Nat) (w : World) (h : Rd w N l k) :
    Calls Tryz.prog 45 #[.pointer (some ⟨N, 0, none⟩), errV j] w fun e w' => e = .returned (.bool (decide ((if k = 0 then j else k) ≠ 0))) ∧ Rd w' N l (if k = 0 then j else k) ∧ Fr (fun i => i = N) w w' := by
  have H := Lib.hid h
  obtain ⟨_, a, c, hh, _⟩ := h
  obtain ⟨c0, c1, _, f1⟩ := cells2 hh
  clear hh
  cases k with
  | zero =>
    have HS := Lib.hid (H.out.setErr j)
    cases j with
    | zero =>
      unfold errV at c1 ⊢
      go_enter Tryz.func45, Tryz.ntmps45
      go_wp2
      go_ret
      exact ⟨rfl, HS.out⟩
    | succ m =>
      unfold errV at c1 ⊢
      go_enter Tryz.func45, Tryz.ntmps45
      go_wp2
      go_ret
      exact ⟨rfl, HS.out⟩
  | succ n =>
    cases j with
    | zero =>
      unfold errV at c1 ⊢
      go_enter Tryz.func45, Tryz.ntmps45
      go_wp2
      go_ret
      exact ⟨rfl, H.out, Fr.refl _ _⟩
    | succ m =>
      unfold errV at c1 ⊢
      go_enter Tryz.func45, Tryz.ntmps45
      go_wp2
      go_ret
      exact ⟨rfl, H.out, Fr.refl _ _⟩
end Go.Proofs.YtflghelhdalhiaaGreatDoor
