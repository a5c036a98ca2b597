/-
  strconv's functions in the form that the walks use, and an error's number ('num').
  Conditions: the listed package-level variables read as listed ('Env').
  pack.Reader's methods, by contracts over plain Lean functions (Pure): what each answers, what is left, the reader's error; only the reader's own block turns.
  Conditions: the listed variables read as listed ('Env'); the reader's block is behind the variables' blocks.
  Whole numbers up to 2^40 as floats of 64 bits, in plain Lean: what the nearest float of one is, reads as, and stands to others. No program; no condition beside the numbers' bound.
  pair's part and May, and what they call, by contracts, at amounts (turned out of XPair, without PairP's plain law, whose names meet MsgP's).
  Conditions: amounts (whole numbers from 0 to 2^40).
-/
import Derived.Test.YtkanjdijmdjbaaaGreatDoorAs
import Derived.Test.YtkanjdijmdjbaaaGreatDoorG1
import GoSem.Core.Float
import Derived.Laws.FloatArith
import Derived.Laws.Cover3
namespace Go.Proofs.YtkanjdijmdjbaaaGreatDoor
open Go Go.RowKit Go.Sort

/-- strconv.Itoa. -/
theorem itoa_any (n : Int) (w : World) (h0 : -9223372036854775808 ≤ n) (h1 : n ≤ 9223372036854775807) (hE : Env w) :
    Calls Tryz.prog 73 #[.int .i64 n] w fun e w' => e = .returned (.string (str (Lib.itoa n))) ∧ Below w.heap.size w w' := by
  refine (Tryz.strconv_Itoa n h0 h1 w hE.tab).mono ?_
  rintro e w' ⟨rfl, k, os, rfl⟩
  exact ⟨rfl, Lib.below_grow _ w (Nat.le_refl _) k os⟩

theorem holds_zero0 (w : World) (T : TypeId) (nd : Nat) (hs : nd ≤ 24) : Holds (fun (b : UInt8) => Value.int .u8 (b.toNat : Int)) (w.alloc (.cells Lib.zeros24 T)) w.heap.size 0 (Array.replicate nd (0 : UInt8)) := fun j hj => by
  have hj' : j < nd := by simpa using hj
  refine ⟨?_, World.frozen?_alloc_new _ _ _ _⟩
  rw [World.cell?_alloc_new, Nat.zero_add, Lib.zeros24_at _ (by omega), getElem!_pos _ j hj]
  simp

set_option maxHeartbeats 1000000 in
set_option maxRecDepth 100000 in
/-- internal/strconv.FormatUint at base 10. -/
theorem iformatUint_any (u : Nat) (w : World) (hu64 : u < 18446744073709551616) (hE : Env w) :
    Calls Tryz.prog 119 #[.int .u64 u, .int .i64 10] w fun e w' => e = .returned (.string (str (Lib.decDigits u))) ∧ Below w.heap.size w w' := by
  have htab := hE.tab
  clear hE
  by_cases hs : u < 100
  · have hs' : decide ((u : Int) < 100) = true := by simp; omega
    go_enter Tryz.func119, Tryz.ntmps119
    go_wp2_with (go_at_call 149; refine (Tryz.internal_strconv_small u hs _).mono ?_; rintro e w' ⟨rfl, rfl⟩)
    go_ret
    exact ⟨rfl, Below.refl _ _⟩
  · have hu1 : 1 ≤ u := by omega
    have hnd20 : Lib.nDigits u ≤ 20 := by have := Lib.numDigits_eq u hu1 hu64; split at this <;> omega
    have hal : Tryz.prog.arrayLen 239 = 24 := by kernel_rfl
    have hsl : ∀ W, (Instr.sliceAt 239 (.pointer (some ⟨w.heap.size, 0, none⟩)) none (some (.int .i64 (Lib.nDigits u : Int))) none).run Tryz.prog W = .ok (.slice (some ⟨w.heap.size, 0, none⟩) (Lib.nDigits u) 24) W := fun W => by
      rw [run_sliceAt_array_h W 239 ⟨w.heap.size, 0, none⟩ (by kernel_rfl) .i64 (Lib.nDigits u : Int) (by omega) (by rw [hal]; omega)]
      go_simp
    have hH0 := holds_zero0 w 239 (Lib.nDigits u) (by omega)
    have hfmt := Tryz.internal_strconv_formatBase10 w.heap.size 0 24 u (Array.replicate (Lib.nDigits u) 0) (w.alloc (.cells Lib.zeros24 239)) hH0 (by rw [Array.size_replicate]; exact Lib.lt_pow_nDigits u) hu64 (by rw [Array.size_replicate]; omega)
    rw [Array.size_replicate] at hfmt
    have HH0 := Lib.hid hH0
    clear hH0 hal
    go_enter Tryz.func119, Tryz.ntmps119
    go_wp2_with (first
      | (go_at_call 150; refine (Tryz.internal_strconv_numDigits u hu1 hu64 _ (Lib.tabIs_alloc htab _)).mono ?_; rintro e w' ⟨rfl, rfl⟩))
    go_at_call 151
    refine hfmt.mono ?_
    rintro e w' ⟨rfl, k, v', dk, rfl, hF⟩
    have hcv : (convert 22 9 (.slice (some ⟨w.heap.size, 0, none⟩) (Lib.nDigits u) 24)).run Tryz.prog ((putRow (fun (b : UInt8) => Value.int .u8 (b.toNat : Int)) (w.alloc (.cells Lib.zeros24 239)) w.heap.size 0 dk).drewN k) = .ok (.string ⟨(Lib.decDigits u).toArray⟩) ((putRow (fun (b : UInt8) => Value.int .u8 (b.toNat : Int)) (w.alloc (.cells Lib.zeros24 239)) w.heap.size 0 dk).drewN k) := by
      have h := run_convert_bytes_back (P := Tryz.prog) ((putRow (fun (b : UInt8) => Value.int .u8 (b.toNat : Int)) (w.alloc (.cells Lib.zeros24 239)) w.heap.size 0 dk).drewN k) 22 9 5 ⟨w.heap.size, 0, none⟩ 24 (Lib.decDigits u) Tryz.underlying22 Tryz.underlying5 Tryz.underlying9 (fun j hj => by
        rw [Lib.row_is_numeral hF j hj, Lib.add_plain, World.cell?_drewN]
        exact cell?_putRow (fun (b : UInt8) => Value.int .u8 (b.toNat : Int)) _ w.heap.size 0 _ dk HH0.out (by rw [hF.size, Array.size_replicate]) j (by rw [hF.size]; rw [Lib.decDigits_length] at hj; exact hj))
      rw [Lib.decDigits_length] at h
      exact h
    go_wp2
    go_ret
    refine ⟨rfl, ?_⟩
    rw [alloc_eq_grow]
    obtain ⟨os', _, e⟩ := putRow_grow_new (fun (b : UInt8) => Value.int .u8 (b.toNat : Int)) w #[.cells Lib.zeros24 239] w.heap.size 0 dk (Nat.le_refl _)
    rw [e]
    exact Lib.below_grow _ w (Nat.le_refl _) k os'

/-- strconv.FormatUint at base 10. -/
theorem formatUint_any (u : Nat) (w : World) (hu64 : u < 18446744073709551616) (hE : Env w) :
    Calls Tryz.prog 77 #[.int .u64 u, .int .i64 10] w fun e w' => e = .returned (.string (str (Lib.decDigits u))) ∧ Below w.heap.size w w' := by
  have H := Lib.hid (iformatUint_any u w hu64 hE)
  clear hu64 hE
  go_enter Tryz.func77, Tryz.ntmps77
  go_wp2_with fail
  refine H.out.mono ?_
  rintro e w1 ⟨rfl, hb⟩
  have Hb := Lib.hid hb
  clear hb
  go_wp2
  go_ret
  exact ⟨rfl, Hb.out⟩

/-- strconv.ParseUint(s, 10, 64) at a text of digits that spells a uint64. -/
theorem parseUint_ok (l : List UInt8) (w : World) (hd : ∀ c ∈ l, PK.isD c = true) (hl : l ≠ []) (hlen : l.length ≤ 100) (hv : PK.dval 0 l < 18446744073709551616) :
    Calls Tryz.prog 175 #[.string (str l), .int .i64 10, .int .i64 64] w fun e w' => e = .returned (.tuple #[.int .u64 (PK.dval 0 l), .nilIface]) ∧ Below w.heap.size w w' := by
  have hp : Lib.parseUintB 64 (str l).data.toList = .ok (PK.dval 0 l) := by
    rw [str_list, PK.parse_digits l hd hl, if_pos (by omega)]
  refine (Tryz.strconv_ParseUint_10_at64_ok (str l) (by rw [str_size]; omega) _ hp w).mono ?_
  rintro e w' ⟨rfl, h | h⟩
  · subst h; exact ⟨rfl, Below.refl _ _⟩
  · subst h; exact ⟨rfl, Lib.bytesWorld_below _ _ _⟩
/-- strconv.ParseUint at a text of digits that spells none, or at none. -/
theorem parseUint_no (l : List UInt8) (w : World) (hE : Env w) (hd : ∀ c ∈ l, PK.isD c = true) (hlen : l.length ≤ 100) (hv : l = [] ∨ 18446744073709551616 ≤ PK.dval 0 l) :
    Calls Tryz.prog 175 #[.string (str l), .int .i64 10, .int .i64 64] w fun e w' => (∃ u : Int, ∃ t x, e = .returned (.tuple #[.int .u64 u, .iface t x])) ∧ Below w.heap.size w w' := by
  have hsz : (str l).size ≤ 281474976710656 := by rw [str_size]; omega
  by_cases hl : l = []
  · obtain ⟨tp, p, hc⟩ := hE.es
    have hp : Lib.parseUintB 64 (str l).data.toList = Lib.NumEnd.syntax := by rw [str_list, hl]; exact PK.parse_empty
    refine (Tryz.strconv_ParseUint_10_at64_syntax (str l) hsz hp _ w hc (.inr ⟨tp, p, rfl⟩)).mono ?_
    rintro e w' ⟨N, rfl, _, _, hb⟩
    exact ⟨⟨_, _, _, rfl⟩, hb⟩
  · obtain ⟨tp, p, hc⟩ := hE.er
    have hp : Lib.parseUintB 64 (str l).data.toList = .range := by
      rw [str_list, PK.parse_digits l hd hl, if_neg (by rcases hv with h | h; exact absurd h hl; omega)]
    refine (Tryz.strconv_ParseUint_10_at64_range (str l) hsz hp _ w hc (.inr ⟨tp, p, rfl⟩)).mono ?_
    rintro e w' ⟨N, rfl, _, _, hb⟩
    exact ⟨⟨_, _, _, rfl⟩, hb⟩

/-- strconv.Atoi: a value. -/
theorem atoi_ok (l : List UInt8) (w : World) (v : Int) (hlen : l.length ≤ 1000) (h : Lib.atoiAll l = .ok v) :
    Calls Tryz.prog 103 #[.string (str l)] w fun e w' => e = .returned (.tuple #[.int .i64 v, .nilIface]) ∧ Below w.heap.size w w' := by
  refine (Tryz.strconv_Atoi_ok (str l) (by rw [str_size]; omega) v h w).mono ?_
  rintro e w' ⟨rfl, h | ⟨t, h⟩⟩
  · subst h; exact ⟨rfl, Below.refl _ _⟩
  · subst h; exact ⟨rfl, Lib.bytesWorld_below _ _ _⟩
/-- strconv.Atoi: an error. -/
theorem atoi_no (l : List UInt8) (w : World) (hE : Env w) (hlen : l.length ≤ 281474976710656) (h : ∀ v, Lib.atoiAll l ≠ .ok v) :
    Calls Tryz.prog 103 #[.string (str l)] w fun e w' => (∃ u : Int, ∃ t x, e = .returned (.tuple #[.int .i64 u, .iface t x])) ∧ Below w.heap.size w w' := by
  rcases hr : Lib.atoiAll l with v | _ | _
  · exact absurd hr (h v)
  · obtain ⟨tp, p, hc⟩ := hE.es
    refine (Tryz.strconv_Atoi_syntax (str l) (by rw [str_size]; exact hlen) hr _ w hc (.inr ⟨tp, p, rfl⟩)).mono ?_
    rintro e w' ⟨N, rfl, _, _, hb⟩
    exact ⟨⟨_, _, _, rfl⟩, hb⟩
  · obtain ⟨tp, p, hc⟩ := hE.er
    refine (Tryz.strconv_Atoi_range (str l) (by rw [str_size]; exact hlen) hr _ w hc (.inr ⟨tp, p, rfl⟩)).mono ?_
    rintro e w' ⟨N, rfl, _, _, hb⟩
    exact ⟨⟨_, _, _, rfl⟩, hb⟩

set_option maxHeartbeats 1000000 in
/-- num: an error's number. -/
theorem num_any (k : Nat) (w : World) (hE : Env w) :
    Calls Tryz.prog 7 #[errV k] w fun e w' => e = .returned (.int .i64 k) ∧ Below w.heap.size w w' := by
  cases k with
  | zero =>
    clear hE
    unfold errV
    go_enter Tryz.func7, Tryz.ntmps7
    go_wp2
    go_ret
    exact ⟨rfl, (Below.refl _ _).alloc (Nat.le_refl _) _⟩
  | succ n =>
    have hlt : 0 < w.heap.size := Nat.lt_of_le_of_lt (Nat.zero_le _) hE.big
    have hit := fun w0 : World => as_hit ((n : Int) + 1) ⟨w.heap.size, 0, none⟩ (.int .i64 0) (w.alloc (.cells #[.int .i64 0] 78)) (by rw [World.cell?_alloc_lt _ _ _ hlt]; exact hE.et) (by simp) (by simp)
    have Hit := Lib.hid hit
    clear hit hE
    unfold errV
    go_enter Tryz.func7, Tryz.ntmps7
    go_wp2_with fail
    refine (Hit.out w).mono ?_
    rintro e w' ⟨rfl, rfl⟩
    go_wp2
    go_ret
    refine ⟨by simp, ?_⟩
    go_grown
end Go.Proofs.YtkanjdijmdjbaaaGreatDoor

namespace Go.Proofs.YtkanjdijmdjbaaaGreatDoor
open Go Go.RowKit

/-- A READER in block N: it has the bytes l left, and the error k (0: none). -/
structure Rd (w : World) (N : Nat) (l : List UInt8) (k : Nat) : Prop where
  glob : glob ≤ N
  ex : ∃ a c, w.heap[N]? = some (.cells #[.slice a l.length c, errV k] 123) ∧ IsB w (.slice a l.length c) l
theorem errV_noByte (k : Nat) (n : Int) : errV k ≠ .int .u8 n := by cases k <;> simp [errV]
theorem Rd.lt {w : World} {N : Nat} {l : List UInt8} {k : Nat} (h : Rd w N l k) : N < w.heap.size := by
  obtain ⟨_, a, c, hh, _⟩ := h
  exact (Array.getElem?_eq_some_iff.1 hh).1
/-- The cells as the walk asks for them. -/
theorem cells2 {w : World} {N : Nat} {x y : Value} {t : TypeId} (h : w.heap[N]? = some (.cells #[x, y] t)) :
    w.cell? ⟨N, 0, none⟩ = some x ∧ w.cell? ⟨N, 1, none⟩ = some y ∧ w.frozen? ⟨N, 0, none⟩ = false ∧ w.frozen? ⟨N, 1, none⟩ = false := by
  simp [World.cell?, World.frozen?, h]
theorem IsB.apart2 {w : World} {v x y : Value} {l : List UInt8} (h : IsB w v l) {k : Nat} {t : TypeId} (hk : w.heap[k]? = some (.cells #[x, y] t))
    (hx : ∀ n, x ≠ .int .u8 n) (hy : ∀ n, y ≠ .int .u8 n) (hl : l ≠ []) : v.ownBlock ≠ some k :=
  h.apart hk (fun j n => by
    rcases j with _ | _ | j
    · simpa using hx n
    · simpa using hy n
    · simp) hl
/-- A slice of no bytes reads so in every world. -/
theorem IsB.empty {w w' : World} {v : Value} (h : IsB w v []) : IsB w' v [] := by
  obtain ⟨a, cap, rfl, h1, h2, h0, h3⟩ := h
  exact ⟨a, cap, rfl, h1, h2, h0, .inl rfl⟩
/-- The reader's bytes read on while its own block turns. -/
theorem Rd.bytes {w w' : World} {N : Nat} {k : Nat} {a : Option Addr} {n c : Nat} (hh : w.heap[N]? = some (.cells #[.slice a n c, errV k] 123)) {v : Value} {m : List UInt8} (hv : IsB w v m) (f : Fr (fun j => j = N) w w') : IsB w' v m := by
  by_cases hl : m = []
  · subst hl; exact hv.empty
  · exact hv.kept f (fun b hb e => hv.apart2 hh (by simp) (errV_noByte k) hl (by rw [hb, e]))
theorem Rd.kept {X : Nat → Prop} {w w' : World} {N : Nat} {l : List UInt8} {k : Nat} (h : Rd w N l k) (f : Fr X w w') (hx : ¬ X N) (hb : ∀ a c, w.heap[N]? = some (.cells #[.slice a l.length c, errV k] 123) → ∀ b, Value.ownBlock (.slice a l.length c) = some b → ¬ X b) : Rd w' N l k := by
  obtain ⟨hg, a, c, hh, hv⟩ := h
  exact ⟨hg, a, c, f.heap hh hx, hv.kept f (hb a c hh)⟩
theorem Rd.below {w w' : World} {N : Nat} {l : List UInt8} {k : Nat} (h : Rd w N l k) (f : Below w.heap.size w w') : Rd w' N l k := h.kept (X := fun _ => False) (Fr.of_below f) (fun x => x) (fun _ _ _ _ _ x => x)

/-- A store of the error. -/
theorem Rd.setErr {w : World} {N : Nat} {l : List UInt8} {k : Nat} (h : Rd w N l k) (j : Nat) : Rd (w.setCell ⟨N, 1, none⟩ (errV j)) N l j ∧ Fr (fun i => i = N) w (w.setCell ⟨N, 1, none⟩ (errV j)) := by
  obtain ⟨hg, a, c, hh, hv⟩ := h
  have f : Fr (fun i => i = N) w (w.setCell ⟨N, 1, none⟩ (errV j)) := Fr.setCell (X := fun i => i = N) (Fr.refl _ w) (fun _ => rfl) _
  refine ⟨⟨hg, a, c, ?_, Rd.bytes hh hv f⟩, f⟩
  have hlt := (Array.getElem?_eq_some_iff.1 hh).1
  simp only [World.setCell, Array.getElem?_modify, if_true, hh, Option.map_some]
  simp
/-- A store of what is left. -/
theorem Rd.setRest {w : World} {N : Nat} {l m : List UInt8} {k : Nat} (h : Rd w N l k) (a : Option Addr) (n c : Nat) (hn : m.length = n) (hv : IsB w (.slice a n c) m) : Rd (w.setCell ⟨N, 0, none⟩ (.slice a n c)) N m k ∧ Fr (fun i => i = N) w (w.setCell ⟨N, 0, none⟩ (.slice a n c)) := by
  subst hn
  obtain ⟨hg, a', c', hh, hv'⟩ := h
  have f : Fr (fun i => i = N) w (w.setCell ⟨N, 0, none⟩ (.slice a m.length c)) := Fr.setCell (X := fun i => i = N) (Fr.refl _ w) (fun _ => rfl) _
  refine ⟨⟨hg, a, c, ?_, Rd.bytes hh hv f⟩, f⟩
  simp only [World.setCell, Array.getElem?_modify, if_true, hh, Option.map_some]
  simp
theorem Env.rd {w w' : World} {N : Nat} (h : Env w) (f : Fr (fun i => i = N) w w') (hN : glob ≤ N) : Env w' := h.kept f (fun k hk e => by omega)

/-- pack.Read: a reader of the bytes. -/
theorem read_any (a : Option Addr) (c : Nat) (l : List UInt8) (w : World) (hE : Env w) (hv : IsB w (.slice a l.length c) l) :
    Calls Tryz.prog 15 #[.slice a l.length c] w fun e w' => e = .returned (.pointer (some ⟨w.heap.size, 0, none⟩)) ∧ Rd w' w.heap.size l 0 ∧ Below w.heap.size w w' := by
  have hg : glob ≤ w.heap.size := hE.big
  have Hv := Lib.hid hv
  have Hg := Lib.hid hg
  clear hv hE hg
  go_enter Tryz.func15, Tryz.ntmps15
  go_wp2
  go_ret
  exact ⟨rfl, ⟨Hg.out, a, c, heap_alloc_new w _, Hv.out.alloc _⟩, (Below.refl _ _).alloc (Nat.le_refl _) _⟩

/-- Done. -/
theorem done_any (N : Nat) (l : List UInt8) (k : Nat) (w : World) (h : Rd w N l k) :
    Calls Tryz.prog 21 #[.pointer (some ⟨N, 0, none⟩)] w fun e w' => e = .returned (errV (PK.doneP l k)) ∧ w = w' := by
  obtain ⟨_, a, c, hh, _⟩ := h
  obtain ⟨c0, c1, _, _⟩ := cells2 hh
  clear hh
  unfold PK.doneP
  cases k with
  | zero =>
    by_cases hl : l = []
    · subst hl
      unfold errV at c1
      go_enter Tryz.func21, Tryz.ntmps21
      go_wp2
      go_ret
      exact ⟨rfl, rfl⟩
    · have hp : 0 < l.length := List.length_pos_iff.2 hl
      have Hl := Lib.hid hl
      clear hl
      unfold errV at c1
      go_enter Tryz.func21, Tryz.ntmps21
      go_wp2
      go_ret
      exact ⟨rfl, rfl⟩
  | succ n =>
    unfold errV at c1
    go_enter Tryz.func21, Tryz.ntmps21
    go_wp2
    go_ret
    exact ⟨rfl, rfl⟩

/-- fails(err): the first error is noted; whether there is one. -/
theorem fails_any (N : Nat) (l : List UInt8) (k j : Nat) (w : World) (h : Rd w N l k) :
    Calls Tryz.prog 55 #[.pointer (some ⟨N, 0, none⟩), errV j] w fun e w' => e = .returned (.bool (decide ((if k = 0 then j else k) ≠ 0))) ∧ Rd w' N l (if k = 0 then j else k) ∧ Fr (fun i => i = N) w w' := by
  have H := Lib.hid h
  obtain ⟨_, a, c, hh, _⟩ := h
  obtain ⟨c0, c1, _, f1⟩ := cells2 hh
  clear hh
  cases k with
  | zero =>
    have HS := Lib.hid (H.out.setErr j)
    cases j with
    | zero =>
      unfold errV at c1 ⊢
      go_enter Tryz.func55, Tryz.ntmps55
      go_wp2
      go_ret
      exact ⟨rfl, HS.out⟩
    | succ m =>
      unfold errV at c1 ⊢
      go_enter Tryz.func55, Tryz.ntmps55
      go_wp2
      go_ret
      exact ⟨rfl, HS.out⟩
  | succ n =>
    cases j with
    | zero =>
      unfold errV at c1 ⊢
      go_enter Tryz.func55, Tryz.ntmps55
      go_wp2
      go_ret
      exact ⟨rfl, H.out, Fr.refl _ _⟩
    | succ m =>
      unfold errV at c1 ⊢
      go_enter Tryz.func55, Tryz.ntmps55
      go_wp2
      go_ret
      exact ⟨rfl, H.out, Fr.refl _ _⟩
end Go.Proofs.YtkanjdijmdjbaaaGreatDoor

namespace Go.Proofs.YtkanjdijmdjbaaaGreatDoor.FL
open Go Ieee

/-- A whole number's float. -/
def fB (n : Nat) : Nat := FloatKind.f64.nearest (n : Int)
theorem fB_eq (n : Nat) : fB n = double.nearest false n 0 := by
  unfold fB FloatKind.nearest FloatKind.encode Format.write
  have h : decide ((n : Int) < 0) = false := by simp
  simp [h, FloatKind.format]
theorem d_least : double.leastPlace = -1074 := by decide
theorem d_bin : double.binade = 4503599627370496 := by decide
theorem d_inf : double.infRung = 9218868437227405312 := by decide +kernel
theorem d_sign : double.signWeight = 9223372036854775808 := by decide +kernel
theorem d_frac : double.fractionBits = 52 := rfl
/-- Nothing is cut. -/
theorem cut_zero (n : Nat) : Toward.even.cut false n 0 = n := by
  have e : 1 <<< min 0 (n.log2 + 2) = 1 := by simp
  unfold Toward.cut
  simp only [e]
  have h1 : n % 1 = 0 := Nat.mod_one n
  have h2 : n / 1 = n := Nat.div_one n
  rw [h1, h2]
  simp
theorem pow_bounds (n : Nat) (h0 : 0 < n) (h : n < 9007199254740992) : n.log2 ≤ 52 ∧ 4503599627370496 ≤ n * 2 ^ (52 - n.log2) ∧ n * 2 ^ (52 - n.log2) < 9007199254740992 := by
  have hn : n ≠ 0 := by omega
  have h1 : 2 ^ n.log2 ≤ n := Nat.log2_self_le hn
  have h2 : n < 2 ^ (n.log2 + 1) := Nat.lt_log2_self
  have he : n.log2 ≤ 52 := by
    rcases Nat.lt_or_ge 52 n.log2 with q | q
    · have : 2 ^ 53 ≤ 2 ^ n.log2 := Nat.pow_le_pow_right (by decide) q
      have e : (2 : Nat) ^ 53 = 9007199254740992 := by decide
      omega
    · exact q
  have hp : 0 < 2 ^ (52 - n.log2) := Nat.pos_of_ne_zero (by simp)
  have e1 : 2 ^ n.log2 * 2 ^ (52 - n.log2) = 4503599627370496 := by
    rw [← Nat.pow_add, Nat.add_sub_cancel' he]
  have e2 : 2 ^ (n.log2 + 1) * 2 ^ (52 - n.log2) = 9007199254740992 := by
    rw [← Nat.pow_add, show n.log2 + 1 + (52 - n.log2) = 53 from by omega]
  refine ⟨he, ?_, ?_⟩
  · rw [← e1]; exact Nat.mul_le_mul_right _ h1
  · rw [← e2]; exact Nat.mul_lt_mul_of_pos_right h2 hp
theorem fB_pos (n : Nat) (h0 : 0 < n) (h : n < 9007199254740992) : fB n = (n.log2 + 1022) * 4503599627370496 + n * 2 ^ (52 - n.log2) := by
  obtain ⟨he, hM1, hM2⟩ := pow_bounds n h0 h
  rw [fB_eq]
  unfold Format.nearest
  rw [if_neg (by omega)]
  have hlast : max ((0 : Int) + (n.log2 : Int) - (double.fractionBits : Int)) double.leastPlace = (n.log2 : Int) - 52 := by
    rw [d_least, d_frac]; omega
  simp only [hlast]
  have e1 : ((0 : Int) - ((n.log2 : Int) - 52)).toNat = 52 - n.log2 := by omega
  have e2 : ((n.log2 : Int) - 52 - 0).toNat = 0 := by omega
  have e3 : ((n.log2 : Int) - 52 - double.leastPlace).toNat = n.log2 + 1022 := by rw [d_least]; omega
  rw [e1, e2, e3, cut_zero, Nat.shiftLeft_eq, d_bin, d_inf]
  unfold Format.word
  rw [if_neg (by simp)]
  rw [Nat.min_eq_left]
  omega
theorem fB_zero : fB 0 = 0 := by decide
theorem fB_lt (n : Nat) (h : n < 9007199254740992) : fB n < 9223372036854775808 := by
  rcases Nat.eq_zero_or_pos n with rfl | h0
  · rw [fB_zero]; omega
  · obtain ⟨he, hM1, hM2⟩ := pow_bounds n h0 h
    rw [fB_pos n h0 h]
    omega
/-- What a whole number's float reads as. -/
theorem read_fB (n : Nat) (h : n < 9007199254740992) : ∃ j : Nat, double.read (fB n) = .number false (n * 2 ^ j) (-(j : Int)) ∧ (n ≠ 0 → j ≤ 52) := by
  rcases Nat.eq_zero_or_pos n with rfl | h0
  · obtain ⟨k, hk⟩ : ∃ k : Nat, k = 1074 := ⟨_, rfl⟩
    refine ⟨k, ?_, fun h => absurd rfl h⟩
    rw [fB_zero, Nat.zero_mul, hk]
    decide +kernel
  · obtain ⟨he, hM1, hM2⟩ := pow_bounds n h0 h
    have hf := fB_pos n h0 h
    refine ⟨52 - n.log2, ?_, fun _ => by omega⟩
    have hlt := fB_lt n h
    generalize fB n = b at *
    generalize n * 2 ^ (52 - n.log2) = M at *
    unfold Format.read
    rw [d_sign, d_bin, d_inf, d_least]
    have e1 : b / 9223372036854775808 = 0 := by omega
    have e2 : b % 9223372036854775808 = b := by omega
    have e3 : b % 4503599627370496 = M - 4503599627370496 := by omega
    have e4 : b / 4503599627370496 = n.log2 + 1023 := by omega
    simp only [e1, e2, e3, e4]
    rw [if_neg (by omega), if_pos (by omega)]
    have e5 : 4503599627370496 + (M - 4503599627370496) = M := by omega
    have e6 : (-1074 : Int) + ((n.log2 + 1023 - 1 : Nat) : Int) = -((52 - n.log2 : Nat) : Int) := by omega
    rw [e5, e6]
    rfl
theorem signed_false (m u : Nat) : signed false m u = ((m * 2 ^ u : Nat) : Int) := by
  unfold signed
  rw [if_neg (by simp), Nat.shiftLeft_eq]
/-- Floats of whole numbers stand as these do. -/
theorem order_fB (a b : Nat) (ha : a < 9007199254740992) (hb : b < 9007199254740992) : double.order (fB a) (fB b) = some (compare a b) := by
  obtain ⟨i, hi, _⟩ := read_fB a ha
  obtain ⟨j, hj, _⟩ := read_fB b hb
  unfold Format.order
  rw [hi, hj]
  unfold Datum.order
  simp only
  have e1 : (-(i : Int) - min (-(i : Int)) (-(j : Int))).toNat = max i j - i := by omega
  have e2 : (-(j : Int) - min (-(i : Int)) (-(j : Int))).toNat = max i j - j := by omega
  rw [e1, e2, signed_false, signed_false, Nat.mul_assoc, Nat.mul_assoc, ← Nat.pow_add, ← Nat.pow_add, show i + (max i j - i) = max i j from by omega, show j + (max i j - j) = max i j from by omega]
  have hp : 0 < 2 ^ max i j := Nat.pos_of_ne_zero (by simp)
  generalize 2 ^ max i j = p at *
  congr 1
  show compareOfLessAndEq ((a * p : Nat) : Int) ((b * p : Nat) : Int) = compareOfLessAndEq a b
  unfold compareOfLessAndEq
  rcases Nat.lt_trichotomy a b with q | q | q
  · have h1 : a * p < b * p := Nat.mul_lt_mul_of_pos_right q hp
    rw [if_pos (by omega), if_pos q]
  · subst q
    simp
  · have h1 : b * p < a * p := Nat.mul_lt_mul_of_pos_right q hp
    rw [if_neg (by omega), if_neg (by omega), if_neg (by omega), if_neg (by omega)]
theorem integral_fB (n : Nat) (h : n < 9007199254740992) : (double.read (fB n)).integral .zero = .number false n 0 := by
  obtain ⟨j, hj, hj2⟩ := read_fB n h
  rw [hj]
  unfold Datum.integral
  simp only
  have e1 : (-(j : Int)).toNat = 0 := by omega
  have e2 : (- -(j : Int)).toNat = j := by omega
  rw [e1, e2, Nat.shiftLeft_zero]
  unfold Toward.cut
  simp only [Bool.toNat_false, Nat.add_zero]
  rcases Nat.eq_zero_or_pos n with rfl | h0
  · simp
  · have hj3 := hj2 (by omega)
    have hle : 2 ^ j ≤ n * 2 ^ j := Nat.le_mul_of_pos_left _ h0
    have hlog : j ≤ (n * 2 ^ j).log2 := (Nat.le_log2 (by have : 0 < 2 ^ j := Nat.pos_of_ne_zero (by simp); omega)).2 hle
    rw [Nat.min_eq_left (by omega), Nat.shiftLeft_eq, Nat.one_mul, Nat.mul_div_cancel _ (Nat.pos_of_ne_zero (by simp))]
/-- Cut to a whole number it is that number. -/
theorem toInt_fB (n : Nat) (h : n < 9007199254740992) : (FloatKind.f64.decode (fB n)).toInt .zero = some (n : Int) := by
  unfold FloatKind.decode FloatKind.format Datum.toInt
  rw [integral_fB n h]
  simp [signed_false]
/-- It is whole. -/
theorem trunc_fB (n : Nat) (h : n < 9007199254740992) : FloatKind.f64.encode ((FloatKind.f64.decode (fB n)).integral .zero) = fB n := by
  unfold FloatKind.decode FloatKind.encode FloatKind.format
  rw [integral_fB n h, fB_eq]
  rfl
theorem fB_top : fB 1099511627776 = 4787326403894837248 := by decide +kernel
end Go.Proofs.YtkanjdijmdjbaaaGreatDoor.FL

namespace Go.Proofs.YtkanjdijmdjbaaaGreatDoor
open Go Go.RowKit

theorem ord_ge (n : Nat) (h : n ≤ 1099511627776) : (FloatKind.f64.format.order (FL.fB n) 0 == some .gt || FloatKind.f64.format.order (FL.fB n) 0 == some .eq) = true := by
  have e := FL.order_fB n 0 (by omega) (by omega)
  rw [FL.fB_zero] at e
  show (Ieee.double.order (FL.fB n) 0 == some .gt || Ieee.double.order (FL.fB n) 0 == some .eq) = true
  rw [e]
  rcases Nat.eq_zero_or_pos n with rfl | hp
  · rfl
  · rw [Nat.compare_eq_gt.2 hp]; rfl
theorem ord_le (n : Nat) (h : n ≤ 1099511627776) : (FloatKind.f64.format.order (FL.fB n) 4787326403894837248 == some .lt || FloatKind.f64.format.order (FL.fB n) 4787326403894837248 == some .eq) = true := by
  have e := FL.order_fB n 1099511627776 (by omega) (by omega)
  rw [FL.fB_top] at e
  show (Ieee.double.order (FL.fB n) 4787326403894837248 == some .lt || Ieee.double.order (FL.fB n) 4787326403894837248 == some .eq) = true
  rw [e]
  rcases Nat.lt_or_ge n 1099511627776 with hp | hp
  · rw [Nat.compare_eq_lt.2 hp]; rfl
  · obtain rfl : n = 1099511627776 := by omega
    rw [Nat.compare_eq_eq.2 rfl]; rfl
theorem ord_self (n : Nat) (h : n ≤ 1099511627776) : (FloatKind.f64.format.order (FL.fB n) (FL.fB n) == some .eq) = true := by
  have e := FL.order_fB n n (by omega) (by omega)
  show (Ieee.double.order (FL.fB n) (FL.fB n) == some .eq) = true
  rw [e, Nat.compare_eq_eq.2 rfl]; rfl

theorem toIntegral_eq (way : Ieee.Toward) (x : Nat) : Extern.MathFloor.toIntegral "math.archTrunc" way #[.float .f64 x] =
    (match FloatKind.f64.decode x with
    | .nan s t =>
      if FloatKind.f64.format.quiet t = t then pure (.float .f64 x) else do
      let kept ← choose (.extern "math.Floor,Ceil,Trunc,RoundToEven.signallingNaN kept" 2)
      pure (.float .f64 (if kept == 1 then x else FloatKind.f64.encode (.nan s (FloatKind.f64.format.quiet t))))
    | d => pure (.float .f64 (FloatKind.f64.encode (d.integral way)))) := rfl
/-- math.Trunc at a whole number. -/
theorem trunc_any (n : Nat) (w : World) (h : n ≤ 1099511627776) :
    Calls Tryz.prog 173 #[.float .f64 (FL.fB n)] w fun e w' => e = .returned (.float .f64 (FL.fB n)) ∧ w = w' := by
  have ht := FL.trunc_fB n (by omega)
  have hi := FL.integral_fB n (by omega)
  have hx : ∀ W : World, (Extern.MathFloor.toIntegral "math.archTrunc" .zero #[.float .f64 (FL.fB n)]).run Tryz.prog W = .ok (.float .f64 (FL.fB n)) W := by
    intro W
    rw [toIntegral_eq]
    cases hd : FloatKind.f64.decode (FL.fB n) with
    | nan s t =>
      have : Ieee.double.read (FL.fB n) = .nan s t := hd
      rw [this] at hi
      simp [Ieee.Datum.integral] at hi
    | number s m i => rw [hd] at ht; simp only [ht]; rfl
    | infinity s => rw [hd] at ht; simp only [ht]; rfl
  have h1 := @run_callFunc_extern Tryz.prog 202 _ (Extern.MathFloor.toIntegral "math.archTrunc" .zero) Tryz.func202 (by kernel_rfl) (by kernel_rfl) (by kernel_rfl) (by kernel_rfl)
  clear ht hi h
  generalize FL.fB n = b at *
  go_enter Tryz.func173, Tryz.ntmps173
  go_wp2_with fail
  go_ret
  exact ⟨rfl, rfl⟩
/-- math.Signbit at a whole number. -/
theorem signbit_any (n : Nat) (w : World) (h : n ≤ 1099511627776) :
    Calls Tryz.prog 174 #[.float .f64 (FL.fB n)] w fun e w' => e = .returned (.bool false) ∧ w = w' := by
  have hl := FL.fB_lt n (by omega)
  have h1 := @run_callFunc_extern Tryz.prog 204 _ Extern.MathFloatBits.float64bits Tryz.func204 (by kernel_rfl) (by kernel_rfl) (by kernel_rfl) (by kernel_rfl)
  have hx : ∀ (b : Nat) (W : World), (Extern.MathFloatBits.float64bits #[.float .f64 b]).run Tryz.prog W = .ok (.int .u64 b) W := fun _ _ => rfl
  have hw : IntKind.i64.wrap (FL.fB n : Int) = (FL.fB n : Int) := by rw [IntKind.wrap_i64]; omega
  have hn : ¬ ((FL.fB n : Int) < 0) := by omega
  clear hl h
  generalize FL.fB n = b at *
  go_enter Tryz.func174, Tryz.ntmps174
  go_wp2
  go_ret
  exact ⟨rfl, rfl⟩
/-- pair.part at a whole number. -/
theorem part_any (n : Nat) (w : World) (h : n ≤ 1099511627776) :
    Calls Tryz.prog 139 #[.float .f64 (FL.fB n)] w fun e w' => e = .returned (.bool true) ∧ w = w' := by
  have HT := Lib.hid (trunc_any n w h)
  have HS := Lib.hid (signbit_any n w h)
  have h1 := ord_ge n h
  have h2 := ord_le n h
  have h3 := ord_self n h
  clear h
  generalize FL.fB n = b at *
  go_enter Tryz.func139, Tryz.ntmps139
  go_wp2_with fail
  refine HT.out.mono ?_
  rintro e w1 ⟨rfl, rfl⟩
  go_wp2_with fail
  refine HS.out.mono ?_
  rintro e w1 ⟨rfl, rfl⟩
  go_wp2
  go_ret
  exact ⟨rfl, rfl⟩
/-- int(f) of a whole number. -/
theorem run_toInt (n : Nat) (w : World) (h : n ≤ 1099511627776) : (convert 124 3 (.float .f64 (FL.fB n))).run Tryz.prog w = .ok (.int .i64 n) w := by
  have ht := FL.toInt_fB n (by omega)
  refine run_convert_float_int w 124 3 .f64 .i64 (FL.fB n) n (by kernel_rfl) Tryz.underlying3 ?_
  unfold floatToIntVal
  rw [ht]
  simp only
  rw [if_pos]
  have e1 : IntKind.i64.min = -9223372036854775808 := by decide
  have e2 : IntKind.i64.max = 9223372036854775807 := by decide
  rw [e1, e2]
  omega
end Go.Proofs.YtkanjdijmdjbaaaGreatDoor
