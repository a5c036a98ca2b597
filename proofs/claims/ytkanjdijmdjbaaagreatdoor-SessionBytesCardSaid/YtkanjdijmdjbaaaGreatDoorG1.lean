/-
  Layer 1 in plain Lean: digits, and what each thing is taken off as, on lists of bytes. No program stands here; no condition.
  Contracts of what the program calls of Go's library, at this translation: slices.Index, Contains, Clone over bytes; strconv's functions in the form that the walks use.
  Conditions: the listed package-level variables read as listed ('Env').
  From the rows' list of variables ('laid') to the walks' facts ('Env'); a world that meets the list; from a parameter that came in to 'IsB'.
  No condition of its own: the list is the given rows' own.
-/
import Derived.Lib.ParseIntB
import Derived.Lib.ParseIntBCases
import Derived.Lib.AtoiAll
import Derived.Lib.ItoaNum
import Derived.Test.YtkanjdijmdjbaaaGreatDoorProg
import Derived.Test.YtkanjdijmdjbaaaGreatDoorBytes
import Derived.Test.YtkanjdijmdjbaaaGreatDoorShelf
import Derived.Lib.SmallJoins
import Derived.Lib.AppendIntMem
import Derived.WalkLawsBesides
import Derived.WalkSpells
import Derived.Test.YtkanjdijmdjbaaaGreatDoorRows
import Derived.LaidHandle
import Derived.LaidLaws
import Derived.Stop.LaidErr
import Derived.Lib.LaidTab
import Derived.KernelRfl
import Derived.OpenShut
namespace Go.Proofs.YtkanjdijmdjbaaaGreatDoor.PK
open Go

/-- Is a byte a digit? -/
def isD (c : UInt8) : Bool := decide (48 ≤ c.toNat) && decide (c.toNat ≤ 57)
theorem isD_iff (c : UInt8) : isD c = true ↔ 48 ≤ c.toNat ∧ c.toNat ≤ 57 := by simp [isD]
/-- The number that digits spell. -/
def dval (acc : Nat) : List UInt8 → Nat
  | [] => acc
  | c :: r => dval (acc * 10 + (c.toNat - 48)) r
/-- Digits up to a sign: an error (12: the bytes end; 3: what is no digit, or a 21st one), or how many. -/
def scan (s : UInt8) (m : Nat) : List UInt8 → Nat × Nat
  | [] => (12, 0)
  | c :: r => if c = s then (0, m) else if isD c = false ∨ 20 ≤ m then (3, 0) else scan s (m + 1) r
/-- A number up to a sign: it, how many digits it has, the error. -/
def digs (s : UInt8) (l : List UInt8) : Nat × Nat × Nat :=
  if (scan s 0 l).1 = 0 then
    if (scan s 0 l).2 = 0 ∨ (1 < (scan s 0 l).2 ∧ l.head? = some 48) ∨ 18446744073709551616 ≤ dval 0 (l.take (scan s 0 l).2) then (0, 0, 3)
    else (dval 0 (l.take (scan s 0 l).2), (scan s 0 l).2, 0)
  else (0, 0, (scan s 0 l).1)

theorem scan_ok (s : UInt8) : ∀ (l : List UInt8) (m k : Nat), scan s m l = (0, k) → ∃ j, k = m + j ∧ j < l.length ∧ (j = 0 ∨ k ≤ 20) ∧ (∀ c ∈ l.take j, isD c = true ∧ c ≠ s) ∧ l[j]? = some s
  | [], m, k, h => by simp [scan] at h
  | c :: r, m, k, h => by
    unfold scan at h
    split at h
    · rename_i hc
      simp at h
      exact ⟨0, by omega, by simp, .inl rfl, by simp, by simp [hc]⟩
    · rename_i hc
      split at h
      · simp at h
      · rename_i hd
        obtain ⟨j, h1, h2, h3, h4, h5⟩ := scan_ok s r (m + 1) k h
        refine ⟨j + 1, by omega, by simpa using h2, .inr (by omega), ?_, by simpa using h5⟩
        intro x hx
        simp at hx
        rcases hx with rfl | hx
        · simp at hd; exact ⟨by simpa using hd.1, hc⟩
        · exact h4 x hx
theorem dval_append (acc : Nat) (l m : List UInt8) : dval acc (l ++ m) = dval (dval acc l) m := by
  induction l generalizing acc with
  | nil => rfl
  | cons c r ih => exact ih _
theorem dval_mono : ∀ (l : List UInt8) (acc : Nat), acc ≤ dval acc l
  | [], acc => Nat.le_refl _
  | c :: r, acc => by unfold dval; have := dval_mono r (acc * 10 + (c.toNat - 48)); omega
/-- What ParseUint makes of digits. -/
theorem parseM_digits (M : Nat) (hM : 18446744073709551615 = M) : ∀ (l : List UInt8) (acc : Nat), (∀ c ∈ l, isD c = true) → acc ≤ M →
    Lib.parseUintM M acc l = if dval acc l ≤ M then .ok (dval acc l) else .range
  | [], acc, _, ha => by
    show Lib.NumEnd.ok acc = if acc ≤ M then _ else _
    rw [if_pos ha]; rfl
  | c :: r, acc, h, ha => by
    have hc := (isD_iff c).1 (h c (by simp))
    have hr : ∀ x ∈ r, isD x = true := fun x hx => h x (by simp [hx])
    have hm := dval_mono r (acc * 10 + (c.toNat - 48))
    show (if 48 ≤ c.toNat ∧ c.toNat ≤ 57 then _ else _) = if dval (acc * 10 + (c.toNat - 48)) r ≤ M then _ else _
    rw [if_pos hc]
    by_cases h1 : 1844674407370955162 ≤ acc
    · rw [if_pos h1, if_neg (by omega)]
    · rw [if_neg h1]
      by_cases h2 : M < acc * 10 + (c.toNat - 48)
      · rw [if_pos h2, if_neg (by omega)]
      · rw [if_neg h2]
        exact parseM_digits M hM r _ hr (by omega)
theorem parse_digits (l : List UInt8) (h : ∀ c ∈ l, isD c = true) (hl : l ≠ []) :
    Lib.parseUintB 64 l = if dval 0 l ≤ 18446744073709551615 then .ok (dval 0 l) else .range := by
  unfold Lib.parseUintB
  rw [if_neg hl]
  exact parseM_digits (2 ^ 64 - 1) (by decide) l 0 h (by omega)
theorem parse_empty : Lib.parseUintB 64 [] = Lib.NumEnd.syntax := by simp [Lib.parseUintB]

/-- What comes next, if its letter is one of some: an error, or 0. -/
def begP (some : List UInt8) : List UInt8 → Nat
  | [] => 12
  | c :: _ => if c ∈ some then 0 else 3
/-- A number of a letter: the number, the place behind it, whether it went well, the reader's error then. -/
def numP (letter sign : UInt8) (f : Nat) (l : List UInt8) (k : Nat) : Nat × Nat × Bool × Nat :=
  if k ≠ 0 then (0, 0, false, k) else
  if begP [letter] l ≠ 0 then (0, 0, false, begP [letter] l) else
  if (digs sign (l.drop f)).2.2 ≠ 0 then (0, 0, false, (digs sign (l.drop f)).2.2) else
  ((digs sign (l.drop f)).1, f + (digs sign (l.drop f)).2.1 + 1, true, 0)
/-- A number up to a bound. -/
def bndP (most : Nat) (l : List UInt8) (k : Nat) : Nat × Nat × Bool × Nat :=
  if (numP 110 59 1 l k).2.2.1 = true ∧ most < (numP 110 59 1 l k).1 then (0, 0, false, 4) else numP 110 59 1 l k
/-- Uint: the number, what is left, the error. -/
def uintP (most : Nat) (l : List UInt8) (k : Nat) : Nat × List UInt8 × Nat :=
  if (numP 110 59 1 l k).2.2.1 = false then (0, l, (numP 110 59 1 l k).2.2.2) else
  if most < (numP 110 59 1 l k).1 then (0, l, 4) else ((numP 110 59 1 l k).1, l.drop (numP 110 59 1 l k).2.1, 0)
/-- Where an int's digits begin. -/
def fromP (l : List UInt8) : Nat := if l[1]? = some 45 then 2 else 1
/-- Int. -/
def intP (l : List UInt8) (k : Nat) : Int × List UInt8 × Nat :=
  if (numP 105 59 (fromP l) l k).2.2.1 = false then (0, l, (numP 105 59 (fromP l) l k).2.2.2) else
  if fromP l = 2 then
    if (numP 105 59 (fromP l) l k).1 = 0 then (0, l, 3) else
    if 9223372036854775808 < (numP 105 59 (fromP l) l k).1 then (0, l, 4) else (-((numP 105 59 (fromP l) l k).1 : Int), l.drop (numP 105 59 (fromP l) l k).2.1, 0)
  else
    if 9223372036854775807 < (numP 105 59 (fromP l) l k).1 then (0, l, 4) else (((numP 105 59 (fromP l) l k).1 : Int), l.drop (numP 105 59 (fromP l) l k).2.1, 0)
/-- Count. -/
def countP (most : Int) (l : List UInt8) (k : Nat) : Nat × List UInt8 × Nat :=
  if (uintP most.toNat l k).2.2 ≠ 0 then (0, l, (uintP most.toNat l k).2.2) else
  if (uintP most.toNat l k).2.1.length < (uintP most.toNat l k).1 then (0, l, 2) else uintP most.toNat l k
/-- Text, Bytes. -/
def runP (letter : UInt8) (most : Int) (l : List UInt8) (k : Nat) : List UInt8 × List UInt8 × Nat :=
  if k = 0 ∧ most < 0 then ([], l, 1) else
  if (numP letter 58 1 l k).2.2.1 = false then ([], l, (numP letter 58 1 l k).2.2.2) else
  if most < (numP letter 58 1 l k).1 then ([], l, 2) else
  if l.length - (numP letter 58 1 l k).2.1 < (numP letter 58 1 l k).1 then ([], l, 12) else
  ((l.drop (numP letter 58 1 l k).2.1).take (numP letter 58 1 l k).1, l.drop ((numP letter 58 1 l k).2.1 + (numP letter 58 1 l k).1), 0)
/-- Done's error. -/
def doneP (l : List UInt8) (k : Nat) : Nat := if k = 0 ∧ l ≠ [] then 3 else k
theorem digs_bounds (s : UInt8) (l : List UInt8) (h : (digs s l).2.2 = 0) : 1 ≤ (digs s l).2.1 ∧ (digs s l).2.1 ≤ 20 ∧ (digs s l).2.1 < l.length ∧ (digs s l).1 < 18446744073709551616 ∧ (∀ c ∈ l.take (digs s l).2.1, isD c = true) ∧ (digs s l).1 = dval 0 (l.take (digs s l).2.1) ∧ l[(digs s l).2.1]? = some s := by
  unfold digs at h ⊢
  split at h
  · rename_i h0
    rw [if_pos h0]
    split at h
    · simp at h
    · rename_i h1
      rw [if_neg h1]
      have hs : scan s 0 l = (0, (scan s 0 l).2) := Prod.ext h0 rfl
      obtain ⟨j, e1, e2, e3, e4, e5⟩ := scan_ok s l 0 _ hs
      rw [Nat.zero_add] at e1
      rw [e1] at h1 ⊢
      simp only [not_or] at h1
      show 1 ≤ j ∧ j ≤ 20 ∧ j < l.length ∧ dval 0 (l.take j) < 18446744073709551616 ∧ (∀ c ∈ l.take j, isD c = true) ∧ dval 0 (l.take j) = dval 0 (l.take j) ∧ l[j]? = some s
      exact ⟨by omega, by omega, e2, by omega, fun c hc => (e4 c hc).1, rfl, e5⟩
  · rename_i h0
    exact absurd h h0
theorem digs_zero (s : UInt8) (l : List UInt8) (h : (digs s l).2.2 ≠ 0) : (digs s l).1 = 0 ∧ (digs s l).2.1 = 0 := by
  unfold digs at h ⊢
  split
  · rename_i h0
    rw [if_pos h0] at h
    split
    · exact ⟨rfl, rfl⟩
    · rename_i h1
      rw [if_neg h1] at h
      simp at h
  · exact ⟨rfl, rfl⟩

theorem numP_cases (lc s : UInt8) (f : Nat) (l : List UInt8) (k : Nat) :
    (∃ e, numP lc s f l k = (0, 0, false, e + 1) ∧ (k ≠ 0 → e + 1 = k)) ∨
    (k = 0 ∧ begP [lc] l = 0 ∧ (digs s (l.drop f)).2.2 = 0 ∧ numP lc s f l k = ((digs s (l.drop f)).1, f + (digs s (l.drop f)).2.1 + 1, true, 0)) := by
  unfold numP
  by_cases hk : k ≠ 0
  · rw [if_pos hk]; exact .inl ⟨k - 1, by rw [show k - 1 + 1 = k from by omega], fun _ => by omega⟩
  · rw [if_neg hk]
    by_cases hb : begP [lc] l ≠ 0
    · rw [if_pos hb]; exact .inl ⟨begP [lc] l - 1, by rw [show begP [lc] l - 1 + 1 = begP [lc] l from by omega], fun h => absurd h hk⟩
    · rw [if_neg hb]
      by_cases hd : (digs s (l.drop f)).2.2 ≠ 0
      · rw [if_pos hd]; exact .inl ⟨(digs s (l.drop f)).2.2 - 1, by rw [show (digs s (l.drop f)).2.2 - 1 + 1 = (digs s (l.drop f)).2.2 from by omega], fun h => absurd h hk⟩
      · rw [if_neg hd]; exact .inr ⟨by omega, by omega, by omega, rfl⟩
theorem numP_ok {lc s : UInt8} {f : Nat} {l : List UInt8} {k : Nat} (h : (numP lc s f l k).2.2.1 = true) :
    k = 0 ∧ (numP lc s f l k).2.2.2 = 0 ∧ f + 2 ≤ (numP lc s f l k).2.1 ∧ (numP lc s f l k).2.1 ≤ l.length ∧ (numP lc s f l k).1 < 18446744073709551616 ∧ l.head? = some lc ∧
      (numP lc s f l k).1 = dval 0 ((l.drop f).take ((numP lc s f l k).2.1 - f - 1)) ∧ (∀ c ∈ (l.drop f).take ((numP lc s f l k).2.1 - f - 1), isD c = true) ∧ (numP lc s f l k).2.1 ≤ f + 21 := by
  rcases numP_cases lc s f l k with ⟨e, he, _⟩ | ⟨h1, h2, h3, h4⟩
  · rw [he] at h; simp at h
  · rw [h4]
    obtain ⟨b1, b2, b3, b4, b5, b6, b7⟩ := digs_bounds s _ h3
    rw [List.length_drop] at b3
    have hsub : f + (digs s (l.drop f)).2.1 + 1 - f - 1 = (digs s (l.drop f)).2.1 := by omega
    refine ⟨h1, rfl, by simp only []; omega, by simp only []; omega, b4, ?_, ?_, ?_, by simp only []; omega⟩
    · cases l with
      | nil => simp [begP] at h2
      | cons c r =>
        simp only [begP] at h2
        split at h2
        · rename_i hc; simp at hc; simp [hc]
        · simp at h2
    · simp only []; rw [hsub]; exact b6
    · simp only []; rw [hsub]; exact b5
end Go.Proofs.YtkanjdijmdjbaaaGreatDoor.PK

namespace Go.Proofs.YtkanjdijmdjbaaaGreatDoor
open Go Go.RowKit

theorem T22 : ByteT Tryz.prog 22 5 := ⟨Tryz.underlying22, Tryz.underlying5, by kernel_rfl⟩
theorem U9 : Tryz.prog.underlying 9 = some .string := Tryz.underlying9

/-- The program's error of a number (0: nil). -/
def errV : Nat → Value
  | 0 => .nilIface
  | n + 1 => .iface 78 (.int .i64 ((n : Int) + 1))

/-- WHAT THE LISTED VARIABLES HOLD. -/
structure Env (w : World) : Prop where
  big : 6 < w.heap.size
  et : w.cell? ⟨0, 0, none⟩ = some (.iface 206 (.agg #[.pointer (some ⟨7, 26, none⟩)]))
  es : ∃ tp p, w.cell? ⟨3, 0, none⟩ = some (.iface tp p)
  er : ∃ tp p, w.cell? ⟨4, 0, none⟩ = some (.iface tp p)
  tab : Lib.TabIs Tryz.prog w "internal/strconv.uint64pow10" .u64 Lib.pow10Tab
/-- The first block that is no package-level variable's. -/
def glob : Nat := 6 + 1
theorem Env.kept {X : Nat → Prop} {w w' : World} (h : Env w) (f : Fr X w w') (hx : ∀ k, k < glob → ¬ X k) : Env w' := by
  have hb := h.big
  have hX : ∀ k, k < 6 + 1 → ¬ X k := hx
  refine ⟨f.lt hb, f.cell h.et (hX _ (by simp)), ?_, ?_, ?_⟩
  · obtain ⟨tp, p, hc⟩ := h.es; exact ⟨tp, p, f.cell hc (hX _ (by simp))⟩
  · obtain ⟨tp, p, hc⟩ := h.er; exact ⟨tp, p, f.cell hc (hX _ (by simp))⟩
  · have ht := h.tab
    unfold Lib.TabIs World.var? at ht ⊢
    have hg : Tryz.prog.globalNamed "internal/strconv.uint64pow10" = some 1 := by kernel_rfl
    rw [hg] at ht ⊢
    simp only [Option.bind_some] at ht ⊢
    rw [f.block 1 (by omega) (hX _ (by omega))]
    exact ht
theorem Env.below {w w' : World} (h : Env w) (f : Below w.heap.size w w') : Env w' := h.kept (X := fun _ => False) (Fr.of_below f) (fun _ _ x => x)

/-- slices.Index over bytes. -/
theorem index_any (b o n cap : Nat) (x : Int) (l : List UInt8) (w : World) (hcap : cap ≤ maxLen) (hn : n ≤ cap) (hc : ∀ i, i < n → w.cell? ⟨b, o + i, none⟩ = some (.int .u8 (at8 l i))) :
    Calls Tryz.prog 176 #[.slice (some ⟨b, o, none⟩) n cap, .int .u8 x] w fun e w' => (∃ k : Int, e = .returned (.int .i64 k) ∧ -1 ≤ k ∧ k ≤ n ∧ (0 ≤ k ↔ ∃ i, i < n ∧ at8 l i = x)) ∧ w = w' := by
  unfold maxLen at hcap
  have Hc := Lib.hid hc
  clear hc
  go_enter Tryz.func176, Tryz.ntmps176
  go_wp2
  go_loop [8] (fun v => ∃ k : Nat, k ≤ n ∧ v = .int .i64 k ∧ Hid (∀ i, i < k → at8 l i ≠ x)) (fun v => n - (intOf v).toNat)
  case atStart => exact ⟨0, by omega, rfl, fun i hi => by omega⟩
  case round =>
    obtain ⟨k, hk, rfl, Hno⟩ := hrel
    by_cases hlt : k < n
    · have hck := Hc.out k hlt
      by_cases hx : at8 l k = x
      · have hx' : (x == at8 l k) = true := by rw [hx]; simp
        have Hx := Lib.hid hx
        clear hx
        go_wp2
        go_ret
        exact ⟨⟨k, rfl, by omega, by omega, ⟨fun _ => ⟨k, hlt, Hx.out⟩, fun _ => by omega⟩⟩, rfl⟩
      · have hx' : (x == at8 l k) = false := by simp; exact fun e => hx e.symm
        have Hx := Lib.hid hx
        clear hx
        go_wp2
        go_round
        case rel => exact ⟨k + 1, by omega, by go_num, fun i hi => by
          by_cases e : i = k
          · rw [e]; exact Hx.out
          · exact Hno.out i (by omega)⟩
        case measure => simp [intOf]; omega
    · go_wp2
      go_ret
      exact ⟨⟨-1, rfl, by omega, by omega, ⟨fun h => by omega, fun ⟨i, hi, hh⟩ => absurd hh (Hno.out i (by omega))⟩⟩, rfl⟩

/-- slices.Contains over bytes: among the bytes of a string. -/
theorem contains_yes (b o n cap : Nat) (x : Int) (l : List UInt8) (w : World) (hcap : cap ≤ maxLen) (hn : n ≤ cap) (hc : ∀ i, i < n → w.cell? ⟨b, o + i, none⟩ = some (.int .u8 (at8 l i))) (h : ∃ i, i < n ∧ at8 l i = x) :
    Calls Tryz.prog 142 #[.slice (some ⟨b, o, none⟩) n cap, .int .u8 x] w fun e w' => e = .returned (.bool true) ∧ w = w' := by
  go_enter Tryz.func142, Tryz.ntmps142
  have H := Lib.hid h
  have Hc := Lib.hid hc
  clear h hc
  go_wp2_with fail
  refine (index_any b o n cap x l w hcap hn Hc.out).mono ?_
  rintro e w' ⟨⟨k, rfl, hk1, hk2, hk3⟩, rfl⟩
  have h0 : 0 ≤ k := hk3.2 H.out
  clear hk3
  go_wp2
  go_ret
  exact ⟨rfl, rfl⟩
theorem contains_no (b o n cap : Nat) (x : Int) (l : List UInt8) (w : World) (hcap : cap ≤ maxLen) (hn : n ≤ cap) (hc : ∀ i, i < n → w.cell? ⟨b, o + i, none⟩ = some (.int .u8 (at8 l i))) (h : ∀ i, i < n → at8 l i ≠ x) :
    Calls Tryz.prog 142 #[.slice (some ⟨b, o, none⟩) n cap, .int .u8 x] w fun e w' => e = .returned (.bool false) ∧ w = w' := by
  go_enter Tryz.func142, Tryz.ntmps142
  have H := Lib.hid h
  have Hc := Lib.hid hc
  clear h hc
  go_wp2_with fail
  refine (index_any b o n cap x l w hcap hn Hc.out).mono ?_
  rintro e w' ⟨⟨k, rfl, hk1, hk2, hk3⟩, rfl⟩
  have h0 : k < 0 := by
    rcases Int.lt_or_le k 0 with h | h
    · exact h
    · obtain ⟨i, hi, hh⟩ := hk3.1 h; exact absurd hh (H.out i hi)
  have h0' : decide (0 ≤ k) = false := by simp; omega
  clear hk3
  go_wp2
  go_ret
  exact ⟨rfl, rfl⟩

/-- slices.Clone over bytes: a slice of its own. -/
theorem clone_any (v : Value) (l : List UInt8) (w : World) (hv : IsB w v l) (hl : l.length ≤ roomB) :
    Calls Tryz.prog 82 #[v] w fun e w' => (∃ a c, e = .returned (.slice a l.length c) ∧ OwnB w' (.slice a l.length c) l ∧ ∀ b, Value.ownBlock (.slice a l.length c) = some b → w.heap.size ≤ b) ∧ Below w.heap.size w w' := by
  have hv' := hv
  obtain ⟨a, cap, rfl, h1, h2, h0, h3⟩ := hv
  have H3 := Lib.hid h3
  clear h3
  cases a with
  | none =>
    have hl0 : l = [] := by
      rcases H3.out with h | ⟨b, o, h, _⟩
      · exact h
      · cases h
    have hc := h0 rfl
    subst hl0 hc
    clear hv' H3 h0
    have hq : ∀ w : World, (binOp .eql 22 (.slice none 0 0) (.slice none 0 0)).run Tryz.prog w = .ok (.bool true) w := fun _ => by kernel_rfl
    go_enter Tryz.func82, Tryz.ntmps82
    go_wp2
    go_ret
    exact ⟨⟨none, 0, rfl, .inl ⟨rfl, rfl⟩, by simp [Value.ownBlock]⟩, Below.refl _ _⟩
  | some ad =>
    have hq : ∀ w : World, (binOp .eql 22 (.slice (some ad) l.length cap) (.slice none 0 0)).run Tryz.prog w = .ok (.bool false) w := fun w : World => run_eql_sl_nil (P := Tryz.prog) w 22 5 (some ad) l.length cap Tryz.underlying22
    have hown : OwnB (w.alloc (.cells #[] 5)) (.slice (some ⟨w.heap.size, 0, none⟩) 0 0) [] :=
      .inr ⟨w.heap.size, 0, 0, rfl, by simp, by simp [maxLen], by simp, fun i hi => by simp at hi, fun j hj => by omega⟩
    have hsrc : SrcB Tryz.prog 22 (w.alloc (.cells #[] 5)) (.slice (some ad) l.length cap) l := srcB_of Tryz.underlying22 (hv'.below (((Below.refl _ w).alloc (Nat.le_refl _) _)))
    have Hown := Lib.hid hown
    have Hsrc := Lib.hid hsrc
    have Hl := Lib.hid hl
    clear hown hsrc hl hv' H3 h0 h1 h2
    go_enter Tryz.func82, Tryz.ntmps82
    go_wp2_with (at_builtin; refine wpList_app rfl _ _ rfl T22 rfl Hown.out rfl Hsrc.out (by simpa using Hl.out) ?_; intro a c w1 ho hf hb; have Ho := Lib.hid ho; have Hf := Lib.hid hf; have Hb := Lib.hid hb; clear ho hf hb)
    go_ret
    simp only [List.length_nil, Nat.zero_add, List.nil_append] at Ho Hb
    refine ⟨⟨a, c, rfl, Ho.out, fun b hb => ?_⟩, ?_⟩
    · rcases Hb.out with h | ⟨g, h, hg⟩
      · have e : b = w.heap.size := Option.some.inj (hb.symm.trans h)
        omega
      · subst h
        simp [Value.ownBlock] at hb hg
        omega
    · have h2 := Hf.out
      exact (Fr.then (X := fun _ => False) ((Fr.refl _ w).alloc _) h2 (fun i hi hy => by have e : w.heap.size = i := Option.some.inj hy; omega)).below
theorem own : ownKnob Tryz.prog.godebug = none := by kernel_rfl
theorem laidOut : laidOutB Tryz.prog = true := by kernel_rfl
theorem g_et : Tryz.prog.globalNamed "errors.errorType" = some 0 := by kernel_rfl
theorem g_es : Tryz.prog.globalNamed "strconv.ErrSyntax" = some 3 := by kernel_rfl
theorem g_er : Tryz.prog.globalNamed "strconv.ErrRange" = some 4 := by kernel_rfl
theorem g_pw : Tryz.prog.globalNamed "internal/strconv.uint64pow10" = some 1 := by kernel_rfl
theorem g_db : Tryz.prog.globalNamed "math/bits.deBruijn64tab" = some 6 := by kernel_rfl
theorem t_es : (Tryz.prog.globals[3]?).map (·.type) = some 26 := by kernel_rfl
theorem t_er : (Tryz.prog.globals[4]?).map (·.type) = some 26 := by kernel_rfl
theorem t_pw : (Tryz.prog.globals[1]?).map (·.type) = some 276 := by kernel_rfl
theorem t_db : (Tryz.prog.globals[6]?).map (·.type) = some 308 := by kernel_rfl
theorem c_str : Tryz.prog.cellsOf 9 = 1 := by kernel_rfl
theorem c_es : Tryz.prog.cellsOf 306 = 1 := by kernel_rfl
theorem c_u8 : Tryz.prog.cellsOf 5 = 1 := by kernel_rfl
theorem c_u64 : Tryz.prog.cellsOf 71 = 1 := by kernel_rfl
theorem c_pw : Tryz.prog.cellsOf 276 = 20 := by kernel_rfl
theorem c_db : Tryz.prog.cellsOf 308 = 64 := by kernel_rfl
theorem star : "*" ++ "errors.errorString" = "*errors.errorString" := by decide
theorem row_es (u : TypeId) (h : Tryz.prog.typeName? 3 u = some "*errors.errorString") : u = 304 :=
  typeName_ptr_named (nm := "errors.errorString") (by rw [star]; kernel_rfl) (by kernel_rfl) (by decide) u (by rw [star]; exact h)
theorem rt : (Tryz.prog.cutTypes.find? (·.1 == "internal/reflectlite.rtype")).map (·.2) = some 206 := by kernel_rfl
theorem oneRow : ((List.range Tryz.prog.types.size).filter fun t => Tryz.prog.rowNamed t [101, 114, 114, 111, 114]) = [26] := by kernel_rfl

/-- The numbers of a listed table. -/
def ints : DataW Unit → List Int
  | .agg l => l.filterMap fun | .lit (.int _ n) => some n | _ => none
  | _ => []
theorem e_db : (Rows.laid_math_bits_deBruijn64tab : DataW Unit) = Lib.tabData .u8 (ints Rows.laid_math_bits_deBruijn64tab) := rfl
theorem e_pw : (Rows.laid_internal_strconv_uint64pow10 : DataW Unit) = Lib.tabData .u64 Lib.pow10Tab := by rfl

theorem env_of_laid {W : World} (h : laidMetH Tryz.prog Rows.sessionBytesRow.laid W) : Env W := by
  have h' : laidMet Tryz.prog [("math/bits.deBruijn32tab", Rows.laid_math_bits_deBruijn32tab), ("math/bits.deBruijn64tab", Rows.laid_math_bits_deBruijn64tab), ("internal/strconv.uint64pow10", Rows.laid_internal_strconv_uint64pow10), ("strconv.ErrRange", Rows.laid_strconv_ErrRange), ("strconv.ErrSyntax", Rows.laid_strconv_ErrSyntax)] W ∧
      handlesMet Tryz.prog [("errors.errorType", Rows.laid_errors_errorType)] W := h
  obtain ⟨hd, hh⟩ := h'
  have h2 := hd.tail
  have h3 := h2.tail
  have h4 := h3.tail
  have h5 := h4.tail
  rw [e_db] at h2
  rw [e_pw] at h3
  have k2 := Lib.tabIs_of_head g_db t_db Tryz.underlying308 Tryz.underlying5 c_u8 c_db h2
  have k3 := Lib.tabIs_of_head g_pw t_pw Tryz.underlying276 Tryz.underlying71 c_u64 c_pw h3
  obtain ⟨a4, s4, hv4, _⟩ := laid_sentinel h4 g_er t_er Tryz.underlying26 row_es Tryz.underlying304 Tryz.underlying306 rfl rfl Tryz.underlying9 c_es c_str
  obtain ⟨a5, s5, hv5, _⟩ := laid_sentinel h5 g_es t_es Tryz.underlying26 row_es Tryz.underlying304 Tryz.underlying306 rfl rfl Tryz.underlying9 c_es c_str
  refine ⟨?_, ?_, ⟨_, _, by simpa using World.var?_cell g_es hv5 0⟩, ⟨_, _, by simpa using World.var?_cell g_er hv4 0⟩, k3⟩
  · have hc := World.var?_cell g_db k2 0
    have hs : (((ints Rows.laid_math_bits_deBruijn64tab).map fun z => Value.int .u8 z).toArray)[0]? = some (.int .u8 0) := rfl
    first
      | exact World.block_lt_of_cell? W _ (hc.trans hs)
      | exact World.block_lt_of_cell? W ⟨6, 0, none⟩ (by simpa using World.var?_cell g_er hv4 0)
  · obtain ⟨name, u, ty, e1, e2, e3, e4, e5⟩ := hh _ (List.mem_singleton.2 rfl)
    have en : name = [101, 114, 114, 111, 114] := (Option.some.inj e1).symm
    subst en
    obtain rfl := Option.some.inj (rt.symm.trans e2)
    have hm : ty ∈ (List.range Tryz.prog.types.size).filter fun t => Tryz.prog.rowNamed t [101, 114, 114, 111, 114] := List.mem_filter.2 ⟨List.mem_range.2 e3, e4⟩
    rw [oneRow] at hm
    obtain rfl := List.mem_singleton.1 hm
    have hh : typeHandle Tryz.prog 26 = .pointer (some ⟨7, 26, none⟩) := by kernel_rfl
    rw [hh] at e5
    simpa using World.var?_cell g_et e5 0

/-! ### A world that meets the list -/
def litCells : DataW Unit → Array Value
  | .agg l => (l.filterMap fun | .lit (.int k n) => some (Value.int k n) | _ => none).toArray
  | _ => #[]
def setObj (cs : Array Value) : Obj → Obj
  | .cells _ t z => .cells cs t z
  | o => o
noncomputable def low : Nat := (World.holding Tryz.prog default ⟨#[], #[], []⟩).heap.size
noncomputable def laidWorld (os : Os) : World :=
  let w0 := World.holding Tryz.prog os ⟨#[.cells #[.string ⟨#[118, 97, 108, 117, 101, 32, 111, 117, 116, 32, 111, 102, 32, 114, 97, 110, 103, 101]⟩] 306, .cells #[.string ⟨#[105, 110, 118, 97, 108, 105, 100, 32, 115, 121, 110, 116, 97, 120]⟩] 306], #[], []⟩
  { w0 with heap := (((((w0.heap.modify 5 (setObj (litCells Rows.laid_math_bits_deBruijn32tab))).modify 6 (setObj (litCells Rows.laid_math_bits_deBruijn64tab))).modify
      1 (setObj (litCells Rows.laid_internal_strconv_uint64pow10))).modify 0 (setObj #[.iface 206 (.agg #[.pointer (some ⟨7, 26, none⟩)])])).modify
      4 (setObj #[.iface 304 (.pointer (some ⟨low, 0, none⟩))])).modify 3 (setObj #[.iface 304 (.pointer (some ⟨low + 1, 0, none⟩))]) }
theorem laidWorld_met (os : Os) (args : Array Value) : laidMetH Tryz.prog Rows.sessionBytesRow.laid ((laidWorld os).forCall (fun _ _ => 0) ⟨#[], args, []⟩).memory :=
  laidMetH_of_parts (laidMet_of_run' 8 (by kernel_rfl) (by kernel_rfl)) (by kernel_rfl)

/-! ### A parameter that came in -/
/-- The bytes of a row of small integers. -/
def bytesFrom (zs : List Int) : List UInt8 := zs.map fun z => UInt8.ofNat z.toNat
end Go.Proofs.YtkanjdijmdjbaaaGreatDoor
