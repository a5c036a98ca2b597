/-
  Layer 1 in plain Lean: digits, and what each thing is taken off as, on lists of bytes. No program stands here; no condition.
  Layer 1 in plain Lean: what strconv.Atoi makes of an int's digits. No program; no condition.
-/
import Derived.Lib.ParseIntB
import Derived.Lib.ParseIntBCases
import Derived.Lib.AtoiAll
import Derived.Lib.ItoaNum
import GoSem.Op.String
namespace Go.Proofs.YtflghelhdalhiaaGreatDoor.PK
open Go

/-- Is a byte a digit? -/
def isD (c : UInt8) : Bool := decide (48 ≤ c.toNat) && decide (c.toNat ≤ 57)
theorem isD_iff (c : UInt8) : isD c = true ↔ 48 ≤ c.toNat ∧ c.toNat ≤ 57 := by simp [isD]
/-- The number that digits spell. -/
def dval (acc : Nat) : List UInt8 → Nat
  | [] => acc
  | c :: r => dval (acc * 10 + (c.toNat - 48)) r
/-- Digits up to a sign: an error (12: the bytes end; 3: what is no digit, or a 21st one), or how many. -/
def scan (s : UInt8) (m : Nat) : List UInt8 → Nat × Nat
  | [] => (12, 0)
  | c :: r => if c = s then (0, m) else if isD c = false ∨ 20 ≤ m then (3, 0) else scan s (m + 1) r
/-- A number up to a sign: it, how many digits it has, the error. -/
def digs (s : UInt8) (l : List UInt8) : Nat × Nat × Nat :=
  if (scan s 0 l).1 = 0 then
    if (scan s 0 l).2 = 0 ∨ (1 < (scan s 0 l).2 ∧ l.head? = some 48) ∨ 18446744073709551616 ≤ dval 0 (l.take (scan s 0 l).2) then (0, 0, 3)
    else (dval 0 (l.take (scan s 0 l).2), (scan s 0 l).2, 0)
  else (0, 0, (scan s 0 l).1)

theorem scan_ok (s : UInt8) : ∀ (l : List UInt8) (m k : Nat), scan s m l = (0, k) → ∃ j, k = m + j ∧ j < l.length ∧ (j = 0 ∨ k ≤ 20) ∧ (∀ c ∈ l.take j, isD c = true ∧ c ≠ s) ∧ l[j]? = some s
  | [], m, k, h => by simp [scan] at h
  | c :: r, m, k, h => by
    unfold scan at h
    split at h
    · rename_i hc
      simp at h
      exact ⟨0, by omega, by simp, .inl rfl, by simp, by simp [hc]⟩
    · rename_i hc
      split at h
      · simp at h
      · rename_i hd
        obtain ⟨j, h1, h2, h3, h4, h5⟩ := scan_ok s r (m + 1) k h
        refine ⟨j + 1, by omega, by simpa using h2, .inr (by omega), ?_, by simpa using h5⟩
        intro x hx
        simp at hx
        rcases hx with rfl | hx
        · simp at hd; exact ⟨by simpa using hd.1, hc⟩
        · exact h4 x hx
theorem scan_err (s : UInt8) : ∀ (l : List UInt8) (m : Nat), (scan s m l).1 = 0 ∨ (scan s m l).1 = 3 ∨ (scan s m l).1 = 12
  | [], m => by simp [scan]
  | c :: r, m => by
    unfold scan
    split
    · exact .inl rfl
    · split
      · exact .inr (.inl rfl)
      · exact scan_err s r (m + 1)
theorem dval_append (acc : Nat) (l m : List UInt8) : dval acc (l ++ m) = dval (dval acc l) m := by
  induction l generalizing acc with
  | nil => rfl
  | cons c r ih => exact ih _
theorem dval_mono : ∀ (l : List UInt8) (acc : Nat), acc ≤ dval acc l
  | [], acc => Nat.le_refl _
  | c :: r, acc => by unfold dval; have := dval_mono r (acc * 10 + (c.toNat - 48)); omega
/-- What ParseUint makes of digits. -/
theorem parseM_digits (M : Nat) (hM : 18446744073709551615 = M) : ∀ (l : List UInt8) (acc : Nat), (∀ c ∈ l, isD c = true) → acc ≤ M →
    Lib.parseUintM M acc l = if dval acc l ≤ M then .ok (dval acc l) else .range
  | [], acc, _, ha => by
    show Lib.NumEnd.ok acc = if acc ≤ M then _ else _
    rw [if_pos ha]; rfl
  | c :: r, acc, h, ha => by
    have hc := (isD_iff c).1 (h c (by simp))
    have hr : ∀ x ∈ r, isD x = true := fun x hx => h x (by simp [hx])
    have hm := dval_mono r (acc * 10 + (c.toNat - 48))
    show (if 48 ≤ c.toNat ∧ c.toNat ≤ 57 then _ else _) = if dval (acc * 10 + (c.toNat - 48)) r ≤ M then _ else _
    rw [if_pos hc]
    by_cases h1 : 1844674407370955162 ≤ acc
    · rw [if_pos h1, if_neg (by omega)]
    · rw [if_neg h1]
      by_cases h2 : M < acc * 10 + (c.toNat - 48)
      · rw [if_pos h2, if_neg (by omega)]
      · rw [if_neg h2]
        exact parseM_digits M hM r _ hr (by omega)
theorem parse_digits (l : List UInt8) (h : ∀ c ∈ l, isD c = true) (hl : l ≠ []) :
    Lib.parseUintB 64 l = if dval 0 l ≤ 18446744073709551615 then .ok (dval 0 l) else .range := by
  unfold Lib.parseUintB
  rw [if_neg hl]
  exact parseM_digits (2 ^ 64 - 1) (by decide) l 0 h (by omega)
theorem parse_empty : Lib.parseUintB 64 [] = Lib.NumEnd.syntax := by simp [Lib.parseUintB]

/-- What comes next, if its letter is one of some: an error, or 0. -/
def begP (some : List UInt8) : List UInt8 → Nat
  | [] => 12
  | c :: _ => if c ∈ some then 0 else 3
/-- A number of a letter: the number, the place behind it, whether it went well, the reader's error then. -/
def numP (letter sign : UInt8) (f : Nat) (l : List UInt8) (k : Nat) : Nat × Nat × Bool × Nat :=
  if k ≠ 0 then (0, 0, false, k) else
  if begP [letter] l ≠ 0 then (0, 0, false, begP [letter] l) else
  if (digs sign (l.drop f)).2.2 ≠ 0 then (0, 0, false, (digs sign (l.drop f)).2.2) else
  ((digs sign (l.drop f)).1, f + (digs sign (l.drop f)).2.1 + 1, true, 0)
/-- A number up to a bound. -/
def bndP (most : Nat) (l : List UInt8) (k : Nat) : Nat × Nat × Bool × Nat :=
  if (numP 110 59 1 l k).2.2.1 = true ∧ most < (numP 110 59 1 l k).1 then (0, 0, false, 4) else numP 110 59 1 l k
/-- Uint: the number, what is left, the error. -/
def uintP (most : Nat) (l : List UInt8) (k : Nat) : Nat × List UInt8 × Nat :=
  if (numP 110 59 1 l k).2.2.1 = false then (0, l, (numP 110 59 1 l k).2.2.2) else
  if most < (numP 110 59 1 l k).1 then (0, l, 4) else ((numP 110 59 1 l k).1, l.drop (numP 110 59 1 l k).2.1, 0)
/-- Where an int's digits begin. -/
def fromP (l : List UInt8) : Nat := if l[1]? = some 45 then 2 else 1
/-- Int. -/
def intP (l : List UInt8) (k : Nat) : Int × List UInt8 × Nat :=
  if (numP 105 59 (fromP l) l k).2.2.1 = false then (0, l, (numP 105 59 (fromP l) l k).2.2.2) else
  if fromP l = 2 then
    if (numP 105 59 (fromP l) l k).1 = 0 then (0, l, 3) else
    if 9223372036854775808 < (numP 105 59 (fromP l) l k).1 then (0, l, 4) else (-((numP 105 59 (fromP l) l k).1 : Int), l.drop (numP 105 59 (fromP l) l k).2.1, 0)
  else
    if 9223372036854775807 < (numP 105 59 (fromP l) l k).1 then (0, l, 4) else (((numP 105 59 (fromP l) l k).1 : Int), l.drop (numP 105 59 (fromP l) l k).2.1, 0)
/-- Count. -/
def countP (most : Int) (l : List UInt8) (k : Nat) : Nat × List UInt8 × Nat :=
  if (uintP most.toNat l k).2.2 ≠ 0 then (0, l, (uintP most.toNat l k).2.2) else
  if (uintP most.toNat l k).2.1.length < (uintP most.toNat l k).1 then (0, l, 2) else uintP most.toNat l k
/-- Bool. -/
def boolP (l : List UInt8) (k : Nat) : Bool × List UInt8 × Nat :=
  if k ≠ 0 then (false, l, k) else
  if begP [121, 122] l ≠ 0 then (false, l, begP [121, 122] l) else (l.head? == some 121, l.drop 1, 0)
/-- Text, Bytes. -/
def runP (letter : UInt8) (most : Int) (l : List UInt8) (k : Nat) : List UInt8 × List UInt8 × Nat :=
  if k = 0 ∧ most < 0 then ([], l, 1) else
  if (numP letter 58 1 l k).2.2.1 = false then ([], l, (numP letter 58 1 l k).2.2.2) else
  if most < (numP letter 58 1 l k).1 then ([], l, 2) else
  if l.length - (numP letter 58 1 l k).2.1 < (numP letter 58 1 l k).1 then ([], l, 12) else
  ((l.drop (numP letter 58 1 l k).2.1).take (numP letter 58 1 l k).1, l.drop ((numP letter 58 1 l k).2.1 + (numP letter 58 1 l k).1), 0)
/-- Done's error. -/
def doneP (l : List UInt8) (k : Nat) : Nat := if k = 0 ∧ l ≠ [] then 3 else k
/-- Kind. -/
def kindP (l : List UInt8) (k : Nat) : Nat := if k ≠ 0 then 0 else if begP [110, 105, 121, 122, 116, 98] l ≠ 0 then 0 else (l.head?.map (·.toNat)).getD 0

theorem digs_bounds (s : UInt8) (l : List UInt8) (h : (digs s l).2.2 = 0) : 1 ≤ (digs s l).2.1 ∧ (digs s l).2.1 ≤ 20 ∧ (digs s l).2.1 < l.length ∧ (digs s l).1 < 18446744073709551616 ∧ (∀ c ∈ l.take (digs s l).2.1, isD c = true) ∧ (digs s l).1 = dval 0 (l.take (digs s l).2.1) ∧ l[(digs s l).2.1]? = some s := by
  unfold digs at h ⊢
  split at h
  · rename_i h0
    rw [if_pos h0]
    split at h
    · simp at h
    · rename_i h1
      rw [if_neg h1]
      have hs : scan s 0 l = (0, (scan s 0 l).2) := Prod.ext h0 rfl
      obtain ⟨j, e1, e2, e3, e4, e5⟩ := scan_ok s l 0 _ hs
      rw [Nat.zero_add] at e1
      rw [e1] at h1 ⊢
      simp only [not_or] at h1
      show 1 ≤ j ∧ j ≤ 20 ∧ j < l.length ∧ dval 0 (l.take j) < 18446744073709551616 ∧ (∀ c ∈ l.take j, isD c = true) ∧ dval 0 (l.take j) = dval 0 (l.take j) ∧ l[j]? = some s
      exact ⟨by omega, by omega, e2, by omega, fun c hc => (e4 c hc).1, rfl, e5⟩
  · rename_i h0
    exact absurd h h0
theorem digs_err (s : UInt8) (l : List UInt8) : (digs s l).2.2 = 0 ∨ (digs s l).2.2 = 3 ∨ (digs s l).2.2 = 12 := by
  unfold digs
  split
  · split
    · exact .inr (.inl rfl)
    · exact .inl rfl
  · exact scan_err s l 0
theorem digs_zero (s : UInt8) (l : List UInt8) (h : (digs s l).2.2 ≠ 0) : (digs s l).1 = 0 ∧ (digs s l).2.1 = 0 := by
  unfold digs at h ⊢
  split
  · rename_i h0
    rw [if_pos h0] at h
    split
    · exact ⟨rfl, rfl⟩
    · rename_i h1
      rw [if_neg h1] at h
      simp at h
  · exact ⟨rfl, rfl⟩

theorem numP_cases (lc s : UInt8) (f : Nat) (l : List UInt8) (k : Nat) :
    (∃ e, numP lc s f l k = (0, 0, false, e + 1) ∧ (k ≠ 0 → e + 1 = k)) ∨
    (k = 0 ∧ begP [lc] l = 0 ∧ (digs s (l.drop f)).2.2 = 0 ∧ numP lc s f l k = ((digs s (l.drop f)).1, f + (digs s (l.drop f)).2.1 + 1, true, 0)) := by
  unfold numP
  by_cases hk : k ≠ 0
  · rw [if_pos hk]; exact .inl ⟨k - 1, by rw [show k - 1 + 1 = k from by omega], fun _ => by omega⟩
  · rw [if_neg hk]
    by_cases hb : begP [lc] l ≠ 0
    · rw [if_pos hb]; exact .inl ⟨begP [lc] l - 1, by rw [show begP [lc] l - 1 + 1 = begP [lc] l from by omega], fun h => absurd h hk⟩
    · rw [if_neg hb]
      by_cases hd : (digs s (l.drop f)).2.2 ≠ 0
      · rw [if_pos hd]; exact .inl ⟨(digs s (l.drop f)).2.2 - 1, by rw [show (digs s (l.drop f)).2.2 - 1 + 1 = (digs s (l.drop f)).2.2 from by omega], fun h => absurd h hk⟩
      · rw [if_neg hd]; exact .inr ⟨by omega, by omega, by omega, rfl⟩
theorem numP_ok {lc s : UInt8} {f : Nat} {l : List UInt8} {k : Nat} (h : (numP lc s f l k).2.2.1 = true) :
    k = 0 ∧ (numP lc s f l k).2.2.2 = 0 ∧ f + 2 ≤ (numP lc s f l k).2.1 ∧ (numP lc s f l k).2.1 ≤ l.length ∧ (numP lc s f l k).1 < 18446744073709551616 ∧ l.head? = some lc ∧
      (numP lc s f l k).1 = dval 0 ((l.drop f).take ((numP lc s f l k).2.1 - f - 1)) ∧ (∀ c ∈ (l.drop f).take ((numP lc s f l k).2.1 - f - 1), isD c = true) ∧ (numP lc s f l k).2.1 ≤ f + 21 := by
  rcases numP_cases lc s f l k with ⟨e, he, _⟩ | ⟨h1, h2, h3, h4⟩
  · rw [he] at h; simp at h
  · rw [h4]
    obtain ⟨b1, b2, b3, b4, b5, b6, b7⟩ := digs_bounds s _ h3
    rw [List.length_drop] at b3
    have hsub : f + (digs s (l.drop f)).2.1 + 1 - f - 1 = (digs s (l.drop f)).2.1 := by omega
    refine ⟨h1, rfl, by simp only []; omega, by simp only []; omega, b4, ?_, ?_, ?_, by simp only []; omega⟩
    · cases l with
      | nil => simp [begP] at h2
      | cons c r =>
        simp only [begP] at h2
        split at h2
        · rename_i hc; simp at hc; simp [hc]
        · simp at h2
    · simp only []; rw [hsub]; exact b6
    · simp only []; rw [hsub]; exact b5
end Go.Proofs.YtflghelhdalhiaaGreatDoor.PK

namespace Go.Proofs.YtflghelhdalhiaaGreatDoor.PK
open Go

theorem parseMag_digits (l : List UInt8) (h : ∀ c ∈ l, isD c = true) (hl : l ≠ []) (hv : dval 0 l < 18446744073709551616) : Lib.parseMag l = .ok (dval 0 l) := by
  unfold Lib.parseMag
  rw [if_neg hl, ← Lib.parseUintM_64, parseM_digits 18446744073709551615 rfl l 0 h (by omega), if_pos (by omega)]
theorem atoi_neg (l : List UInt8) (h : ∀ c ∈ l, isD c = true) (hl : l ≠ []) (hv : dval 0 l < 18446744073709551616) :
    Lib.atoiAll (45 :: l) = if 9223372036854775808 < dval 0 l then .range else .ok (-(dval 0 l : Int)) := by
  have hm := parseMag_digits l h hl hv
  generalize dval 0 l = u at *
  have e45 : (45 : UInt8).toNat = 45 := rfl
  unfold Lib.atoiAll
  simp only [e45, or_true, if_true, hm]
  by_cases h3 : 9223372036854775808 < u
  · simp [h3]
  · simp [h3]
theorem atoi_pos (l : List UInt8) (h : ∀ c ∈ l, isD c = true) (hl : l ≠ []) (hv : dval 0 l < 18446744073709551616) :
    Lib.atoiAll l = if 9223372036854775807 < dval 0 l then .range else .ok (dval 0 l : Int) := by
  have hm := parseMag_digits l h hl hv
  cases l with
  | nil => exact absurd rfl hl
  | cons c r =>
    have hc := (isD_iff c).1 (h c (by simp))
    generalize hu : dval 0 (c :: r) = u at *
    unfold Lib.atoiAll
    have h1 : ¬ (c.toNat = 43) := by omega
    have h2 : ¬ (c.toNat = 45) := by omega
    simp only [h1, h2, or_self, if_false, hm]
    by_cases h3 : 9223372036854775807 < u
    · simp [h3, show 9223372036854775808 ≤ u from by omega]
    · simp [h3, show ¬ 9223372036854775808 ≤ u from by omega]
/-- The bytes that Int hands to Atoi, behind a sign or not. -/
theorem int_text1 (l : List UInt8) (m : Nat) : (l.take (1 + m)).drop 1 = (l.drop 1).take m := by rw [List.drop_take]; congr 1; omega
theorem int_text2 (l : List UInt8) (m : Nat) (h : l[1]? = some 45) : (l.take (2 + m)).drop 1 = 45 :: (l.drop 2).take m := by
  rcases l with _ | ⟨a, _ | ⟨b, r⟩⟩
  · simp at h
  · simp at h
  · simp at h
    subst h
    simp [show 2 + m = m + 1 + 1 from by omega]

theorem dval_snoc (l : List UInt8) (m : Nat) (h : m < l.length) : dval 0 (l.take (m + 1)) = dval 0 (l.take m) * 10 + (l[m].toNat - 48) := by
  rw [List.take_succ_eq_append_getElem h, dval_append]
  rfl
theorem dval_lt_acc : ∀ (a b : List UInt8) (A B : Nat), a.length = b.length → (∀ c ∈ a, isD c = true) → A < B → dval A a < dval B b
  | [], [], A, B, _, _, h => h
  | c :: a, d :: b, A, B, hl, hd, h => by
    have hc := (isD_iff c).1 (hd c (by simp))
    exact dval_lt_acc a b _ _ (by simpa using hl) (fun x hx => hd x (by simp [hx])) (by omega)
theorem dval_lt_pow : ∀ (l : List UInt8) (A : Nat), (∀ c ∈ l, isD c = true) → dval A l < (A + 1) * 10 ^ l.length
  | [], A, _ => by show A < (A + 1) * 1; omega
  | c :: r, A, h => by
    have hc := (isD_iff c).1 (h c (by simp))
    have := dval_lt_pow r (A * 10 + (c.toNat - 48)) (fun x hx => h x (by simp [hx]))
    show dval (A * 10 + (c.toNat - 48)) r < _
    refine Nat.lt_of_lt_of_le this ?_
    rw [List.length_cons, Nat.pow_succ, Nat.mul_comm (10 ^ r.length) 10, ← Nat.mul_assoc]
    exact Nat.mul_le_mul_right _ (by omega)
theorem dval_inj : ∀ (a b : List UInt8) (A : Nat), a.length = b.length → (∀ c ∈ a, isD c = true) → (∀ c ∈ b, isD c = true) → dval A a = dval A b → a = b
  | [], [], _, _, _, _, _ => rfl
  | c :: a, d :: b, A, hl, hc, hd, h => by
    have h1 := (isD_iff c).1 (hc c (by simp))
    have h2 := (isD_iff d).1 (hd d (by simp))
    have hl' : a.length = b.length := by simpa using hl
    have ha : ∀ x ∈ a, isD x = true := fun x hx => hc x (by simp [hx])
    have hb : ∀ x ∈ b, isD x = true := fun x hx => hd x (by simp [hx])
    have h' : dval (A * 10 + (c.toNat - 48)) a = dval (A * 10 + (d.toNat - 48)) b := h
    rcases Nat.lt_trichotomy c.toNat d.toNat with q | q | q
    · have := dval_lt_acc a b (A * 10 + (c.toNat - 48)) (A * 10 + (d.toNat - 48)) hl' ha (by omega)
      omega
    · have e : c = d := UInt8.toNat_inj.1 q
      subst e
      rw [dval_inj a b _ hl' ha hb h']
    · have := dval_lt_acc b a (A * 10 + (d.toNat - 48)) (A * 10 + (c.toNat - 48)) hl'.symm hb (by omega)
      omega
/-- Digits of one length: as texts they stand as their numbers do. -/
theorem less_iff : ∀ (a b : List UInt8) (A : Nat), a.length = b.length → (∀ c ∈ a, isD c = true) → (∀ c ∈ b, isD c = true) → (Op.bytesLess a b = true ↔ dval A a < dval A b)
  | [], [], A, _, _, _ => ⟨fun h => by simp [Op.bytesLess] at h, fun h => absurd (show A < A from h) (Nat.lt_irrefl A)⟩
  | c :: a, d :: b, A, hl, hc, hd => by
    have h1 := (isD_iff c).1 (hc c (by simp))
    have h2 := (isD_iff d).1 (hd d (by simp))
    have hl' : a.length = b.length := by simpa using hl
    have ha : ∀ x ∈ a, isD x = true := fun x hx => hc x (by simp [hx])
    have hb : ∀ x ∈ b, isD x = true := fun x hx => hd x (by simp [hx])
    show Op.bytesLess (c :: a) (d :: b) = true ↔ dval (A * 10 + (c.toNat - 48)) a < dval (A * 10 + (d.toNat - 48)) b
    unfold Op.bytesLess
    rcases Nat.lt_trichotomy c.toNat d.toNat with h | h | h
    · have := dval_lt_acc a b (A * 10 + (c.toNat - 48)) (A * 10 + (d.toNat - 48)) hl' ha (by omega)
      have hlt : c < d := h
      simp [hlt, this]
    · have e : c = d := UInt8.toNat_inj.1 h
      subst e
      have := less_iff a b (A * 10 + (c.toNat - 48)) hl' ha hb
      simp [this]
    · have := dval_lt_acc b a (A * 10 + (d.toNat - 48)) (A * 10 + (c.toNat - 48)) hl'.symm hb (by omega)
      have hlt : ¬ c < d := by show ¬ c.toNat < d.toNat; omega
      have hne : ¬ c = d := by rintro rfl; omega
      simp [hlt, hne]
      omega
end Go.Proofs.YtflghelhdalhiaaGreatDoor.PK
