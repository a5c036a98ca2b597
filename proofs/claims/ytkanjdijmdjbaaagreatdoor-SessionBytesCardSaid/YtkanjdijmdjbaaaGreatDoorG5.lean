/-
  Layer 1 in plain Lean: what strconv.Atoi makes of an int's digits. No program; no condition.
  Layer 1 in plain Lean: what is laid is taken off as it was, and is all; as something else it is refused; a begin of it is not taken off. No program; no condition.
  What an entry and a message are as bytes, and what bytes are as an entry: plain Lean, nothing of the program stands here.
  No condition.
  Messages and entries in plain Lean: what is laid is what is read, both ways; a begin of it, or more behind, is none. No program; no condition.
  A tree of nodes and uses as bytes, in plain Lean: what is read off any bytes, and that what is read is laid as the same bytes again. No program.
  Parameters that came in, opened: a slice of bytes (as an argument or as a field), a Thing.
  No condition of its own.
-/
import Derived.Test.YtkanjdijmdjbaaaGreatDoorG1
import GoSem.Op.String
import Derived.Lib.ItoaMem
import Derived.Lib.ItoaLen
import Derived.Test.YtkanjdijmdjbaaaGreatDoorQuoP
import Derived.Lib.SmallJoins
import Derived.SizedLaws
namespace Go.Proofs.YtkanjdijmdjbaaaGreatDoor.PK
open Go

theorem parseMag_digits (l : List UInt8) (h : ∀ c ∈ l, isD c = true) (hl : l ≠ []) (hv : dval 0 l < 18446744073709551616) : Lib.parseMag l = .ok (dval 0 l) := by
  unfold Lib.parseMag
  rw [if_neg hl, ← Lib.parseUintM_64, parseM_digits 18446744073709551615 rfl l 0 h (by omega), if_pos (by omega)]
theorem atoi_neg (l : List UInt8) (h : ∀ c ∈ l, isD c = true) (hl : l ≠ []) (hv : dval 0 l < 18446744073709551616) :
    Lib.atoiAll (45 :: l) = if 9223372036854775808 < dval 0 l then .range else .ok (-(dval 0 l : Int)) := by
  have hm := parseMag_digits l h hl hv
  generalize dval 0 l = u at *
  have e45 : (45 : UInt8).toNat = 45 := rfl
  unfold Lib.atoiAll
  simp only [e45, or_true, if_true, hm]
  by_cases h3 : 9223372036854775808 < u
  · simp [h3]
  · simp [h3]
theorem atoi_pos (l : List UInt8) (h : ∀ c ∈ l, isD c = true) (hl : l ≠ []) (hv : dval 0 l < 18446744073709551616) :
    Lib.atoiAll l = if 9223372036854775807 < dval 0 l then .range else .ok (dval 0 l : Int) := by
  have hm := parseMag_digits l h hl hv
  cases l with
  | nil => exact absurd rfl hl
  | cons c r =>
    have hc := (isD_iff c).1 (h c (by simp))
    generalize hu : dval 0 (c :: r) = u at *
    unfold Lib.atoiAll
    have h1 : ¬ (c.toNat = 43) := by omega
    have h2 : ¬ (c.toNat = 45) := by omega
    simp only [h1, h2, or_self, if_false, hm]
    by_cases h3 : 9223372036854775807 < u
    · simp [h3, show 9223372036854775808 ≤ u from by omega]
    · simp [h3, show ¬ 9223372036854775808 ≤ u from by omega]
/-- The bytes that Int hands to Atoi, behind a sign or not. -/
theorem int_text1 (l : List UInt8) (m : Nat) : (l.take (1 + m)).drop 1 = (l.drop 1).take m := by rw [List.drop_take]; congr 1; omega
theorem int_text2 (l : List UInt8) (m : Nat) (h : l[1]? = some 45) : (l.take (2 + m)).drop 1 = 45 :: (l.drop 2).take m := by
  rcases l with _ | ⟨a, _ | ⟨b, r⟩⟩
  · simp at h
  · simp at h
  · simp at h
    subst h
    simp [show 2 + m = m + 1 + 1 from by omega]

theorem dval_snoc (l : List UInt8) (m : Nat) (h : m < l.length) : dval 0 (l.take (m + 1)) = dval 0 (l.take m) * 10 + (l[m].toNat - 48) := by
  rw [List.take_succ_eq_append_getElem h, dval_append]
  rfl
theorem dval_lt_acc : ∀ (a b : List UInt8) (A B : Nat), a.length = b.length → (∀ c ∈ a, isD c = true) → A < B → dval A a < dval B b
  | [], [], A, B, _, _, h => h
  | c :: a, d :: b, A, B, hl, hd, h => by
    have hc := (isD_iff c).1 (hd c (by simp))
    exact dval_lt_acc a b _ _ (by simpa using hl) (fun x hx => hd x (by simp [hx])) (by omega)
theorem dval_lt_pow : ∀ (l : List UInt8) (A : Nat), (∀ c ∈ l, isD c = true) → dval A l < (A + 1) * 10 ^ l.length
  | [], A, _ => by show A < (A + 1) * 1; omega
  | c :: r, A, h => by
    have hc := (isD_iff c).1 (h c (by simp))
    have := dval_lt_pow r (A * 10 + (c.toNat - 48)) (fun x hx => h x (by simp [hx]))
    show dval (A * 10 + (c.toNat - 48)) r < _
    refine Nat.lt_of_lt_of_le this ?_
    rw [List.length_cons, Nat.pow_succ, Nat.mul_comm (10 ^ r.length) 10, ← Nat.mul_assoc]
    exact Nat.mul_le_mul_right _ (by omega)
theorem dval_inj : ∀ (a b : List UInt8) (A : Nat), a.length = b.length → (∀ c ∈ a, isD c = true) → (∀ c ∈ b, isD c = true) → dval A a = dval A b → a = b
  | [], [], _, _, _, _, _ => rfl
  | c :: a, d :: b, A, hl, hc, hd, h => by
    have h1 := (isD_iff c).1 (hc c (by simp))
    have h2 := (isD_iff d).1 (hd d (by simp))
    have hl' : a.length = b.length := by simpa using hl
    have ha : ∀ x ∈ a, isD x = true := fun x hx => hc x (by simp [hx])
    have hb : ∀ x ∈ b, isD x = true := fun x hx => hd x (by simp [hx])
    have h' : dval (A * 10 + (c.toNat - 48)) a = dval (A * 10 + (d.toNat - 48)) b := h
    rcases Nat.lt_trichotomy c.toNat d.toNat with q | q | q
    · have := dval_lt_acc a b (A * 10 + (c.toNat - 48)) (A * 10 + (d.toNat - 48)) hl' ha (by omega)
      omega
    · have e : c = d := UInt8.toNat_inj.1 q
      subst e
      rw [dval_inj a b _ hl' ha hb h']
    · have := dval_lt_acc b a (A * 10 + (d.toNat - 48)) (A * 10 + (c.toNat - 48)) hl'.symm hb (by omega)
      omega
/-- Digits of one length: as texts they stand as their numbers do. -/
theorem less_iff : ∀ (a b : List UInt8) (A : Nat), a.length = b.length → (∀ c ∈ a, isD c = true) → (∀ c ∈ b, isD c = true) → (Op.bytesLess a b = true ↔ dval A a < dval A b)
  | [], [], A, _, _, _ => ⟨fun h => by simp [Op.bytesLess] at h, fun h => absurd (show A < A from h) (Nat.lt_irrefl A)⟩
  | c :: a, d :: b, A, hl, hc, hd => by
    have h1 := (isD_iff c).1 (hc c (by simp))
    have h2 := (isD_iff d).1 (hd d (by simp))
    have hl' : a.length = b.length := by simpa using hl
    have ha : ∀ x ∈ a, isD x = true := fun x hx => hc x (by simp [hx])
    have hb : ∀ x ∈ b, isD x = true := fun x hx => hd x (by simp [hx])
    show Op.bytesLess (c :: a) (d :: b) = true ↔ dval (A * 10 + (c.toNat - 48)) a < dval (A * 10 + (d.toNat - 48)) b
    unfold Op.bytesLess
    rcases Nat.lt_trichotomy c.toNat d.toNat with h | h | h
    · have := dval_lt_acc a b (A * 10 + (c.toNat - 48)) (A * 10 + (d.toNat - 48)) hl' ha (by omega)
      have hlt : c < d := h
      simp [hlt, this]
    · have e : c = d := UInt8.toNat_inj.1 h
      subst e
      have := less_iff a b (A * 10 + (c.toNat - 48)) hl' ha hb
      simp [this]
    · have := dval_lt_acc b a (A * 10 + (d.toNat - 48)) (A * 10 + (c.toNat - 48)) hl'.symm hb (by omega)
      have hlt : ¬ c < d := by show ¬ c.toNat < d.toNat; omega
      have hne : ¬ c = d := by rintro rfl; omega
      simp [hlt, hne]
      omega
end Go.Proofs.YtkanjdijmdjbaaaGreatDoor.PK

namespace Go.Proofs.YtkanjdijmdjbaaaGreatDoor.PK
open Go

theorem dec_le (u : Nat) (hu : u < 18446744073709551616) : (Lib.decDigits u).length ≤ 20 := by
  rw [Lib.decDigits_length]
  exact Lib.nDigits_le20 u hu
theorem numP_err (lc s : UInt8) (f e : Nat) (l : List UInt8) : numP lc s f l (e + 1) = (0, 0, false, e + 1) := by
  unfold numP
  rw [if_pos (by simp)]
/-! ### Uint -/
theorem uint_err (most e : Nat) (l : List UInt8) : uintP most l (e + 1) = (0, l, e + 1) := by
  unfold uintP; rw [numP_err]; simp

/-! ### Int -/
/-! ### Bool -/
/-! ### Text, Bytes -/
theorem run_num (lc : UInt8) (most : Int) (l : List UInt8) (k e : Nat) (hm : 0 ≤ most) (h : numP lc 58 1 l k = (0, 0, false, e)) : runP lc most l k = ([], l, e) := by
  unfold runP
  rw [if_neg (by omega), h]; simp
/-! ### A thing -/
/-- What is laid: of kind k (0 a number, 1 an int, 2 a truth, 3 a text, else bytes). -/
structure Th where
  k : Nat
  n : Int
  b : List UInt8
/-- An int as a number from 0 on. -/
def u64 (n : Int) : Nat := (n % 18446744073709551616).toNat
structure Th.May (x : Th) : Prop where
  n0 : -9223372036854775808 ≤ x.n
  n1 : x.n ≤ 9223372036854775807
  b : x.b.length < 18446744073709551616
theorem doneP_zero : doneP [] 0 = 0 := by simp [doneP]
/-! ### Things, one behind the other -/
end Go.Proofs.YtkanjdijmdjbaaaGreatDoor.PK

namespace Go.Proofs.YtkanjdijmdjbaaaGreatDoor
open Go Go.RowKit
namespace PK

/-- A number as laid. -/
def uB (u : Nat) : List UInt8 := 110 :: Lib.decDigits u ++ [59]
/-- Bytes as laid. -/
def bB (d : List UInt8) : List UInt8 := 98 :: Lib.decDigits d.length ++ [58] ++ d
/-- An entry. -/
structure Ent where
  i : Int
  t : Int
  k : Int
  d : List UInt8
theorem uB_len (u : Nat) (h : u < 18446744073709551616) : (uB u).length ≤ 22 := by
  have := dec_le u h
  unfold uB; simp; omega
theorem bB_len (d : List UInt8) (h : d.length < 18446744073709551616) : (bB d).length ≤ 22 + d.length := by
  have := dec_le d.length h
  unfold bB; simp; omega
end PK
end Go.Proofs.YtkanjdijmdjbaaaGreatDoor

namespace Go.Proofs.YtkanjdijmdjbaaaGreatDoor.PK
open Go

/-! ### Digits, backwards -/
theorem dec_step (v d : Nat) (hv : 0 < v) (hd : d < 10) : Lib.decDigits (v * 10 + d) = Lib.decDigits v ++ [UInt8.ofNat (48 + d)] := by
  rw [Lib.decDigits, dif_neg (by omega)]
  have h1 : (v * 10 + d) / 10 = v := by omega
  have h2 : (v * 10 + d) % 10 = d := by omega
  rw [h1, h2]
theorem dval_pos : ∀ (l : List UInt8) (A : Nat), 0 < A → 0 < dval A l
  | [], _, h => h
  | c :: r, A, h => dval_pos r _ (by omega)
theorem dec_of (n : Nat) : ∀ (ds : List UInt8), ds.length = n → (∀ c ∈ ds, isD c = true) → ds ≠ [] → ¬ (1 < ds.length ∧ ds.head? = some 48) → Lib.decDigits (dval 0 ds) = ds := by
  induction n with
  | zero => intro ds h _ h2; exact absurd (List.eq_nil_of_length_eq_zero h) h2
  | succ n ih =>
    intro ds hl hd hne hz
    obtain ⟨t, c, rfl⟩ : ∃ t c, ds = t ++ [c] := ⟨ds.dropLast, ds.getLast hne, (List.dropLast_concat_getLast hne).symm⟩
    have hc := (isD_iff c).1 (hd c (by simp))
    have hc2 : UInt8.ofNat (48 + (c.toNat - 48)) = c := by
      apply UInt8.toNat_inj.1
      rw [UInt8.toNat_ofNat']; omega
    rw [dval_append]
    show Lib.decDigits (dval 0 t * 10 + (c.toNat - 48)) = t ++ [c]
    by_cases ht : t = []
    · subst ht
      show Lib.decDigits (0 * 10 + (c.toNat - 48)) = [c]
      rw [Nat.zero_mul, Nat.zero_add, Lib.decDigits_one (by omega), hc2]
    · obtain ⟨x, r, rfl⟩ := List.exists_cons_of_ne_nil ht
      have hx := (isD_iff x).1 (hd x (by simp))
      have hx0 : x.toNat ≠ 48 := by
        intro e
        apply hz
        refine ⟨by simp, ?_⟩
        simp
        exact UInt8.toNat_inj.1 e
      have hpos : 0 < dval 0 (x :: r) := by
        show 0 < dval (0 * 10 + (x.toNat - 48)) r
        exact dval_pos r _ (by omega)
      rw [dec_step _ _ hpos (by omega), hc2]
      rw [ih (x :: r) (by simpa using hl) (fun y hy => hd y (List.mem_append_left _ hy)) (by simp) (by
        rintro ⟨_, h2⟩
        simp at h2
        exact hx0 (by rw [h2]; rfl))]
theorem digs_back (s : UInt8) (l : List UInt8) (h : (digs s l).2.2 = 0) : l = Lib.decDigits (digs s l).1 ++ s :: l.drop ((digs s l).2.1 + 1) ∧ (Lib.decDigits (digs s l).1).length = (digs s l).2.1 := by
  obtain ⟨b1, b2, b3, b4, b5, b6, b7⟩ := digs_bounds s l h
  have hz : ¬ (1 < (digs s l).2.1 ∧ l.head? = some 48) := by
    unfold digs at h ⊢
    split at h
    · rename_i h0
      rw [if_pos h0]
      split at h
      · simp at h
      · rename_i h1
        rw [if_neg h1]
        simp only [not_or] at h1
        exact h1.2.1
    · rename_i h0
      exact absurd h h0
  generalize (digs s l).1 = n at *
  generalize (digs s l).2.1 = m at *
  have hd := dec_of m (l.take m) (by simp; omega) b5 (by intro e; have := congrArg List.length e; rw [List.length_take, List.length_nil] at this; omega) (by
    rintro ⟨q1, q2⟩
    apply hz
    refine ⟨by simp at q1; omega, ?_⟩
    rw [List.head?_take] at q2
    split at q2
    · omega
    · exact q2)
  rw [b6, hd]
  refine ⟨?_, by simp; omega⟩
  have e1 : l.drop m = s :: l.drop (m + 1) := by
    rw [List.drop_eq_getElem_cons b3]
    rw [List.getElem?_eq_getElem b3] at b7
    rw [Option.some.inj b7]
  calc l = l.take m ++ l.drop m := (List.take_append_drop m l).symm
    _ = _ := by rw [e1]
theorem num_back {lc s : UInt8} {l : List UInt8} {k : Nat} (h : (numP lc s 1 l k).2.2.1 = true) :
    k = 0 ∧ (numP lc s 1 l k).1 < 18446744073709551616 ∧ l = lc :: Lib.decDigits (numP lc s 1 l k).1 ++ s :: l.drop (numP lc s 1 l k).2.1 ∧ (numP lc s 1 l k).2.1 = (Lib.decDigits (numP lc s 1 l k).1).length + 2 ∧ (numP lc s 1 l k).2.1 ≤ l.length := by
  have hok := numP_ok h
  rcases numP_cases lc s 1 l k with ⟨e, he, _⟩ | ⟨h1, h2, h3, h4⟩
  · rw [he] at h; simp at h
  · obtain ⟨o1, o2, o3, o4, o5, o6, _⟩ := hok
    rw [h4] at o4 o5 ⊢
    obtain ⟨d1, d2⟩ := digs_back s _ h3
    cases l with
    | nil => simp at o6
    | cons c r =>
      simp at o6
      subst o6
      simp only [List.drop_succ_cons, List.drop_zero] at d1 d2 o4 o5 ⊢
      refine ⟨h1, o5, ?_, by omega, o4⟩
      rw [show 1 + (digs s r).2.1 = (digs s r).2.1 + 1 from Nat.add_comm _ _, List.cons_append]
      exact congrArg _ d1

/-! ### What is read, backwards -/
theorem uint_back {most : Nat} {l l' : List UInt8} {k v : Nat} (h : uintP most l k = (v, l', 0)) : k = 0 ∧ v ≤ most ∧ v < 18446744073709551616 ∧ l = uB v ++ l' := by
  unfold uintP at h
  split at h
  · rename_i h1
    rcases numP_cases 110 59 1 l k with ⟨e, he, _⟩ | ⟨_, _, _, h4⟩
    · rw [he] at h; simp at h
    · rw [h4] at h1; simp at h1
  · rename_i h1
    have hb := num_back (lc := 110) (s := 59) (l := l) (k := k) (by simpa using h1)
    split at h
    · simp at h
    · obtain ⟨b1, b2, b3, _, _⟩ := hb
      simp only [Prod.mk.injEq] at h
      obtain ⟨e1, e2, _⟩ := h
      rw [e1] at b2 b3
      rw [e2] at b3
      refine ⟨b1, by omega, b2, ?_⟩
      rw [b3]
      simp [uB]
theorem run_back {lc : UInt8} {most : Int} {l d l' : List UInt8} {k : Nat} (h : runP lc most l k = (d, l', 0)) : k = 0 ∧ (d.length : Int) ≤ most ∧ d.length < 18446744073709551616 ∧ l = lc :: Lib.decDigits d.length ++ [58] ++ d ++ l' := by
  unfold runP at h
  split at h
  · simp at h
  · split at h
    · rename_i h1
      rcases numP_cases lc 58 1 l k with ⟨e, he, _⟩ | ⟨_, _, _, h4⟩
      · rw [he] at h; simp at h
      · rw [h4] at h1; simp at h1
    · rename_i h1
      obtain ⟨b1, b2, b3, b4, b5⟩ := num_back (lc := lc) (s := 58) (l := l) (k := k) (by simpa using h1)
      split at h
      · simp at h
      · split at h
        · simp at h
        · generalize (numP lc 58 1 l k).1 = n at *
          generalize (numP lc 58 1 l k).2.1 = e at *
          simp only [Prod.mk.injEq] at h
          obtain ⟨e1, e2, _⟩ := h
          have hd : d.length = n := by rw [← e1]; simp; omega
          rw [hd]
          refine ⟨b1, by omega, b2, ?_⟩
          have : l.drop e = d ++ l' := by
            rw [← e1, ← e2, ← List.drop_drop, List.take_append_drop]
          rw [this] at b3
          rw [b3]
          simp
theorem run_bad {lc : UInt8} {most : Int} {l : List UInt8} {k : Nat} (h : (runP lc most l k).2.2 ≠ 0) : (runP lc most l k).1 = [] := by
  unfold runP at h ⊢
  split
  · rfl
  · split
    · rfl
    · split
      · rfl
      · split
        · rfl
        · rename_i h1 h2 h3 h4
          simp [h1, h2, h3, h4] at h
theorem count_back {most : Int} {l l' : List UInt8} {k n : Nat} (h : countP most l k = (n, l', 0)) : k = 0 ∧ n ≤ most.toNat ∧ n < 18446744073709551616 ∧ n ≤ l'.length ∧ l = uB n ++ l' := by
  unfold countP at h
  split at h
  · simp at h; omega
  · split at h
    · simp at h
    · rename_i h1 h2
      rw [h] at h2
      obtain ⟨b1, b2, b3, b4⟩ := uint_back h
      exact ⟨b1, b2, b3, by simp at h2; exact h2, b4⟩

/-! ### What is laid, read -/
/-! ### An entry -/
/-- May an entry be? -/
def okE (e : Ent) : Prop := (1 ≤ e.i ∧ e.i ≤ 1099511627776) ∧ (1 ≤ e.t ∧ e.t ≤ 1099511627776) ∧ (0 ≤ e.k ∧ e.k ≤ 2) ∧ e.d.length ≤ 4096
instance (e : Ent) : Decidable (okE e) := by unfold okE; infer_instance
/-! ### A message -/
structure Msg where
  kd : Int
  fr : Int
  to : Int
  tm : Int
  ix : Int
  lt : Int
  cm : Int
  ro : Int
  ok : Bool
  off : Int
  d : List UInt8
  es : List Ent
def in01 (lo hi n : Int) : Prop := lo ≤ n ∧ n ≤ hi
instance (lo hi n : Int) : Decidable (in01 lo hi n) := by unfold in01; infer_instance
/-- May a message be? -/
def mayM (m : Msg) : Prop :=
  (in01 1 6 m.kd ∧ in01 1 64 m.fr ∧ in01 1 64 m.to ∧ m.fr ≠ m.to) ∧ (in01 1 1099511627776 m.tm ∧ in01 0 1099511627776 m.ix ∧ in01 0 1099511627776 m.lt ∧ in01 0 1099511627776 m.cm ∧ in01 0 1099511627776 m.ro ∧ in01 0 1099511627776 m.off) ∧
    m.d.length ≤ 4096 ∧ m.es.length ≤ 64 ∧ ∀ e ∈ m.es, okE e
instance (m : Msg) : Decidable (mayM m) := by unfold mayM; infer_instance
end Go.Proofs.YtkanjdijmdjbaaaGreatDoor.PK

namespace Go.Proofs.YtkanjdijmdjbaaaGreatDoor.QT
open Go.Proofs.YtkanjdijmdjbaaaGreatDoor

def cap : Nat := 1099511627776
/-- A text as laid. -/
def xB (d : Str) : List UInt8 := 116 :: Lib.decDigits d.length ++ [58] ++ d
def encNd (n : Nd) : List UInt8 := xB n.nm ++ xB n.pr ++ PK.uB n.o1 ++ PK.uB n.o2 ++ PK.uB n.b1 ++ PK.uB n.b2 ++ PK.uB n.l1 ++ PK.uB n.l2
def encUs (u : Us) : List UInt8 := xB u.id ++ xB u.nd ++ PK.uB u.a1 ++ PK.uB u.a2
def encL {α : Type} (f : α → List UInt8) : List α → List UInt8
  | [] => []
  | x :: r => f x ++ encL f r
def encT (N : List Nd) (V : List Us) : List UInt8 := PK.uB N.length ++ encL encNd N ++ PK.uB V.length ++ encL encUs V
/-- What is read. -/
def readNd (l : List UInt8) (k : Nat) : Nd × List UInt8 × Nat :=
  let a := PK.runP 116 32 l k
  let b := PK.runP 116 32 a.2.1 a.2.2
  let c := PK.uintP cap b.2.1 b.2.2
  let d := PK.uintP cap c.2.1 c.2.2
  let e := PK.uintP cap d.2.1 d.2.2
  let f := PK.uintP cap e.2.1 e.2.2
  let g := PK.uintP cap f.2.1 f.2.2
  let h := PK.uintP cap g.2.1 g.2.2
  (⟨a.1, b.1, c.1, d.1, e.1, f.1, g.1, h.1⟩, h.2.1, h.2.2)
def readUs (l : List UInt8) (k : Nat) : Us × List UInt8 × Nat :=
  let a := PK.runP 116 32 l k
  let b := PK.runP 116 32 a.2.1 a.2.2
  let c := PK.uintP cap b.2.1 b.2.2
  let d := PK.uintP cap c.2.1 c.2.2
  (⟨a.1, b.1, c.1, d.1⟩, d.2.1, d.2.2)
/-- So many of them, whatever the error. -/
def readL {α : Type} (f : List UInt8 → Nat → α × List UInt8 × Nat) : Nat → List UInt8 → Nat → List α × List UInt8 × Nat
  | 0, l, k => ([], l, k)
  | n + 1, l, k => ((f l k).1 :: (readL f n (f l k).2.1 (f l k).2.2).1, (readL f n (f l k).2.1 (f l k).2.2).2)
theorem readL_succ {α : Type} (f : List UInt8 → Nat → α × List UInt8 × Nat) (n : Nat) (l : List UInt8) (k : Nat) :
    readL f (n + 1) l k = ((f l k).1 :: (readL f n (f l k).2.1 (f l k).2.2).1, (readL f n (f l k).2.1 (f l k).2.2).2) := rfl
/-- The last one behind the others. -/
theorem readL_snoc {α : Type} (f : List UInt8 → Nat → α × List UInt8 × Nat) (n : Nat) : ∀ (l : List UInt8) (k : Nat),
    readL f (n + 1) l k = ((readL f n l k).1 ++ [(f (readL f n l k).2.1 (readL f n l k).2.2).1], (f (readL f n l k).2.1 (readL f n l k).2.2).2) := by
  induction n with
  | zero => intro l k; rfl
  | succ n ih =>
    intro l k
    rw [readL_succ f (n + 1), ih, readL_succ f n]
    rfl
theorem readL_length {α : Type} (f : List UInt8 → Nat → α × List UInt8 × Nat) (n : Nat) : ∀ (l : List UInt8) (k : Nat), (readL f n l k).1.length = n := by
  induction n with
  | zero => intro l k; rfl
  | succ n ih => intro l k; rw [readL_succ, List.length_cons, ih]
def fineNd (n : Nd) : Prop := (n.nm.length ≤ 32 ∧ n.pr.length ≤ 32) ∧ n.o1 ≤ cap ∧ n.o2 ≤ cap ∧ n.b1 ≤ cap ∧ n.b2 ≤ cap ∧ n.l1 ≤ cap ∧ n.l2 ≤ cap
def fineUs (u : Us) : Prop := (u.id.length ≤ 32 ∧ u.nd.length ≤ 32) ∧ u.a1 ≤ cap ∧ u.a2 ≤ cap
theorem uint_cap (m : Nat) (l : List UInt8) (k : Nat) : (PK.uintP m l k).1 ≤ m := by
  unfold PK.uintP
  split
  · exact Nat.zero_le _
  · split
    · exact Nat.zero_le _
    · simp only; omega
theorem run32_len (l : List UInt8) (k : Nat) : (PK.runP 116 32 l k).1.length ≤ 32 := by
  unfold PK.runP
  split
  · simp
  · split
    · simp
    · split
      · simp
      · split
        · simp
        · rw [List.length_take]; omega
theorem fine_readNd (l : List UInt8) (k : Nat) : fineNd (readNd l k).1 := by
  unfold readNd fineNd
  simp only
  exact ⟨⟨run32_len _ _, run32_len _ _⟩, uint_cap cap _ _, uint_cap cap _ _, uint_cap cap _ _, uint_cap cap _ _, uint_cap cap _ _, uint_cap cap _ _⟩
theorem fine_readUs (l : List UInt8) (k : Nat) : fineUs (readUs l k).1 := by
  unfold readUs fineUs
  simp only
  exact ⟨⟨run32_len _ _, run32_len _ _⟩, uint_cap cap _ _, uint_cap cap _ _⟩
theorem readL_all {α : Type} {f : List UInt8 → Nat → α × List UInt8 × Nat} {p : α → Prop} (h : ∀ l k, p (f l k).1) (n : Nat) : ∀ (l : List UInt8) (k : Nat), ∀ x ∈ (readL f n l k).1, p x := by
  induction n with
  | zero => intro l k x hx; cases hx
  | succ n ih =>
    intro l k x hx
    rw [readL_succ] at hx
    rcases List.mem_cons.1 hx with rfl | hx
    · exact h l k
    · exact ih _ _ x hx
theorem text_back {l d l' : List UInt8} {k : Nat} (h : PK.runP 116 32 l k = (d, l', 0)) : k = 0 ∧ l = xB d ++ l' := by
  obtain ⟨h1, _, _, h2⟩ := PK.run_back h
  exact ⟨h1, h2⟩
theorem readNd_back {l l' : List UInt8} {k : Nat} {n : Nd} (h : readNd l k = (n, l', 0)) : k = 0 ∧ l = encNd n ++ l' := by
  unfold readNd at h
  obtain ⟨va, la, ka, ha⟩ : ∃ v l' k', PK.runP 116 32 l k = (v, l', k') := ⟨_, _, _, rfl⟩
  obtain ⟨vb, lb, kb, hb⟩ : ∃ v l' k', PK.runP 116 32 la ka = (v, l', k') := ⟨_, _, _, rfl⟩
  obtain ⟨vc, lc, kc, hc⟩ : ∃ v l' k', PK.uintP cap lb kb = (v, l', k') := ⟨_, _, _, rfl⟩
  obtain ⟨vd, ld, kd, hd⟩ : ∃ v l' k', PK.uintP cap lc kc = (v, l', k') := ⟨_, _, _, rfl⟩
  obtain ⟨ve, le, ke, he⟩ : ∃ v l' k', PK.uintP cap ld kd = (v, l', k') := ⟨_, _, _, rfl⟩
  obtain ⟨vf, lf, kf, hf⟩ : ∃ v l' k', PK.uintP cap le ke = (v, l', k') := ⟨_, _, _, rfl⟩
  obtain ⟨vg, lg, kg, hg⟩ : ∃ v l' k', PK.uintP cap lf kf = (v, l', k') := ⟨_, _, _, rfl⟩
  obtain ⟨vh, lh, kh, hh⟩ : ∃ v l' k', PK.uintP cap lg kg = (v, l', k') := ⟨_, _, _, rfl⟩
  simp only [ha, hb, hc, hd, he, hf, hg, hh, Prod.mk.injEq] at h
  obtain ⟨rfl, rfl, rfl⟩ := h
  obtain ⟨rfl, _, _, eh⟩ := PK.uint_back hh
  obtain ⟨rfl, _, _, eg⟩ := PK.uint_back hg
  obtain ⟨rfl, _, _, ef⟩ := PK.uint_back hf
  obtain ⟨rfl, _, _, ee⟩ := PK.uint_back he
  obtain ⟨rfl, _, _, ed⟩ := PK.uint_back hd
  obtain ⟨rfl, _, _, ec⟩ := PK.uint_back hc
  obtain ⟨rfl, eb⟩ := text_back hb
  obtain ⟨rfl, ea⟩ := text_back ha
  refine ⟨rfl, ?_⟩
  rw [ea, eb, ec, ed, ee, ef, eg, eh]
  simp [encNd]
theorem readUs_back {l l' : List UInt8} {k : Nat} {n : Us} (h : readUs l k = (n, l', 0)) : k = 0 ∧ l = encUs n ++ l' := by
  unfold readUs at h
  obtain ⟨va, la, ka, ha⟩ : ∃ v l' k', PK.runP 116 32 l k = (v, l', k') := ⟨_, _, _, rfl⟩
  obtain ⟨vb, lb, kb, hb⟩ : ∃ v l' k', PK.runP 116 32 la ka = (v, l', k') := ⟨_, _, _, rfl⟩
  obtain ⟨vc, lc, kc, hc⟩ : ∃ v l' k', PK.uintP cap lb kb = (v, l', k') := ⟨_, _, _, rfl⟩
  obtain ⟨vd, ld, kd, hd⟩ : ∃ v l' k', PK.uintP cap lc kc = (v, l', k') := ⟨_, _, _, rfl⟩
  simp only [ha, hb, hc, hd, Prod.mk.injEq] at h
  obtain ⟨rfl, rfl, rfl⟩ := h
  obtain ⟨rfl, _, _, ed⟩ := PK.uint_back hd
  obtain ⟨rfl, _, _, ec⟩ := PK.uint_back hc
  obtain ⟨rfl, eb⟩ := text_back hb
  obtain ⟨rfl, ea⟩ := text_back ha
  refine ⟨rfl, ?_⟩
  rw [ea, eb, ec, ed]
  simp [encUs]
theorem readL_back {α : Type} {f : List UInt8 → Nat → α × List UInt8 × Nat} {e : α → List UInt8} (hf : ∀ {l l' k n}, f l k = (n, l', 0) → k = 0 ∧ l = e n ++ l') (n : Nat) :
    ∀ {l : List UInt8} {k : Nat} {L : List α} {l' : List UInt8}, readL f n l k = (L, l', 0) → k = 0 ∧ l = encL e L ++ l' := by
  induction n with
  | zero =>
    intro l k L l' h
    change (([] : List α), l, k) = (L, l', 0) at h
    simp only [Prod.mk.injEq] at h
    obtain ⟨rfl, rfl, rfl⟩ := h
    exact ⟨rfl, rfl⟩
  | succ n ih =>
    intro l k L l' h
    rw [readL_succ] at h
    obtain ⟨x, l1, k1, hx⟩ : ∃ x l1 k1, f l k = (x, l1, k1) := ⟨_, _, _, rfl⟩
    obtain ⟨r, l2, k2, hr⟩ : ∃ x l2 k2, readL f n l1 k1 = (x, l2, k2) := ⟨_, _, _, rfl⟩
    rw [hx] at h
    simp only at h
    rw [hr] at h
    simp only [Prod.mk.injEq] at h
    obtain ⟨rfl, rfl, rfl⟩ := h
    obtain ⟨rfl, e1⟩ := ih hr
    obtain ⟨rfl, e2⟩ := hf hx
    exact ⟨rfl, by rw [e2, e1]; simp [encL]⟩
/-- All that is read: the nodes, the uses, what is left, the error. -/
def takeT (l : List UInt8) (k : Nat) : List Nd × List Us × List UInt8 × Nat :=
  let a := PK.countP 256 l k
  let b := readL readNd a.1 a.2.1 a.2.2
  let c := PK.countP 1024 b.2.1 b.2.2
  let d := readL readUs c.1 c.2.1 c.2.2
  (b.1, d.1, d.2.1, d.2.2)
theorem takeT_back {l l' : List UInt8} {k : Nat} {N : List Nd} {V : List Us} (h : takeT l k = (N, V, l', 0)) : k = 0 ∧ l = encT N V ++ l' := by
  unfold takeT at h
  obtain ⟨n, la, ka, ha⟩ : ∃ v l' k', PK.countP 256 l k = (v, l', k') := ⟨_, _, _, rfl⟩
  obtain ⟨M, lb, kb, hb⟩ : ∃ v l' k', readL readNd n la ka = (v, l', k') := ⟨_, _, _, rfl⟩
  obtain ⟨m, lc, kc, hc⟩ : ∃ v l' k', PK.countP 1024 lb kb = (v, l', k') := ⟨_, _, _, rfl⟩
  obtain ⟨X, ld, kd, hd⟩ : ∃ v l' k', readL readUs m lc kc = (v, l', k') := ⟨_, _, _, rfl⟩
  simp only [ha, hb, hc, hd, Prod.mk.injEq] at h
  obtain ⟨rfl, rfl, rfl, rfl⟩ := h
  have hM : M.length = n := by have := readL_length readNd n la ka; rw [hb] at this; exact this
  have hX : X.length = m := by have := readL_length readUs m lc kc; rw [hd] at this; exact this
  obtain ⟨rfl, e4⟩ := readL_back (fun h => readUs_back h) m hd
  obtain ⟨rfl, _, _, _, e3⟩ := PK.count_back hc
  obtain ⟨rfl, e2⟩ := readL_back (fun h => readNd_back h) n hb
  obtain ⟨rfl, _, _, _, e1⟩ := PK.count_back ha
  refine ⟨rfl, ?_⟩
  rw [e1, e2, e3, e4, ← hM, ← hX]
  simp [encT]
end Go.Proofs.YtkanjdijmdjbaaaGreatDoor.QT

namespace Go.Proofs.YtkanjdijmdjbaaaGreatDoor
open Go Go.ChangeShapes Go.WideShapes Go.ChangeAt Go.RowKit Go.Joins

theorem lits_length (k : IntKind) (zs : List Int) {H : Type} : (lits (H := H) k zs).length = zs.length := by simp [lits]
/-- A slice of bytes that came in: its bytes; its length is at most its bulk, and at most its weight. -/
theorem open_bytes {H : Type} {enc : TypeId × Value → H} {W : World} {base n : Nat} {sp : Nat → Bool} {held : Bool} {v : Value} {y : DataW H × List MemPlace} (h : DataW.trod enc Tryz.prog W base sp held n 22 [v] = some y) :
    ∃ a m c l, v = .slice a m c ∧ l.length = m ∧ IsB W (.slice a m c) l ∧ m ≤ Rows.uptoBulk y.1 ∧ ∀ B, (y.1.weights Tryz.prog 22).all (· ≤ B) = true → m ≤ B := by
  have hlen := fun (k : IntKind) (zs : List Int) => lits_length (H := H) k zs
  have hall : ∀ l : List (DataW H), l.length ≤ Rows.uptoBulkAll l := by
    intro l
    induction l with
    | nil => simp [Rows.uptoBulkAll]
    | cons x r ih =>
      have h1 : 1 ≤ Rows.uptoBulk x := by
        cases x with
        | lit l => cases l <;> simp [Rows.uptoBulk]
        | nil => simp [Rows.uptoBulk]
        | ptr d => simp [Rows.uptoBulk]
        | slice elems spare => simp [Rows.uptoBulk]
        | agg parts => simp [Rows.uptoBulk]
        | iface t d => simp [Rows.uptoBulk]
        | map entries => simp [Rows.uptoBulk]
        | held h => simp [Rows.uptoBulk]
      simp only [Rows.uptoBulkAll, List.length_cons]
      omega
  rcases open_ints Tryz.underlying22 Tryz.underlying5 c_u8 h with ⟨hcs, _⟩ | ⟨x, len, cap, zs, hcs, _, hl, hm, hz, rfl, hcell, hwz⟩
  · simp at hcs
    subst hcs
    exact ⟨none, 0, 0, [], rfl, rfl, IsB.nil W, by omega, fun _ _ => by omega⟩
  · simp at hcs
    subst hcs
    have hlz : len ≤ zs.length := by rw [hz]; split <;> omega
    have hopen : ∃ l, l.length = len ∧ IsB W (.slice (some x) len cap) l := by
      -- the bytes alone, whatever room is behind them
      have hlen' : (bytesFrom (zs.take len)).length = len := by simp [bytesFrom]; omega
      refine ⟨bytesFrom (zs.take len), hlen', some x, cap, by rw [hlen'], by omega, hm, (fun h => by cases h), ?_⟩
      by_cases h0 : len = 0
      · exact .inl (List.eq_nil_of_length_eq_zero (by omega))
      · have hc := hcell 0 (by omega)
        obtain ⟨b, off, spot⟩ := x
        have hspot : spot = none := by simpa [Addr.add] using World.cell?_spot hc
        subst hspot
        refine .inr ⟨b, off, rfl, fun i hi => ?_⟩
        have hi' : i < zs.length := by omega
        have := hcell i hi'
        have hadd : (⟨b, off, none⟩ : Addr).add i = ⟨b, off + i, none⟩ := by unfold Addr.add; split <;> simp_all
        rw [hadd] at this
        rw [this]
        have hmem : zs[i] ∈ zs := List.getElem_mem hi'
        have hwf := hwz _ hmem
        obtain ⟨z0, z1⟩ := bounds_u8 hwf
        have hg : zs.getD i 0 = zs[i] := by simp [List.getD_eq_getElem?_getD, hi']
        rw [hg, at8_get _ _ hi]
        have hbt : ((bytesFrom (zs.take len))[i]'hi).toNat = zs[i].toNat := by
          have : zs[i].toNat < 256 := by omega
          simp [bytesFrom, UInt8.toNat_ofNat', Nat.mod_eq_of_lt this]
        rw [hbt, Int.toNat_of_nonneg z0]
    obtain ⟨l, e, hI⟩ := hopen
    refine ⟨_, _, _, l, rfl, e, hI, ?_, fun B hB => ?_⟩
    · have := hall (lits (H := H) .u8 (zs.take len))
      simp only [Rows.uptoBulk]
      rw [hlen] at this
      simp at this
      omega
    · have hb : Tryz.prog.bytesOf 5 = 1 := by kernel_rfl
      simp [DataW.weights, Tryz.underlying22, hlen, hb] at hB
      omega

end Go.Proofs.YtkanjdijmdjbaaaGreatDoor
