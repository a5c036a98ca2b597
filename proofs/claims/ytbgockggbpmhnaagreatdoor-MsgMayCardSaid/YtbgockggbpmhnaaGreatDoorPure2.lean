/-
  Layer 1 in plain Lean: what strconv.Atoi makes of an int's digits. No program; no condition.
-/
import Derived.Test.YtbgockggbpmhnaaGreatDoorPure
import GoSem.Op.String
namespace Go.Proofs.YtbgockggbpmhnaaGreatDoor.PK
open Go

theorem parseMag_digits (l : List UInt8) (h : ∀ c ∈ l, isD c = true) (hl : l ≠ []) (hv : dval 0 l < 18446744073709551616) : Lib.parseMag l = .ok (dval 0 l) := by
  unfold Lib.parseMag
  rw [if_neg hl, ← Lib.parseUintM_64, parseM_digits 18446744073709551615 rfl l 0 h (by omega), if_pos (by omega)]
theorem atoi_neg (l : List UInt8) (h : ∀ c ∈ l, isD c = true) (hl : l ≠ []) (hv : dval 0 l < 18446744073709551616) :
    Lib.atoiAll (45 :: l) = if 9223372036854775808 < dval 0 l then .range else .ok (-(dval 0 l : Int)) := by
  have hm := parseMag_digits l h hl hv
  generalize dval 0 l = u at *
  have e45 : (45 : UInt8).toNat = 45 := rfl
  unfold Lib.atoiAll
  simp only [e45, or_true, if_true, hm]
  by_cases h3 : 9223372036854775808 < u
  · simp [h3]
  · simp [h3]
theorem atoi_pos (l : List UInt8) (h : ∀ c ∈ l, isD c = true) (hl : l ≠ []) (hv : dval 0 l < 18446744073709551616) :
    Lib.atoiAll l = if 9223372036854775807 < dval 0 l then .range else .ok (dval 0 l : Int) := by
  have hm := parseMag_digits l h hl hv
  cases l with
  | nil => exact absurd rfl hl
  | cons c r =>
    have hc := (isD_iff c).1 (h c (by simp))
    generalize hu : dval 0 (c :: r) = u at *
    unfold Lib.atoiAll
    have h1 : ¬ (c.toNat = 43) := by omega
    have h2 : ¬ (c.toNat = 45) := by omega
    simp only [h1, h2, or_self, if_false, hm]
    by_cases h3 : 9223372036854775807 < u
    · simp [h3, show 9223372036854775808 ≤ u from by omega]
    · simp [h3, show ¬ 9223372036854775808 ≤ u from by omega]
/-- The bytes that Int hands to Atoi, behind a sign or not. -/
theorem int_text1 (l : List UInt8) (m : Nat) : (l.take (1 + m)).drop 1 = (l.drop 1).take m := by rw [List.drop_take]; congr 1; omega
theorem int_text2 (l : List UInt8) (m : Nat) (h : l[1]? = some 45) : (l.take (2 + m)).drop 1 = 45 :: (l.drop 2).take m := by
  rcases l with _ | ⟨a, _ | ⟨b, r⟩⟩
  · simp at h
  · simp at h
  · simp at h
    subst h
    simp [show 2 + m = m + 1 + 1 from by omega]

theorem dval_snoc (l : List UInt8) (m : Nat) (h : m < l.length) : dval 0 (l.take (m + 1)) = dval 0 (l.take m) * 10 + (l[m].toNat - 48) := by
  rw [List.take_succ_eq_append_getElem h, dval_append]
  rfl
theorem dval_lt_acc : ∀ (a b : List UInt8) (A B : Nat), a.length = b.length → (∀ c ∈ a, isD c = true) → A < B → dval A a < dval B b
  | [], [], A, B, _, _, h => h
  | c :: a, d :: b, A, B, hl, hd, h => by
    have hc := (isD_iff c).1 (hd c (by simp))
    exact dval_lt_acc a b _ _ (by simpa using hl) (fun x hx => hd x (by simp [hx])) (by omega)
theorem dval_lt_pow : ∀ (l : List UInt8) (A : Nat), (∀ c ∈ l, isD c = true) → dval A l < (A + 1) * 10 ^ l.length
  | [], A, _ => by show A < (A + 1) * 1; omega
  | c :: r, A, h => by
    have hc := (isD_iff c).1 (h c (by simp))
    have := dval_lt_pow r (A * 10 + (c.toNat - 48)) (fun x hx => h x (by simp [hx]))
    show dval (A * 10 + (c.toNat - 48)) r < _
    refine Nat.lt_of_lt_of_le this ?_
    rw [List.length_cons, Nat.pow_succ, Nat.mul_comm (10 ^ r.length) 10, ← Nat.mul_assoc]
    exact Nat.mul_le_mul_right _ (by omega)
theorem dval_inj : ∀ (a b : List UInt8) (A : Nat), a.length = b.length → (∀ c ∈ a, isD c = true) → (∀ c ∈ b, isD c = true) → dval A a = dval A b → a = b
  | [], [], _, _, _, _, _ => rfl
  | c :: a, d :: b, A, hl, hc, hd, h => by
    have h1 := (isD_iff c).1 (hc c (by simp))
    have h2 := (isD_iff d).1 (hd d (by simp))
    have hl' : a.length = b.length := by simpa using hl
    have ha : ∀ x ∈ a, isD x = true := fun x hx => hc x (by simp [hx])
    have hb : ∀ x ∈ b, isD x = true := fun x hx => hd x (by simp [hx])
    have h' : dval (A * 10 + (c.toNat - 48)) a = dval (A * 10 + (d.toNat - 48)) b := h
    rcases Nat.lt_trichotomy c.toNat d.toNat with q | q | q
    · have := dval_lt_acc a b (A * 10 + (c.toNat - 48)) (A * 10 + (d.toNat - 48)) hl' ha (by omega)
      omega
    · have e : c = d := UInt8.toNat_inj.1 q
      subst e
      rw [dval_inj a b _ hl' ha hb h']
    · have := dval_lt_acc b a (A * 10 + (d.toNat - 48)) (A * 10 + (c.toNat - 48)) hl'.symm hb (by omega)
      omega
/-- Digits of one length: as texts they stand as their numbers do. -/
theorem less_iff : ∀ (a b : List UInt8) (A : Nat), a.length = b.length → (∀ c ∈ a, isD c = true) → (∀ c ∈ b, isD c = true) → (Op.bytesLess a b = true ↔ dval A a < dval A b)
  | [], [], A, _, _, _ => ⟨fun h => by simp [Op.bytesLess] at h, fun h => absurd (show A < A from h) (Nat.lt_irrefl A)⟩
  | c :: a, d :: b, A, hl, hc, hd => by
    have h1 := (isD_iff c).1 (hc c (by simp))
    have h2 := (isD_iff d).1 (hd d (by simp))
    have hl' : a.length = b.length := by simpa using hl
    have ha : ∀ x ∈ a, isD x = true := fun x hx => hc x (by simp [hx])
    have hb : ∀ x ∈ b, isD x = true := fun x hx => hd x (by simp [hx])
    show Op.bytesLess (c :: a) (d :: b) = true ↔ dval (A * 10 + (c.toNat - 48)) a < dval (A * 10 + (d.toNat - 48)) b
    unfold Op.bytesLess
    rcases Nat.lt_trichotomy c.toNat d.toNat with h | h | h
    · have := dval_lt_acc a b (A * 10 + (c.toNat - 48)) (A * 10 + (d.toNat - 48)) hl' ha (by omega)
      have hlt : c < d := h
      simp [hlt, this]
    · have e : c = d := UInt8.toNat_inj.1 h
      subst e
      have := less_iff a b (A * 10 + (c.toNat - 48)) hl' ha hb
      simp [this]
    · have := dval_lt_acc b a (A * 10 + (d.toNat - 48)) (A * 10 + (c.toNat - 48)) hl'.symm hb (by omega)
      have hlt : ¬ c < d := by show ¬ c.toNat < d.toNat; omega
      have hne : ¬ c = d := by rintro rfl; omega
      simp [hlt, hne]
      omega
end Go.Proofs.YtbgockggbpmhnaaGreatDoor.PK
