/-
  Layer 5's texts in plain Lean: two numbers and a slash between. No program; no condition.
-/
import Derived.Test.YtincbeipfgbfpaaDoorPure3
import Derived.Lib.IndexLaws
namespace Go.Proofs.YtincbeipfgbfpaaDoor.PK
open Go

theorem dval_pos : ∀ (l : List UInt8), l ≠ [] → (∀ c ∈ l, isD c = true) → l.head? ≠ some 48 → 0 < dval 0 l
  | [], h, _, _ => absurd rfl h
  | c :: r, _, hd, hh => by
    have hc := (isD_iff c).1 (hd c (by simp))
    have hm := dval_mono r (0 * 10 + (c.toNat - 48))
    have hne : c.toNat ≠ 48 := by
      intro e
      apply hh
      have : c = 48 := UInt8.toNat_inj.1 e
      rw [this]; rfl
    show 0 < dval (0 * 10 + (c.toNat - 48)) r
    omega
theorem digit_of (c : UInt8) (h : isD c = true) : UInt8.ofNat (48 + (c.toNat - 48)) = c := by
  have := (isD_iff c).1 h
  rw [show 48 + (c.toNat - 48) = c.toNat from by omega]
  simp
/-- Digits that lead with no 0 are their number's. -/
theorem dec_of_digits : ∀ (n : Nat) (x : List UInt8), x.length = n → x ≠ [] → (∀ c ∈ x, isD c = true) → ¬ (1 < x.length ∧ x.head? = some 48) → Lib.decDigits (dval 0 x) = x := by
  intro n
  induction n with
  | zero => intro x hn hx; exact absurd (List.eq_nil_of_length_eq_zero hn) hx
  | succ n ih =>
    intro x hn hx hd hf
    obtain ⟨l, c, rfl⟩ : ∃ l c, x = l ++ [c] := ⟨x.dropLast, x.getLast hx, (List.dropLast_concat_getLast hx).symm⟩
    have hc := hd c (by simp)
    have hcb := (isD_iff c).1 hc
    have hl : l.length = n := by simpa using hn
    rw [dval_append]
    show Lib.decDigits (dval 0 l * 10 + (c.toNat - 48)) = l ++ [c]
    by_cases hl0 : l = []
    · subst hl0
      show Lib.decDigits (0 * 10 + (c.toNat - 48)) = _
      rw [Lib.decDigits_one (by omega), Nat.zero_mul, Nat.zero_add, digit_of c hc]
      rfl
    · have hdl : ∀ y ∈ l, isD y = true := fun y hy => hd y (by simp [hy])
      have hhd : (l ++ [c]).head? = l.head? := by cases l with
        | nil => exact absurd rfl hl0
        | cons y r => rfl
      have h1 : l.head? ≠ some 48 := by
        intro e
        apply hf
        have : 0 < l.length := List.length_pos_iff.2 hl0
        exact ⟨by simp; omega, by rw [hhd]; exact e⟩
      have hp := dval_pos l hl0 hdl h1
      rw [Lib.decDigits, dif_neg (by omega), show (dval 0 l * 10 + (c.toNat - 48)) / 10 = dval 0 l from by omega, show (dval 0 l * 10 + (c.toNat - 48)) % 10 = c.toNat - 48 from by omega, digit_of c hc, ih l hl hl0 hdl (fun h => h1 h.2)]
theorem dec_len : ∀ (k u : Nat), u < 10 ^ (k + 1) → (Lib.decDigits u).length ≤ k + 1
  | 0, u, h => by rw [Lib.decDigits_one (by omega)]; simp
  | k + 1, u, h => by
    by_cases h1 : u < 10
    · rw [Lib.decDigits_one h1]; simp
    · rw [Lib.decDigits, dif_neg h1]
      have := dec_len k (u / 10) (by rw [Nat.pow_succ] at h; omega)
      simp; omega
/-- What the reference takes a text for. -/
def numR (s : List UInt8) : Int := if s = [] ∨ 13 < s.length ∨ (1 < s.length ∧ s.head? = some 48) ∨ s.all isD = false then -1 else (dval 0 s : Int)
theorem numR_lo (s : List UInt8) : -1 ≤ numR s := by unfold numR; split <;> omega
theorem numR_dec (a : Nat) (h : a ≤ 1099511627776) : numR (Lib.decDigits a) = (a : Int) := by
  unfold numR
  rw [if_neg, dec_val]
  rintro (h1 | h1 | h1 | h1)
  · exact dec_ne a h1
  · have := dec_len 12 a (by omega); omega
  · exact dec_form a h1
  · have : (Lib.decDigits a).all isD = true := List.all_eq_true.2 (dec_all a)
    rw [this] at h1; cases h1
theorem numR_back (s : List UInt8) (h : 0 ≤ numR s) : s = Lib.decDigits (numR s).toNat := by
  unfold numR at h ⊢
  split at h
  · omega
  · rename_i hs
    rw [if_neg hs, Int.toNat_natCast]
    simp only [not_or] at hs
    obtain ⟨h1, h2, h3, h4⟩ := hs
    exact (dec_of_digits s.length s rfl h1 (List.all_eq_true.1 (by simpa using h4)) h3).symm
/-- An amount's text. -/
def Good (s : List UInt8) (a b : Nat) : Prop := s = Lib.decDigits a ++ 47 :: Lib.decDigits b ∧ a ≤ 1099511627776 ∧ b ≤ 1099511627776
theorem not47 (u : Nat) : ∀ c ∈ Lib.decDigits u, c ≠ 47 := by
  rintro c hc rfl
  exact absurd (dec_all u 47 hc) (by decide)
/-- A text at its first slash. -/
theorem split47 (s : List UInt8) : (Lib.indexByte s 47 = -1 ∧ ∀ c ∈ s, c ≠ 47) ∨ ∃ i : Nat, Lib.indexByte s 47 = i ∧ i < s.length ∧ s[i]? = some 47 ∧ ∀ c ∈ s.take i, c ≠ 47 := by
  have hge := Lib.indexByte_ge s 47
  by_cases h : Lib.indexByte s 47 = -1
  · left
    refine ⟨h, ?_⟩
    rintro c hc rfl
    obtain ⟨k, hk, e⟩ := List.getElem_of_mem hc
    exact Lib.indexByte_none h k (by rw [List.getElem?_eq_getElem hk, e])
  · right
    obtain ⟨i, hi⟩ : ∃ i : Nat, Lib.indexByte s 47 = i := ⟨(Lib.indexByte s 47).toNat, by omega⟩
    obtain ⟨h1, h2⟩ := Lib.indexByte_some hi
    refine ⟨i, hi, (List.getElem?_eq_some_iff.1 h1).1, h1, ?_⟩
    rintro c hc rfl
    obtain ⟨k, hk, e⟩ := List.getElem_of_mem hc
    simp at hk e
    exact h2 k (by omega) (by rw [List.getElem?_eq_getElem (by omega), e])
theorem at_slash {s : List UInt8} {i : Nat} (h : s[i]? = some 47) : s = s.take i ++ 47 :: s.drop (i + 1) := by
  obtain ⟨hi, e⟩ := List.getElem?_eq_some_iff.1 h
  conv => lhs; rw [← List.take_append_drop i s, List.drop_eq_getElem_cons hi, e]
theorem first_unique {s l r : List UInt8} {i : Nat} (hs : s = l ++ 47 :: r) (hl : ∀ c ∈ l, c ≠ 47) (hi : s[i]? = some 47) (ht : ∀ c ∈ s.take i, c ≠ 47) : i = l.length ∧ s.take i = l ∧ s.drop (i + 1) = r := by
  have hlen : i = l.length := by
    rcases Nat.lt_trichotomy i l.length with h | h | h
    · rw [hs, List.getElem?_append_left h] at hi
      exact absurd rfl (hl 47 (List.mem_of_getElem? hi))
    · exact h
    · refine absurd rfl (ht 47 ?_)
      rw [hs]
      refine List.mem_of_getElem? (i := l.length) ?_
      rw [List.getElem?_take, if_pos h, List.getElem?_append_right (Nat.le_refl _)]
      simp
  subst hlen
  refine ⟨rfl, ?_, ?_⟩
  · rw [hs]; simp
  · rw [hs, List.drop_append]; simp
/-- Numbers that are no amount's. -/
def Bad (a b : Int) : Prop := a < 0 ∨ b < 0 ∨ 1099511627776 < a ∨ 1099511627776 < b
theorem good_num {s : List UInt8} {i a b : Nat} (h : Good s a b) (hi : s[i]? = some 47) (ht : ∀ c ∈ s.take i, c ≠ 47) : numR (s.take i) = a ∧ numR (s.drop (i + 1)) = b := by
  obtain ⟨hs, ha, hb⟩ := h
  obtain ⟨_, h1, h2⟩ := first_unique hs (not47 a) hi ht
  rw [h1, h2]
  exact ⟨numR_dec a ha, numR_dec b hb⟩
theorem good_of {s : List UInt8} {i : Nat} (hi : s[i]? = some 47) (h : ¬ Bad (numR (s.take i)) (numR (s.drop (i + 1)))) : Good s (numR (s.take i)).toNat (numR (s.drop (i + 1))).toNat := by
  unfold Bad at h
  simp only [not_or] at h
  obtain ⟨h1, h2, h3, h4⟩ := h
  refine ⟨?_, by omega, by omega⟩
  rw [← numR_back _ (by omega), ← numR_back _ (by omega)]
  exact at_slash hi
theorem good_slash {s : List UInt8} {a b : Nat} (h : Good s a b) : s[(Lib.decDigits a).length]? = some 47 ∧ (Lib.decDigits a).length ≤ 13 := by
  obtain ⟨hs, ha, hb⟩ := h
  refine ⟨?_, dec_len 12 a (by omega)⟩
  rw [hs, List.getElem?_append_right (Nat.le_refl _)]
  simp
end Go.Proofs.YtincbeipfgbfpaaDoor.PK
