/-
  Sums and frames in plain Lean: the two ways to sum are one; a frame with one byte another one, or cut, or with more behind, is no message's. No program; no condition.
-/
import Derived.Test.YtbgockggbpmhnaaGreatDoorMsgP
namespace Go.Proofs.YtbgockggbpmhnaaGreatDoor.PK
open Go

def poly : Nat := 2197175160
/-- A bit's work. -/
def bitS (s : Nat) : Nat := if s % 2 = 1 then (s / 2) ^^^ poly else s / 2
def refBit (s b : Nat) : Nat := if s % 2 ≠ b then (s / 2) ^^^ poly else s / 2
def times : Nat → Nat → Nat
  | 0, s => s
  | n + 1, s => bitS (times n s)
def refBits (c : Nat) : Nat → Nat → Nat
  | 0, s => s
  | n + 1, s => refBit (refBits c n s) (c / 2 ^ n % 2)
theorem bit_xor (s c : Nat) : bitS (s ^^^ c) = refBit s (c % 2) ^^^ (c / 2) := by
  have h1 : (s ^^^ c) % 2 = (s + c) % 2 := by
    have e := Nat.xor_mod_two_pow (a := s) (b := c) (n := 1)
    rw [Nat.pow_one] at e
    rw [e]
    rcases Nat.mod_two_eq_zero_or_one s with q | q <;> rcases Nat.mod_two_eq_zero_or_one c with r | r <;> rw [Nat.add_mod, q, r] <;> decide
  have h2 : (s ^^^ c) / 2 = (s / 2) ^^^ (c / 2) := Nat.xor_div_two
  unfold bitS refBit
  rw [h1, h2]
  by_cases h : s % 2 = c % 2
  · rw [if_neg (by omega), if_neg (by omega)]
  · rw [if_pos (by omega), if_pos h, Nat.xor_assoc, Nat.xor_assoc, Nat.xor_comm poly]
theorem times_xor (s c : Nat) : ∀ k, times k (s ^^^ c) = refBits c k s ^^^ (c / 2 ^ k)
  | 0 => by simp [times, refBits]
  | k + 1 => by
    show bitS (times k (s ^^^ c)) = refBit (refBits c k s) (c / 2 ^ k % 2) ^^^ (c / 2 ^ (k + 1))
    rw [times_xor s c k, bit_xor, Nat.div_div_eq_div_mul, ← Nat.pow_succ]
/-- A byte's work. -/
def stepS (s c : Nat) : Nat := times 8 (s ^^^ c)
theorem step_ref (s c : Nat) (hc : c < 256) : stepS s c = refBits c 8 s := by
  unfold stepS
  rw [times_xor, show c / 2 ^ 8 = 0 from Nat.div_eq_of_lt hc, Nat.xor_zero]
theorem bit_lt {s : Nat} (h : s < 4294967296) : bitS s < 4294967296 := by
  unfold bitS
  split
  · exact Nat.xor_lt_two_pow (n := 32) (by omega) (by decide)
  · omega
theorem refBit_lt {s b : Nat} (h : s < 4294967296) : refBit s b < 4294967296 := by
  unfold refBit
  split
  · exact Nat.xor_lt_two_pow (n := 32) (by omega) (by decide)
  · omega
theorem times_lt {s : Nat} (h : s < 4294967296) : ∀ k, times k s < 4294967296
  | 0 => h
  | k + 1 => bit_lt (times_lt h k)
theorem refBits_lt {s c : Nat} (h : s < 4294967296) : ∀ k, refBits c k s < 4294967296
  | 0 => h
  | k + 1 => refBit_lt (refBits_lt h k)
theorem xor_lt {s c : Nat} (h : s < 4294967296) (hc : c < 4294967296) : s ^^^ c < 4294967296 := Nat.xor_lt_two_pow (n := 32) h hc
theorem step_lt {s c : Nat} (h : s < 4294967296) (hc : c < 256) : stepS s c < 4294967296 := times_lt (xor_lt h (by omega)) 8
theorem top_bit {s : Nat} (h : s < 4294967296) : (bitS s).testBit 31 = decide (s % 2 = 1) := by
  have h2 : (s / 2).testBit 31 = false := Nat.testBit_lt_two_pow (by omega)
  unfold bitS
  split
  · rename_i q
    rw [Nat.testBit_xor, h2, decide_eq_true q]
    decide
  · rename_i q
    rw [h2, decide_eq_false q]
theorem xor_cancel {a b c : Nat} (h : a ^^^ c = b ^^^ c) : a = b := by
  have := congrArg (fun x => x ^^^ c) h
  simpa [Nat.xor_assoc] using this
theorem bit_inj {s t : Nat} (hs : s < 4294967296) (ht : t < 4294967296) (h : bitS s = bitS t) : s = t := by
  have h1 := top_bit hs
  rw [h, top_bit ht] at h1
  have h2 : s % 2 = t % 2 := by
    by_cases q : t % 2 = 1
    · rw [decide_eq_true q] at h1
      have := of_decide_eq_true h1.symm
      omega
    · rw [decide_eq_false q] at h1
      have := of_decide_eq_false h1.symm
      omega
  unfold bitS at h
  rw [h2] at h
  have h3 : s / 2 = t / 2 := by
    split at h
    · exact xor_cancel h
    · exact h
  omega
theorem times_inj : ∀ (k : Nat) {s t : Nat}, s < 4294967296 → t < 4294967296 → times k s = times k t → s = t
  | 0, _, _, _, _, h => h
  | k + 1, _, _, hs, ht, h => times_inj k hs ht (bit_inj (times_lt hs k) (times_lt ht k) h)
theorem step_inj {s t c d : Nat} (hs : s < 4294967296) (ht : t < 4294967296) (hc : c < 256) (hd : d < 256) (h : stepS s c = stepS t d) : s ^^^ c = t ^^^ d :=
  times_inj 8 (xor_lt hs (by omega)) (xor_lt ht (by omega)) h
/-- A sum under way. -/
def crcF : Nat → List UInt8 → Nat
  | s, [] => s
  | s, c :: r => crcF (stepS s c.toNat) r
theorem crcF_append : ∀ (a b : List UInt8) (s : Nat), crcF s (a ++ b) = crcF (crcF s a) b
  | [], _, _ => rfl
  | _ :: a, b, _ => crcF_append a b _
theorem crcF_snoc (s : Nat) (a : List UInt8) (c : UInt8) : crcF s (a ++ [c]) = stepS (crcF s a) c.toNat := crcF_append a [c] s
theorem crcF_lt : ∀ (l : List UInt8) {s : Nat}, s < 4294967296 → crcF s l < 4294967296
  | [], _, h => h
  | c :: r, _, h => crcF_lt r (step_lt h c.toNat_lt)
theorem crcF_inj : ∀ (l : List UInt8) {s t : Nat}, s < 4294967296 → t < 4294967296 → crcF s l = crcF t l → s = t
  | [], _, _, _, _, h => h
  | c :: r, _, _, hs, ht, h => xor_cancel (step_inj hs ht c.toNat_lt c.toNat_lt (crcF_inj r (step_lt hs c.toNat_lt) (step_lt ht c.toNat_lt) h))
theorem crcF_other (p q : List UInt8) (c d : UInt8) {s : Nat} (hs : s < 4294967296) (h : crcF s (p ++ c :: q) = crcF s (p ++ d :: q)) : c = d := by
  rw [crcF_append, crcF_append] at h
  have hp := crcF_lt p hs
  have h1 := crcF_inj q (step_lt hp c.toNat_lt) (step_lt hp d.toNat_lt) h
  have h2 := step_inj hp hp c.toNat_lt d.toNat_lt h1
  rw [Nat.xor_comm, Nat.xor_comm _ d.toNat] at h2
  exact UInt8.toNat_inj.1 (xor_cancel h2)
/-- The sum of bytes. -/
def crcP (l : List UInt8) : Nat := 4294967295 - crcF 4294967295 l
theorem crcP_lt (l : List UInt8) : crcP l < 4294967296 := by unfold crcP; omega
theorem max_xor {n : Nat} (h : n < 4294967296) : 4294967295 ^^^ n = 4294967295 - n := by
  apply Nat.eq_of_testBit_eq
  intro i
  have e : 4294967295 - n = 2 ^ 32 - (n + 1) := by omega
  rw [e, Nat.testBit_two_pow_sub_succ h, Nat.testBit_xor, show (4294967295 : Nat) = 2 ^ 32 - 1 from rfl, Nat.testBit_two_pow_sub_one]
  by_cases hi : i < 32
  · simp [hi]
  · have : n.testBit i = false := Nat.testBit_lt_two_pow (Nat.lt_of_lt_of_le h (Nat.pow_le_pow_right (n := 2) (by decide) (show 32 ≤ i by omega)))
    simp [hi, this]
/-- A sum's bytes. -/
def tailP (n : Nat) : List UInt8 := [UInt8.ofNat (n % 256), UInt8.ofNat (n / 256 % 256), UInt8.ofNat (n / 65536 % 256), UInt8.ofNat (n / 16777216 % 256)]
theorem tail_len (n : Nat) : (tailP n).length = 4 := rfl
theorem ofNat_inj {a b : Nat} (ha : a < 256) (hb : b < 256) (h : UInt8.ofNat a = UInt8.ofNat b) : a = b := by
  have := congrArg UInt8.toNat h
  rw [UInt8.toNat_ofNat', UInt8.toNat_ofNat'] at this
  omega
theorem tail_inj {n m : Nat} (hn : n < 4294967296) (hm : m < 4294967296) (h : tailP n = tailP m) : n = m := by
  simp only [tailP, List.cons.injEq, and_true] at h
  obtain ⟨h0, h1, h2, h3⟩ := h
  have h0 := ofNat_inj (by omega) (by omega) h0
  have h1 := ofNat_inj (by omega) (by omega) h1
  have h2 := ofNat_inj (by omega) (by omega) h2
  have h3 := ofNat_inj (by omega) (by omega) h3
  omega
/-- Bytes of a kind, with their sum behind. -/
def sealP (k : UInt8) (l : List UInt8) : List UInt8 := k :: l ++ tailP (crcP (k :: l))
theorem seal_len (k : UInt8) (l : List UInt8) : (sealP k l).length = l.length + 5 := by simp [sealP, tail_len]
/-- Opening's error. -/
def openE (b : List UInt8) : Nat :=
  if b.length < 5 then 12 else
  if tailP (crcP (b.take (b.length - 4))) ≠ b.drop (b.length - 4) then 11 else
  if b.head? = some 0 then 1 else
  if 1048577 < b.length - 4 then 2 else 0
/-- What lies within. -/
def openD (b : List UInt8) : List UInt8 := (b.take (b.length - 4)).drop 1
/-- A message's frame; the message of a frame. -/
def sealM (m : Msg) : List UInt8 := if 1048576 < (encM m).length then [] else sealP 109 (encM m)
def openM (b : List UInt8) : Option Msg := if openE b ≠ 0 ∨ b.head? ≠ some 109 then none else decM (openD b)

theorem encEs_small : ∀ (es : List Ent), (∀ e ∈ es, okE e) → (encEs es).length ≤ 4222 * es.length
  | [], _ => by simp [encEs]
  | e :: r, h => by
    have h1 := encE_small e (h e (by simp))
    have h2 := bB_len (encE e) (by omega)
    have h3 := encEs_small r (fun x hx => h x (by simp [hx]))
    simp only [encEs, List.length_append, List.length_cons]
    omega
theorem encM_len (m : Msg) (hd : m.d.length < 18446744073709551616) (he : m.es.length < 18446744073709551616) : (encM m).length ≤ 243 + m.d.length + (encEs m.es).length := by
  have h0 := uB_len _ (u64_lt m.kd)
  have h1 := uB_len _ (u64_lt m.fr)
  have h2 := uB_len _ (u64_lt m.to)
  have h3 := uB_len _ (u64_lt m.tm)
  have h4 := uB_len _ (u64_lt m.ix)
  have h5 := uB_len _ (u64_lt m.lt)
  have h6 := uB_len _ (u64_lt m.cm)
  have h7 := uB_len _ (u64_lt m.ro)
  have h8 := uB_len _ (u64_lt m.off)
  have h9 := uB_len _ he
  have ha := bB_len m.d hd
  have hb : (tB m.ok).length = 1 := rfl
  unfold encM
  simp only [List.length_append]
  omega
theorem encM_small (m : Msg) (h : mayM m) : (encM m).length ≤ 300000 := by
  obtain ⟨_, _, hd, he, hes⟩ := h
  have h1 := encM_len m (by omega) (by omega)
  have h2 := encEs_small m.es hes
  omega
theorem sealM_may (m : Msg) (h : mayM m) : sealM m = sealP 109 (encM m) := by
  have := encM_small m h
  unfold sealM
  rw [if_neg (by omega)]
theorem open_seal (l : List UInt8) (h : l.length ≤ 1048576) : openE (sealP 109 l) = 0 ∧ openD (sealP 109 l) = l ∧ (sealP 109 l).head? = some 109 := by
  have e4 : (sealP 109 l).length - 4 = (109 :: l).length := by rw [seal_len]; simp
  have e1 : (sealP 109 l).take ((sealP 109 l).length - 4) = 109 :: l := by rw [e4, sealP, List.take_left]
  have e2 : (sealP 109 l).drop ((sealP 109 l).length - 4) = tailP (crcP (109 :: l)) := by rw [e4, sealP, List.drop_left]
  refine ⟨?_, by unfold openD; rw [e1]; rfl, rfl⟩
  unfold openE
  rw [if_neg (by rw [seal_len]; omega), e1, e2, if_neg (by simp), if_neg (by simp [sealP]), if_neg (by rw [seal_len]; omega)]
theorem openM_sealM (m : Msg) (h : mayM m) : openM (sealM m) = some m := by
  obtain ⟨h1, h2, h3⟩ := open_seal (encM m) (by have := encM_small m h; omega)
  unfold openM
  rw [sealM_may m h, h1, h2, h3, if_neg (by simp), decM_fwd m h]
theorem openM_data {b : List UInt8} (h : decM (openD b) = none) : openM b = none := by
  unfold openM
  split
  · rfl
  · exact h
theorem openM_more (m : Msg) (h : mayM m) (c : UInt8) : openM (sealM m ++ [c]) = none := by
  apply openM_data
  obtain ⟨n, hn⟩ : ∃ n, n = crcP (109 :: encM m) := ⟨_, rfl⟩
  have e : openD (sealM m ++ [c]) = encM m ++ [UInt8.ofNat (n % 256)] := by
    unfold openD
    have e1 : (sealM m ++ [c]).length - 4 = (109 :: encM m ++ [UInt8.ofNat (n % 256)]).length := by
      rw [sealM_may m h, List.length_append, seal_len]; simp
    have e2 : sealM m ++ [c] = (109 :: encM m ++ [UInt8.ofNat (n % 256)]) ++ [UInt8.ofNat (n / 256 % 256), UInt8.ofNat (n / 65536 % 256), UInt8.ofNat (n / 16777216 % 256), c] := by
      rw [sealM_may m h, sealP, ← hn, tailP]; simp
    rw [e1, e2, List.take_left]
    rfl
  rw [e]
  exact decM_more m h _ (by simp)
theorem openM_cut (m : Msg) (h : mayM m) (i : Nat) (hi : i < (sealM m).length) : openM ((sealM m).take i) = none := by
  have hl : (sealM m).length = (encM m).length + 5 := by rw [sealM_may m h, seal_len]
  by_cases h5 : i < 5
  · have e : openE ((sealM m).take i) = 12 := by
      unfold openE
      rw [if_pos (by rw [List.length_take]; omega)]
    unfold openM
    rw [if_pos (.inl (by rw [e]; decide))]
  · apply openM_data
    obtain ⟨j, rfl⟩ : ∃ j, i = j + 5 := ⟨i - 5, by omega⟩
    have hj : j < (encM m).length := by omega
    have e : openD ((sealM m).take (j + 5)) = (encM m).take j := by
      unfold openD
      rw [List.length_take, List.take_take, show min (min (j + 5) (sealM m).length - 4) (j + 5) = j + 1 from by omega, sealM_may m h, sealP, List.cons_append, List.take_succ_cons, List.drop_succ_cons, List.drop_zero, List.take_append_of_le_length (by omega)]
    rw [e]
    exact decM_cut m h _ ((encM m).drop j) (List.take_append_drop _ _).symm (by
      intro q
      have := congrArg List.length q
      simp at this
      omega)
theorem openM_spoilt (m : Msg) (h : mayM m) (p q : List UInt8) (c d : UInt8) (hb : sealM m = p ++ c :: q) (hcd : c ≠ d) : openM (p ++ d :: q) = none := by
  have hl : (sealM m).length = (encM m).length + 5 := by rw [sealM_may m h, seal_len]
  have hl2 : (p ++ d :: q).length = (encM m).length + 5 := by rw [← hl, hb]; simp
  obtain ⟨h1, _⟩ := open_seal (encM m) (by have := encM_small m h; omega)
  rw [← sealM_may m h] at h1
  have key : openE (p ++ d :: q) = 11 := by
    unfold openE at h1 ⊢
    rw [if_neg (by omega)] at h1
    rw [hl] at h1
    rw [if_neg (by omega), hl2, if_pos]
    have h2 : tailP (crcP ((sealM m).take ((encM m).length + 5 - 4))) = (sealM m).drop ((encM m).length + 5 - 4) := by
      by_cases q : tailP (crcP ((sealM m).take ((encM m).length + 5 - 4))) = (sealM m).drop ((encM m).length + 5 - 4)
      · exact q
      · rw [if_pos q] at h1; cases h1
    rw [hb] at h2 hl
    generalize (encM m).length + 5 - 4 = n at h2 ⊢
    intro h3
    by_cases hn : n ≤ p.length
    · rw [List.take_append_of_le_length hn, List.drop_append_of_le_length hn] at h2 h3
      have := h2.symm.trans h3
      have := List.append_cancel_left this
      simp at this
      exact hcd this
    · obtain ⟨k, rfl⟩ : ∃ k, n = p.length + (k + 1) := ⟨n - p.length - 1, by omega⟩
      have t1 : ∀ x : UInt8, (p ++ x :: q).take (p.length + (k + 1)) = p ++ x :: q.take k := fun x => by rw [List.take_length_add_append]; rfl
      have t2 : ∀ x : UInt8, (p ++ x :: q).drop (p.length + (k + 1)) = q.drop k := fun x => by rw [List.drop_length_add_append]; rfl
      rw [t1, t2] at h2 h3
      have h4 := tail_inj (crcP_lt _) (crcP_lt _) (h2.trans h3.symm)
      have a1 := crcF_lt (p ++ c :: q.take k) (s := 4294967295) (by decide)
      have a2 := crcF_lt (p ++ d :: q.take k) (s := 4294967295) (by decide)
      unfold crcP at h4
      exact hcd (crcF_other p (q.take k) c d (s := 4294967295) (by decide) (by omega))
  unfold openM
  rw [if_pos (.inl (by rw [key]; decide))]
end Go.Proofs.YtbgockggbpmhnaaGreatDoor.PK
