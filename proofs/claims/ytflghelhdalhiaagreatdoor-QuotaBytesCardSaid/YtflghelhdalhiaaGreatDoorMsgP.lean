/-
  Messages and entries in plain Lean: what is laid is what is read, both ways; a begin of it, or more behind, is none. No program; no condition.
-/
import Derived.Test.YtflghelhdalhiaaGreatDoorG8
namespace Go.Proofs.YtflghelhdalhiaaGreatDoor.PK
open Go

/-! ### Digits, backwards -/
theorem dec_step (v d : Nat) (hv : 0 < v) (hd : d < 10) : Lib.decDigits (v * 10 + d) = Lib.decDigits v ++ [UInt8.ofNat (48 + d)] := by
  rw [Lib.decDigits, dif_neg (by omega)]
  have h1 : (v * 10 + d) / 10 = v := by omega
  have h2 : (v * 10 + d) % 10 = d := by omega
  rw [h1, h2]
theorem dval_pos : ∀ (l : List UInt8) (A : Nat), 0 < A → 0 < dval A l
  | [], _, h => h
  | c :: r, A, h => dval_pos r _ (by omega)
theorem dec_of (n : Nat) : ∀ (ds : List UInt8), ds.length = n → (∀ c ∈ ds, isD c = true) → ds ≠ [] → ¬ (1 < ds.length ∧ ds.head? = some 48) → Lib.decDigits (dval 0 ds) = ds := by
  induction n with
  | zero => intro ds h _ h2; exact absurd (List.eq_nil_of_length_eq_zero h) h2
  | succ n ih =>
    intro ds hl hd hne hz
    obtain ⟨t, c, rfl⟩ : ∃ t c, ds = t ++ [c] := ⟨ds.dropLast, ds.getLast hne, (List.dropLast_concat_getLast hne).symm⟩
    have hc := (isD_iff c).1 (hd c (by simp))
    have hc2 : UInt8.ofNat (48 + (c.toNat - 48)) = c := by
      apply UInt8.toNat_inj.1
      rw [UInt8.toNat_ofNat']; omega
    rw [dval_append]
    show Lib.decDigits (dval 0 t * 10 + (c.toNat - 48)) = t ++ [c]
    by_cases ht : t = []
    · subst ht
      show Lib.decDigits (0 * 10 + (c.toNat - 48)) = [c]
      rw [Nat.zero_mul, Nat.zero_add, Lib.decDigits_one (by omega), hc2]
    · obtain ⟨x, r, rfl⟩ := List.exists_cons_of_ne_nil ht
      have hx := (isD_iff x).1 (hd x (by simp))
      have hx0 : x.toNat ≠ 48 := by
        intro e
        apply hz
        refine ⟨by simp, ?_⟩
        simp
        exact UInt8.toNat_inj.1 e
      have hpos : 0 < dval 0 (x :: r) := by
        show 0 < dval (0 * 10 + (x.toNat - 48)) r
        exact dval_pos r _ (by omega)
      rw [dec_step _ _ hpos (by omega), hc2]
      rw [ih (x :: r) (by simpa using hl) (fun y hy => hd y (List.mem_append_left _ hy)) (by simp) (by
        rintro ⟨_, h2⟩
        simp at h2
        exact hx0 (by rw [h2]; rfl))]
theorem digs_back (s : UInt8) (l : List UInt8) (h : (digs s l).2.2 = 0) : l = Lib.decDigits (digs s l).1 ++ s :: l.drop ((digs s l).2.1 + 1) ∧ (Lib.decDigits (digs s l).1).length = (digs s l).2.1 := by
  obtain ⟨b1, b2, b3, b4, b5, b6, b7⟩ := digs_bounds s l h
  have hz : ¬ (1 < (digs s l).2.1 ∧ l.head? = some 48) := by
    unfold digs at h ⊢
    split at h
    · rename_i h0
      rw [if_pos h0]
      split at h
      · simp at h
      · rename_i h1
        rw [if_neg h1]
        simp only [not_or] at h1
        exact h1.2.1
    · rename_i h0
      exact absurd h h0
  generalize (digs s l).1 = n at *
  generalize (digs s l).2.1 = m at *
  have hd := dec_of m (l.take m) (by simp; omega) b5 (by intro e; have := congrArg List.length e; rw [List.length_take, List.length_nil] at this; omega) (by
    rintro ⟨q1, q2⟩
    apply hz
    refine ⟨by simp at q1; omega, ?_⟩
    rw [List.head?_take] at q2
    split at q2
    · omega
    · exact q2)
  rw [b6, hd]
  refine ⟨?_, by simp; omega⟩
  have e1 : l.drop m = s :: l.drop (m + 1) := by
    rw [List.drop_eq_getElem_cons b3]
    rw [List.getElem?_eq_getElem b3] at b7
    rw [Option.some.inj b7]
  calc l = l.take m ++ l.drop m := (List.take_append_drop m l).symm
    _ = _ := by rw [e1]
theorem num_back {lc s : UInt8} {l : List UInt8} {k : Nat} (h : (numP lc s 1 l k).2.2.1 = true) :
    k = 0 ∧ (numP lc s 1 l k).1 < 18446744073709551616 ∧ l = lc :: Lib.decDigits (numP lc s 1 l k).1 ++ s :: l.drop (numP lc s 1 l k).2.1 ∧ (numP lc s 1 l k).2.1 = (Lib.decDigits (numP lc s 1 l k).1).length + 2 ∧ (numP lc s 1 l k).2.1 ≤ l.length := by
  have hok := numP_ok h
  rcases numP_cases lc s 1 l k with ⟨e, he, _⟩ | ⟨h1, h2, h3, h4⟩
  · rw [he] at h; simp at h
  · obtain ⟨o1, o2, o3, o4, o5, o6, _⟩ := hok
    rw [h4] at o4 o5 ⊢
    obtain ⟨d1, d2⟩ := digs_back s _ h3
    cases l with
    | nil => simp at o6
    | cons c r =>
      simp at o6
      subst o6
      simp only [List.drop_succ_cons, List.drop_zero] at d1 d2 o4 o5 ⊢
      refine ⟨h1, o5, ?_, by omega, o4⟩
      rw [show 1 + (digs s r).2.1 = (digs s r).2.1 + 1 from Nat.add_comm _ _, List.cons_append]
      exact congrArg _ d1

/-! ### What is read, backwards -/
theorem uint_back {most : Nat} {l l' : List UInt8} {k v : Nat} (h : uintP most l k = (v, l', 0)) : k = 0 ∧ v ≤ most ∧ v < 18446744073709551616 ∧ l = uB v ++ l' := by
  unfold uintP at h
  split at h
  · rename_i h1
    rcases numP_cases 110 59 1 l k with ⟨e, he, _⟩ | ⟨_, _, _, h4⟩
    · rw [he] at h; simp at h
    · rw [h4] at h1; simp at h1
  · rename_i h1
    have hb := num_back (lc := 110) (s := 59) (l := l) (k := k) (by simpa using h1)
    split at h
    · simp at h
    · obtain ⟨b1, b2, b3, _, _⟩ := hb
      simp only [Prod.mk.injEq] at h
      obtain ⟨e1, e2, _⟩ := h
      rw [e1] at b2 b3
      rw [e2] at b3
      refine ⟨b1, by omega, b2, ?_⟩
      rw [b3]
      simp [uB]
theorem run_back {lc : UInt8} {most : Int} {l d l' : List UInt8} {k : Nat} (h : runP lc most l k = (d, l', 0)) : k = 0 ∧ (d.length : Int) ≤ most ∧ d.length < 18446744073709551616 ∧ l = lc :: Lib.decDigits d.length ++ [58] ++ d ++ l' := by
  unfold runP at h
  split at h
  · simp at h
  · split at h
    · rename_i h1
      rcases numP_cases lc 58 1 l k with ⟨e, he, _⟩ | ⟨_, _, _, h4⟩
      · rw [he] at h; simp at h
      · rw [h4] at h1; simp at h1
    · rename_i h1
      obtain ⟨b1, b2, b3, b4, b5⟩ := num_back (lc := lc) (s := 58) (l := l) (k := k) (by simpa using h1)
      split at h
      · simp at h
      · split at h
        · simp at h
        · generalize (numP lc 58 1 l k).1 = n at *
          generalize (numP lc 58 1 l k).2.1 = e at *
          simp only [Prod.mk.injEq] at h
          obtain ⟨e1, e2, _⟩ := h
          have hd : d.length = n := by rw [← e1]; simp; omega
          rw [hd]
          refine ⟨b1, by omega, b2, ?_⟩
          have : l.drop e = d ++ l' := by
            rw [← e1, ← e2, ← List.drop_drop, List.take_append_drop]
          rw [this] at b3
          rw [b3]
          simp
theorem run_bad {lc : UInt8} {most : Int} {l : List UInt8} {k : Nat} (h : (runP lc most l k).2.2 ≠ 0) : (runP lc most l k).1 = [] := by
  unfold runP at h ⊢
  split
  · rfl
  · split
    · rfl
    · split
      · rfl
      · split
        · rfl
        · rename_i h1 h2 h3 h4
          simp [h1, h2, h3, h4] at h
theorem bool_back {l l' : List UInt8} {k : Nat} {b : Bool} (h : boolP l k = (b, l', 0)) : k = 0 ∧ l = tB b ++ l' := by
  unfold boolP at h
  split at h
  · simp at h; omega
  · rename_i hk
    split at h
    · rename_i hb; simp at h; omega
    · rename_i hb
      cases l with
      | nil => simp [begP] at hb
      | cons c r =>
        simp [begP] at hb
        simp at h
        obtain ⟨e1, e2⟩ := h
        refine ⟨by omega, ?_⟩
        by_cases hc : c = 121
        · subst hc; simp at e1; subst e1; simp [tB, e2]
        · have hc2 := hb hc
          subst hc2; simp at e1; subst e1; simp [tB, e2]
theorem count_back {most : Int} {l l' : List UInt8} {k n : Nat} (h : countP most l k = (n, l', 0)) : k = 0 ∧ n ≤ most.toNat ∧ n < 18446744073709551616 ∧ n ≤ l'.length ∧ l = uB n ++ l' := by
  unfold countP at h
  split at h
  · simp at h; omega
  · split at h
    · simp at h
    · rename_i h1 h2
      rw [h] at h2
      obtain ⟨b1, b2, b3, b4⟩ := uint_back h
      exact ⟨b1, b2, b3, by simp at h2; exact h2, b4⟩

/-! ### What is laid, read -/
theorem uint_fwd {u most : Nat} (hu : u < 18446744073709551616) (hm : u ≤ most) (r : List UInt8) : uintP most (uB u ++ r) 0 = (u, r, 0) := uint_full u most hu hm r
theorem run_fwd {d : List UInt8} {most : Int} (hd : d.length < 18446744073709551616) (hm : (d.length : Int) ≤ most) (r : List UInt8) : runP 98 most (bB d ++ r) 0 = (d, r, 0) := by
  have := run_full 98 d r most hd hm
  rw [Lib.itoa_nonneg] at this
  exact this
theorem bool_fwd (b : Bool) (r : List UInt8) : boolP (tB b ++ r) 0 = (b, r, 0) := bool_full b r
theorem count_fwd {n : Nat} {most : Int} (hn : n < 18446744073709551616) (hm : n ≤ most.toNat) (r : List UInt8) (hr : n ≤ r.length) : countP most (uB n ++ r) 0 = (n, r, 0) := by
  unfold countP
  rw [uint_fwd hn hm]
  simp only [ne_eq, not_true_eq_false, if_false]
  rw [if_neg (by omega)]

/-! ### An entry -/
/-- May an entry be? -/
def okE (e : Ent) : Prop := (1 ≤ e.i ∧ e.i ≤ 1099511627776) ∧ (1 ≤ e.t ∧ e.t ≤ 1099511627776) ∧ (0 ≤ e.k ∧ e.k ≤ 2) ∧ e.d.length ≤ 4096
instance (e : Ent) : Decidable (okE e) := by unfold okE; infer_instance
theorem u64_nat (v : Nat) (h : v < 18446744073709551616) : u64 (v : Int) = v := by unfold u64; omega
theorem u64_of (n : Int) (h : 0 ≤ n) (h' : n < 18446744073709551616) : ((u64 n : Nat) : Int) = n := by unfold u64; omega
theorem readE_fwd (e : Ent) (h : okE e) (q : List UInt8) : readE (encE e ++ q) = (e, q, 0) := by
  obtain ⟨i, t, k, d⟩ := e
  obtain ⟨⟨h1, h2⟩, ⟨h3, h4⟩, ⟨h5, h6⟩, h7⟩ := h
  simp only at h1 h2 h3 h4 h5 h6 h7
  have e1 := u64_of i (by omega) (by omega)
  have e2 := u64_of t (by omega) (by omega)
  have e3 := u64_of k (by omega) (by omega)
  unfold readE encE
  simp only [List.append_assoc]
  rw [uint_fwd (u64_lt i) (by omega)]
  simp only
  rw [uint_fwd (u64_lt t) (by omega)]
  simp only
  rw [uint_fwd (u64_lt k) (by omega)]
  simp only
  rw [run_fwd (by omega) (by omega), e1, e2, e3]
theorem decE_fwd (e : Ent) (h : okE e) : decE (encE e) = some e := by
  have h1 := readE_fwd e h []
  rw [List.append_nil] at h1
  unfold decE
  rw [h1]
  obtain ⟨⟨h1, h2⟩, ⟨h3, h4⟩, _⟩ := h
  simp only [doneP_zero]
  rw [if_neg (by omega)]
theorem decE_back {l : List UInt8} {e : Ent} (h : decE l = some e) : l = encE e ∧ okE e := by
  unfold decE readE at h
  obtain ⟨v1, l1, k1, hp1⟩ : ∃ v1 l1 k1, uintP 1099511627776 l 0 = (v1, l1, k1) := ⟨_, _, _, rfl⟩
  obtain ⟨v2, l2, k2, hp2⟩ : ∃ v2 l2 k2, uintP 1099511627776 l1 k1 = (v2, l2, k2) := ⟨_, _, _, rfl⟩
  obtain ⟨v3, l3, k3, hp3⟩ : ∃ v3 l3 k3, uintP 2 l2 k2 = (v3, l3, k3) := ⟨_, _, _, rfl⟩
  obtain ⟨d, l4, k4, hp4⟩ : ∃ d l4 k4, runP 98 4096 l3 k3 = (d, l4, k4) := ⟨_, _, _, rfl⟩
  simp only [hp1, hp2, hp3, hp4] at h
  split at h
  · simp at h
  · rename_i hn
    simp only [not_or] at hn
    obtain ⟨n1, n2, n3⟩ := hn
    have hk4 : k4 = 0 := by unfold doneP at n1; split at n1 <;> omega
    have hl4 : l4 = [] := by
      unfold doneP at n1
      by_cases q : l4 = []
      · exact q
      · rw [if_pos ⟨hk4, q⟩] at n1; omega
    subst hk4 hl4
    obtain ⟨rfl, c1, c2, c3⟩ := run_back hp4
    obtain ⟨rfl, d1, d2, d3⟩ := uint_back hp3
    obtain ⟨rfl, f1, f2, f3⟩ := uint_back hp2
    obtain ⟨_, g1, g2, g3⟩ := uint_back hp1
    have he := (Option.some.inj h).symm
    subst he
    refine ⟨?_, ⟨by simp only; omega, by simp only; omega⟩, ⟨by simp only; omega, by simp only; omega⟩, ⟨by simp only; omega, by simp only; omega⟩, by simp only; omega⟩
    unfold encE
    simp only
    rw [u64_nat v1 g2, u64_nat v2 f2, u64_nat v3 d2, g3, f3, d3, c3]
    simp [bB]
theorem decE_nil : decE [] = none := by
  cases h : decE [] with
  | none => rfl
  | some e =>
    have := (decE_back h).1
    unfold encE uB at this
    simp at this

/-! ### A message -/
structure Msg where
  kd : Int
  fr : Int
  to : Int
  tm : Int
  ix : Int
  lt : Int
  cm : Int
  ro : Int
  ok : Bool
  off : Int
  d : List UInt8
  es : List Ent
def in01 (lo hi n : Int) : Prop := lo ≤ n ∧ n ≤ hi
instance (lo hi n : Int) : Decidable (in01 lo hi n) := by unfold in01; infer_instance
/-- May a message be? -/
def mayM (m : Msg) : Prop :=
  (in01 1 6 m.kd ∧ in01 1 64 m.fr ∧ in01 1 64 m.to ∧ m.fr ≠ m.to) ∧ (in01 1 1099511627776 m.tm ∧ in01 0 1099511627776 m.ix ∧ in01 0 1099511627776 m.lt ∧ in01 0 1099511627776 m.cm ∧ in01 0 1099511627776 m.ro ∧ in01 0 1099511627776 m.off) ∧
    m.d.length ≤ 4096 ∧ m.es.length ≤ 64 ∧ ∀ e ∈ m.es, okE e
instance (m : Msg) : Decidable (mayM m) := by unfold mayM; infer_instance
/-- Entries as laid. -/
def encEs : List Ent → List UInt8
  | [] => []
  | e :: r => bB (encE e) ++ encEs r
theorem encEs_append (a b : List Ent) : encEs (a ++ b) = encEs a ++ encEs b := by
  induction a with
  | nil => rfl
  | cons e r ih => simp [encEs, ih]
def encM (m : Msg) : List UInt8 :=
  uB (u64 m.kd) ++ uB (u64 m.fr) ++ uB (u64 m.to) ++ uB (u64 m.tm) ++ uB (u64 m.ix) ++ uB (u64 m.lt) ++ uB (u64 m.cm) ++ uB (u64 m.ro) ++ tB m.ok ++ uB (u64 m.off) ++ bB m.d ++ uB m.es.length ++ encEs m.es
/-- Entries, so many: none, if one of them is none; else they, what is left, the error. -/
def readEs : Nat → List UInt8 → Nat → Option (List Ent × List UInt8 × Nat)
  | 0, l, k => some ([], l, k)
  | n + 1, l, k => (decE (runP 98 4200 l k).1).bind fun e => (readEs n (runP 98 4200 l k).2.1 (runP 98 4200 l k).2.2).map fun r => (e :: r.1, r.2)
theorem readEs_succ (n : Nat) (l : List UInt8) (k : Nat) : readEs (n + 1) l k = (decE (runP 98 4200 l k).1).bind fun e => (readEs n (runP 98 4200 l k).2.1 (runP 98 4200 l k).2.2).map fun r => (e :: r.1, r.2) := rfl
theorem encE_small (e : Ent) (h : okE e) : (encE e).length ≤ 4200 := by
  have := encE_len e (by have := h.2.2.2; omega)
  have := h.2.2.2
  omega
theorem readEs_none {n : Nat} {l : List UInt8} {k : Nat} (h : decE (runP 98 4200 l k).1 = none) : readEs (n + 1) l k = none := by
  rw [readEs_succ, h]; rfl
theorem readEs_some {n : Nat} {l : List UInt8} {k : Nat} {e : Ent} (h : decE (runP 98 4200 l k).1 = some e) : readEs (n + 1) l k = (readEs n (runP 98 4200 l k).2.1 (runP 98 4200 l k).2.2).map fun r => (e :: r.1, r.2) := by
  rw [readEs_succ, h]; rfl
theorem readEs_fwd (q : List UInt8) (es : List Ent) : (∀ e ∈ es, okE e) → readEs es.length (encEs es ++ q) 0 = some (es, q, 0) := by
  induction es with
  | nil => intro _; rfl
  | cons e r ih =>
    intro h
    have he := h e (by simp)
    have hs := encE_small e he
    have h2 : runP 98 4200 (encEs (e :: r) ++ q) 0 = (encE e, encEs r ++ q, 0) := by
      have e1 : encEs (e :: r) ++ q = bB (encE e) ++ (encEs r ++ q) := by rw [encEs, List.append_assoc]
      rw [e1]
      exact run_fwd (Nat.lt_of_le_of_lt hs (by decide)) (Int.ofNat_le.2 hs) _
    have h3 : decE (runP 98 4200 (encEs (e :: r) ++ q) 0).1 = some e := by rw [h2]; exact decE_fwd e he
    rw [List.length_cons, readEs_some h3, h2]
    simp only
    rw [ih (fun x hx => h x (List.mem_cons_of_mem _ hx))]
    rfl
theorem readEs_back (n : Nat) : ∀ (l : List UInt8) (k : Nat) (es : List Ent) (l' : List UInt8) (k' : Nat), readEs n l k = some (es, l', k') → es.length = n ∧ (∀ e ∈ es, okE e) ∧ (k' = 0 → k = 0) ∧ (k = 0 → k' = 0) ∧ l = encEs es ++ l' := by
  induction n with
  | zero =>
    intro l k es l' k' h
    change some (([] : List Ent), l, k) = some (es, l', k') at h
    simp only [Option.some.injEq, Prod.mk.injEq] at h
    obtain ⟨rfl, rfl, rfl⟩ := h
    exact ⟨rfl, (fun e he => absurd he (by simp)), id, id, rfl⟩
  | succ n ih =>
    intro l k es l' k' h
    obtain ⟨p, hp⟩ : ∃ p, runP 98 4200 l k = p := ⟨_, rfl⟩
    obtain ⟨d, l1, k1⟩ := p
    cases hd : decE d with
    | none => rw [readEs_none (by rw [hp]; exact hd)] at h; cases h
    | some e =>
      rw [readEs_some (e := e) (by rw [hp]; exact hd), hp] at h
      simp only at h
      have hk1 : k1 = 0 := by
        rcases Nat.eq_zero_or_pos k1 with q | q
        · exact q
        · have := run_bad (lc := 98) (most := 4200) (l := l) (k := k) (by rw [hp]; simp only; omega)
          rw [hp] at this
          simp only at this
          rw [this, decE_nil] at hd
          cases hd
      subst hk1
      obtain ⟨rfl, c1, c2, c3⟩ := run_back hp
      cases hr : readEs n l1 0 with
      | none => rw [hr] at h; cases h
      | some r =>
        obtain ⟨es1, l2, k2⟩ := r
        rw [hr] at h
        simp only [Option.map_some, Option.some.injEq, Prod.mk.injEq] at h
        obtain ⟨rfl, rfl, rfl⟩ := h
        obtain ⟨i1, i2, i3, i4, i5⟩ := ih l1 0 es1 l2 k2 hr
        obtain ⟨e1, e2⟩ := decE_back hd
        subst e1
        refine ⟨by rw [List.length_cons, i1], ?_, fun _ => rfl, i4, ?_⟩
        · intro x hx
          rcases List.mem_cons.1 hx with rfl | hx
          · exact e2
          · exact i2 x hx
        · rw [c3, i5, encEs, bB]
          simp only [List.append_assoc, List.cons_append]
/-- The head of a message: all but its entries, how many they are, what is left, the error. -/
def readH (l : List UInt8) : Msg × Nat × List UInt8 × Nat :=
  let a := uintP 1099511627776 l 0
  let b := uintP 1099511627776 a.2.1 a.2.2
  let c := uintP 1099511627776 b.2.1 b.2.2
  let d := uintP 1099511627776 c.2.1 c.2.2
  let e := uintP 1099511627776 d.2.1 d.2.2
  let f := uintP 1099511627776 e.2.1 e.2.2
  let g := uintP 1099511627776 f.2.1 f.2.2
  let h := uintP 1099511627776 g.2.1 g.2.2
  let i := boolP h.2.1 h.2.2
  let j := uintP 1099511627776 i.2.1 i.2.2
  let k := runP 98 4096 j.2.1 j.2.2
  let n := countP 64 k.2.1 k.2.2
  (⟨a.1, b.1, c.1, d.1, e.1, f.1, g.1, h.1, i.1, j.1, k.1, []⟩, n.1, n.2.1, n.2.2)
/-- The message of bytes, if they are one. -/
def decM (l : List UInt8) : Option Msg :=
  match readEs (readH l).2.1 (readH l).2.2.1 (readH l).2.2.2 with
  | none => none
  | some r => if doneP r.2.1 r.2.2 ≠ 0 ∨ ¬ mayM { (readH l).1 with es := r.1 } then none else some { (readH l).1 with es := r.1 }
theorem encEs_len (es : List Ent) : es.length ≤ (encEs es).length := by
  induction es with
  | nil => simp
  | cons e r ih => simp [encEs, bB]; omega
theorem readH_fwd (m : Msg) (h : mayM m) (q : List UInt8) : readH (encM m ++ q) = ({ m with es := [] }, m.es.length, encEs m.es ++ q, 0) := by
  obtain ⟨kd, fr, to, tm, ix, lt, cm, ro, ok, off, d, es⟩ := m
  obtain ⟨⟨⟨a1, a2⟩, ⟨b1, b2⟩, ⟨c1, c2⟩, _⟩, ⟨⟨d1, d2⟩, ⟨e1, e2⟩, ⟨f1, f2⟩, ⟨g1, g2⟩, ⟨h1, h2⟩, ⟨i1, i2⟩⟩, hd, hes, _⟩ := h
  simp only at a1 a2 b1 b2 c1 c2 d1 d2 e1 e2 f1 f2 g1 g2 h1 h2 i1 i2 hd hes
  have ea := u64_of kd (by omega) (by omega)
  have eb := u64_of fr (by omega) (by omega)
  have ec := u64_of to (by omega) (by omega)
  have ed := u64_of tm (by omega) (by omega)
  have ee := u64_of ix (by omega) (by omega)
  have ef := u64_of lt (by omega) (by omega)
  have eg := u64_of cm (by omega) (by omega)
  have eh := u64_of ro (by omega) (by omega)
  have ei := u64_of off (by omega) (by omega)
  have hl := encEs_len es
  unfold readH encM
  simp only [List.append_assoc]
  rw [uint_fwd (u64_lt kd) (by omega)]; simp only
  rw [uint_fwd (u64_lt fr) (by omega)]; simp only
  rw [uint_fwd (u64_lt to) (by omega)]; simp only
  rw [uint_fwd (u64_lt tm) (by omega)]; simp only
  rw [uint_fwd (u64_lt ix) (by omega)]; simp only
  rw [uint_fwd (u64_lt lt) (by omega)]; simp only
  rw [uint_fwd (u64_lt cm) (by omega)]; simp only
  rw [uint_fwd (u64_lt ro) (by omega)]; simp only
  rw [bool_fwd]; simp only
  rw [uint_fwd (u64_lt off) (by omega)]; simp only
  rw [run_fwd (by omega) (by omega)]; simp only
  rw [count_fwd (by omega) (by simp; omega) _ (by simp; omega), ea, eb, ec, ed, ee, ef, eg, eh, ei]
theorem decM_more (m : Msg) (h : mayM m) (q : List UInt8) (hq : q ≠ []) : decM (encM m ++ q) = none := by
  unfold decM
  rw [readH_fwd m h q]
  simp only
  rw [readEs_fwd q m.es h.2.2.2.2]
  simp only
  rw [if_pos (.inl (by simp [doneP, hq]))]
theorem decM_fwd (m : Msg) (h : mayM m) : decM (encM m) = some m := by
  have h1 := readH_fwd m h []
  have h2 := readEs_fwd [] m.es h.2.2.2.2
  rw [List.append_nil] at h1
  unfold decM
  rw [h1]
  simp only
  rw [h2]
  simp only
  rw [if_neg (by simp [doneP]; exact h)]
theorem decM_back {l : List UInt8} {m : Msg} (h : decM l = some m) : l = encM m ∧ mayM m := by
  unfold decM readH at h
  obtain ⟨v1, l1, k1, hp1⟩ : ∃ v l' k, uintP 1099511627776 l 0 = (v, l', k) := ⟨_, _, _, rfl⟩
  obtain ⟨v2, l2, k2, hp2⟩ : ∃ v l' k, uintP 1099511627776 l1 k1 = (v, l', k) := ⟨_, _, _, rfl⟩
  obtain ⟨v3, l3, k3, hp3⟩ : ∃ v l' k, uintP 1099511627776 l2 k2 = (v, l', k) := ⟨_, _, _, rfl⟩
  obtain ⟨v4, l4, k4, hp4⟩ : ∃ v l' k, uintP 1099511627776 l3 k3 = (v, l', k) := ⟨_, _, _, rfl⟩
  obtain ⟨v5, l5, k5, hp5⟩ : ∃ v l' k, uintP 1099511627776 l4 k4 = (v, l', k) := ⟨_, _, _, rfl⟩
  obtain ⟨v6, l6, k6, hp6⟩ : ∃ v l' k, uintP 1099511627776 l5 k5 = (v, l', k) := ⟨_, _, _, rfl⟩
  obtain ⟨v7, l7, k7, hp7⟩ : ∃ v l' k, uintP 1099511627776 l6 k6 = (v, l', k) := ⟨_, _, _, rfl⟩
  obtain ⟨v8, l8, k8, hp8⟩ : ∃ v l' k, uintP 1099511627776 l7 k7 = (v, l', k) := ⟨_, _, _, rfl⟩
  obtain ⟨v9, l9, k9, hp9⟩ : ∃ v l' k, boolP l8 k8 = (v, l', k) := ⟨_, _, _, rfl⟩
  obtain ⟨va, la, ka, hpa⟩ : ∃ v l' k, uintP 1099511627776 l9 k9 = (v, l', k) := ⟨_, _, _, rfl⟩
  obtain ⟨d, lb, kb, hpb⟩ : ∃ v l' k, runP 98 4096 la ka = (v, l', k) := ⟨_, _, _, rfl⟩
  obtain ⟨n, lc, kc, hpc⟩ : ∃ v l' k, countP 64 lb kb = (v, l', k) := ⟨_, _, _, rfl⟩
  simp only [hp1, hp2, hp3, hp4, hp5, hp6, hp7, hp8, hp9, hpa, hpb, hpc] at h
  cases hr : readEs n lc kc with
  | none => rw [hr] at h; simp at h
  | some r =>
    obtain ⟨es, l', k'⟩ := r
    rw [hr] at h
    simp only at h
    split at h
    · simp at h
    · rename_i hn
      simp only [not_or, Decidable.not_not] at hn
      obtain ⟨n1, n2⟩ := hn
      have hk : k' = 0 := by unfold doneP at n1; split at n1 <;> omega
      have hl : l' = [] := by
        unfold doneP at n1
        by_cases q : l' = []
        · exact q
        · rw [if_pos ⟨hk, q⟩] at n1; omega
      subst hk hl
      obtain ⟨s1, s2, s3, _, s5⟩ := readEs_back n lc kc es [] 0 hr
      obtain rfl := s3 rfl
      obtain ⟨rfl, _, _, _, c⟩ := count_back hpc
      obtain ⟨rfl, _, _, b⟩ := run_back hpb
      obtain ⟨rfl, _, ya, a⟩ := uint_back hpa
      obtain ⟨rfl, x9⟩ := bool_back hp9
      obtain ⟨rfl, _, y8, x8⟩ := uint_back hp8
      obtain ⟨rfl, _, y7, x7⟩ := uint_back hp7
      obtain ⟨rfl, _, y6, x6⟩ := uint_back hp6
      obtain ⟨rfl, _, y5, x5⟩ := uint_back hp5
      obtain ⟨rfl, _, y4, x4⟩ := uint_back hp4
      obtain ⟨rfl, _, y3, x3⟩ := uint_back hp3
      obtain ⟨rfl, _, y2, x2⟩ := uint_back hp2
      obtain ⟨_, _, y1, x1⟩ := uint_back hp1
      have he := (Option.some.inj h).symm
      subst he
      refine ⟨?_, n2⟩
      unfold encM
      simp only
      rw [u64_nat v1 y1, u64_nat v2 y2, u64_nat v3 y3, u64_nat v4 y4, u64_nat v5 y5, u64_nat v6 y6, u64_nat v7 y7, u64_nat v8 y8, u64_nat va ya, x1, x2, x3, x4, x5, x6, x7, x8, x9, a, b, c, s5, s1]
      simp [bB]
theorem decM_cut (m : Msg) (h : mayM m) (p q : List UInt8) (hp : encM m = p ++ q) (hq : q ≠ []) : decM p = none := by
  cases hd : decM p with
  | none => rfl
  | some x =>
    obtain ⟨e1, e2⟩ := decM_back hd
    have := decM_more x e2 q hq
    rw [← e1, ← hp, decM_fwd m h] at this
    cases this
end Go.Proofs.YtflghelhdalhiaaGreatDoor.PK
