/-
  A tree of nodes, in plain Lean: the way to a root, what lies below a node, sums over a tree down the children and over all that lies below. No program.
-/
import GoSem.Core.Value
namespace Go.Proofs.YtkanjdijmdjbaaaGreatDoor.QT

abbrev Str := List UInt8
structure Nd where
  nm : Str
  pr : Str
  o1 : Nat
  o2 : Nat
  b1 : Nat
  b2 : Nat
  l1 : Nat
  l2 : Nat
deriving DecidableEq
structure Us where
  id : Str
  nd : Str
  a1 : Nat
  a2 : Nat
deriving DecidableEq

/-! ### sums over a list -/
def S {α : Type} (l : List α) (F : α → Nat) : Nat := (l.map F).sum
theorem S_nil {α : Type} (F : α → Nat) : S [] F = 0 := rfl
theorem S_cons {α : Type} (x : α) (l : List α) (F : α → Nat) : S (x :: l) F = F x + S l F := by simp [S]
theorem S_add {α : Type} (l : List α) (F G : α → Nat) : S l (fun x => F x + G x) = S l F + S l G := by
  induction l with
  | nil => rfl
  | cons x r ih => simp only [S_cons, ih]; omega
theorem S_congr {α : Type} {l : List α} {F G : α → Nat} (h : ∀ x ∈ l, F x = G x) : S l F = S l G := by
  induction l with
  | nil => rfl
  | cons x r ih => rw [S_cons, S_cons, h x (by simp), ih (fun y hy => h y (by simp [hy]))]
theorem S_zero {α : Type} (l : List α) : S l (fun _ => 0) = 0 := by
  induction l with
  | nil => rfl
  | cons x r ih => rw [S_cons, ih]
theorem S_swap {α β : Type} (l : List α) (m : List β) (F : α → β → Nat) : S l (fun x => S m (fun y => F x y)) = S m (fun y => S l (fun x => F x y)) := by
  induction l with
  | nil => simp only [S_nil]; exact (S_zero m).symm
  | cons x r ih => rw [S_cons, ih, ← S_add]; exact S_congr fun y _ => by rw [S_cons]
theorem S_filter {α : Type} (l : List α) (p : α → Bool) (F : α → Nat) : S (l.filter p) F = S l (fun x => if p x = true then F x else 0) := by
  induction l with
  | nil => rfl
  | cons x r ih =>
    rw [S_cons, List.filter_cons]
    by_cases h : p x = true
    · rw [if_pos h, if_pos h, S_cons, ih]
    · rw [if_neg h, if_neg h, ih]; omega
theorem S_mul {α : Type} (l : List α) (k : Nat) (F : α → Nat) : S l (fun x => k * F x) = k * S l F := by
  induction l with
  | nil => rfl
  | cons x r ih => rw [S_cons, S_cons, ih, Nat.mul_add]
theorem S_le {α : Type} {l : List α} {F G : α → Nat} (h : ∀ x ∈ l, F x ≤ G x) : S l F ≤ S l G := by
  induction l with
  | nil => exact Nat.le_refl _
  | cons x r ih =>
    have h1 := h x (by simp)
    have h2 := ih (fun y hy => h y (by simp [hy]))
    rw [S_cons, S_cons]; omega
theorem S_bound {α : Type} {l : List α} {F : α → Nat} {B : Nat} (h : ∀ x ∈ l, F x ≤ B) : S l F ≤ l.length * B := by
  induction l with
  | nil => simp [S]
  | cons x r ih =>
    have h1 := h x (by simp)
    have h2 := ih (fun y hy => h y (by simp [hy]))
    rw [S_cons, List.length_cons, Nat.add_mul]; omega

/-! ### finding -/
def find (N : List Nd) (s : Str) : Option Nd := N.find? fun n => n.nm == s
/-- No two nodes of a name, no node without one. -/
structure Uniq (N : List Nd) : Prop where
  ne : ∀ n ∈ N, n.nm ≠ []
  un : ∀ a ∈ N, ∀ b ∈ N, a.nm = b.nm → a = b
  nd : N.Nodup
theorem find_mem {N : List Nd} {s : Str} {n : Nd} (h : find N s = some n) : n ∈ N ∧ n.nm = s := by
  unfold find at h
  exact ⟨List.mem_of_find?_eq_some h, by simpa using List.find?_some h⟩
theorem find_of {N : List Nd} (U : Uniq N) {n : Nd} (h : n ∈ N) : find N n.nm = some n := by
  cases hf : find N n.nm with
  | none =>
    unfold find at hf
    have := List.find?_eq_none.1 hf n h
    simp at this
  | some m =>
    obtain ⟨h1, h2⟩ := find_mem hf
    rw [U.un m h1 n h h2]
theorem find_nil {N : List Nd} (U : Uniq N) : find N [] = none := by
  cases hf : find N [] with
  | none => rfl
  | some m => obtain ⟨h1, h2⟩ := find_mem hf; exact absurd h2 (U.ne m h1)
/-- One node has a name: a sum over the nodes of that name is its. -/
theorem S_one {N : List Nd} (U : Uniq N) {n : Nd} (h : n ∈ N) (F : Nd → Nat) : S N (fun x => if x.nm = n.nm then F x else 0) = F n := by
  obtain ⟨ne, un, nd⟩ := U
  induction N with
  | nil => cases h
  | cons y r ih =>
    rw [S_cons]
    have hnd := List.nodup_cons.1 nd
    rcases List.mem_cons.1 h with rfl | h'
    · rw [if_pos rfl]
      have : S r (fun x => if x.nm = n.nm then F x else 0) = 0 := by
        refine Eq.trans (S_congr (G := fun _ => 0) fun x hx => ?_) (S_zero r)
        rw [if_neg]
        intro e
        have := un x (by simp [hx]) n (by simp) e
        subst this
        exact hnd.1 hx
      omega
    · rw [if_neg, ih h' (fun a ha => ne a (by simp [ha])) (fun a ha b hb => un a (by simp [ha]) b (by simp [hb])) hnd.2]
      · omega
      · intro e
        have := un y (by simp) n (by simp [h']) e
        subst this
        exact hnd.1 h'

/-! ### the way to a root -/
def dp (N : List Nd) : Nat → Str → Option Nat
  | 0, _ => none
  | k + 1, s => if s = [] then some 0 else match find N s with
    | none => none
    | some n => (dp N k n.pr).map (· + 1)
theorem dp_mono {N : List Nd} {k : Nat} : ∀ {s : Str} {d : Nat}, dp N k s = some d → ∀ j, k ≤ j → dp N j s = some d := by
  induction k with
  | zero => intro s d h; cases h
  | succ k ih =>
    intro s d h j hj
    obtain ⟨i, rfl⟩ : ∃ i, j = i + 1 := ⟨j - 1, by omega⟩
    unfold dp at h ⊢
    by_cases hs : s = []
    · rw [if_pos hs] at h ⊢; exact h
    · rw [if_neg hs] at h ⊢
      cases hf : find N s with
      | none => rw [hf] at h; cases h
      | some n =>
        rw [hf] at h
        simp only at h ⊢
        cases hd : dp N k n.pr with
        | none => rw [hd] at h; cases h
        | some e => rw [hd] at h; rw [ih hd i (by omega)]; exact h
theorem dp_tight {N : List Nd} {k : Nat} : ∀ {s : Str} {d : Nat}, dp N k s = some d → dp N (d + 1) s = some d := by
  induction k with
  | zero => intro s d h; cases h
  | succ k ih =>
    intro s d h
    unfold dp at h ⊢
    by_cases hs : s = []
    · rw [if_pos hs] at h ⊢; exact h
    · rw [if_neg hs] at h ⊢
      cases hf : find N s with
      | none => rw [hf] at h; cases h
      | some n =>
        rw [hf] at h
        simp only at h ⊢
        cases hd : dp N k n.pr with
        | none => rw [hd] at h; cases h
        | some e =>
          rw [hd] at h
          have := ih hd
          cases h
          rw [this]; rfl
theorem nodup_le : ∀ (l m : List Nat), l.Nodup → (∀ x ∈ l, x ∈ m) → l.length ≤ m.length
  | [], _, _, _ => Nat.zero_le _
  | x :: r, m, h, hs => by
    have h1 := List.nodup_cons.1 h
    have hx := hs x (by simp)
    have := nodup_le r (m.erase x) h1.2 (fun y hy => (List.mem_erase_of_ne (fun e => h1.1 (by rw [← e]; exact hy))).2 (hs y (by simp [hy])))
    rw [List.length_erase_of_mem hx] at this
    have : 0 < m.length := List.length_pos_of_mem hx
    rw [List.length_cons]; omega
/-- On the way there lies a node at each step. -/
theorem dp_steps {N : List Nd} {k : Nat} : ∀ {s : Str} {d : Nat}, dp N k s = some d → ∀ i, 1 ≤ i → i ≤ d → ∃ n ∈ N, dp N k n.nm = some i := by
  induction k with
  | zero => intro s d h; cases h
  | succ k ih =>
    intro s d h i h1 h2
    have h0 := h
    unfold dp at h
    by_cases hs : s = []
    · rw [if_pos hs] at h; cases h; omega
    · rw [if_neg hs] at h
      cases hf : find N s with
      | none => rw [hf] at h; cases h
      | some n =>
        rw [hf] at h
        simp only at h
        cases hd : dp N k n.pr with
        | none => rw [hd] at h; cases h
        | some e =>
          rw [hd] at h
          obtain ⟨m1, m2⟩ := find_mem hf
          have he : e + 1 = d := by simpa using h
          by_cases hi : i = d
          · exact ⟨n, m1, by rw [m2, hi]; exact h0⟩
          · obtain ⟨m, hm, hm2⟩ := ih hd i h1 (by omega)
            exact ⟨m, hm, dp_mono hm2 _ (by omega)⟩
theorem dp_le {N : List Nd} {k : Nat} {s : Str} {d : Nat} (h : dp N k s = some d) : d ≤ N.length := by
  have := nodup_le ((List.range d).map (· + 1)) (N.map fun n => (dp N k n.nm).getD 0) ?_ ?_
  · simpa using this
  · refine List.Pairwise.map _ (fun a b h => ?_) List.nodup_range
    omega
  · intro x hx
    obtain ⟨j, hj, rfl⟩ := List.mem_map.1 hx
    obtain ⟨n, hn, hd⟩ := dp_steps h (j + 1) (by omega) (by have := List.mem_range.1 hj; omega)
    exact List.mem_map.2 ⟨n, hn, by rw [hd]; rfl⟩
/-- All ways end: as the document asks it, of the nodes; as the program asks it, of their parents. -/
def rooted (N : List Nd) : Prop := ∀ n ∈ N, (dp N (N.length + 2) n.nm).isSome = true
theorem rooted_parents {N : List Nd} (U : Uniq N) : rooted N ↔ ∀ n ∈ N, (dp N (N.length + 2) n.pr).isSome = true := by
  constructor
  · intro h n hn
    have := h n hn
    unfold dp at this
    rw [if_neg (U.ne n hn), find_of U hn] at this
    simp only [Option.isSome_map] at this
    obtain ⟨d, hd⟩ := Option.isSome_iff_exists.1 this
    rw [dp_mono hd _ (by omega)]; rfl
  · intro h n hn
    obtain ⟨d, hd⟩ := Option.isSome_iff_exists.1 (h n hn)
    have hl := dp_le hd
    have ht := dp_mono (dp_tight hd) (N.length + 1) (by omega)
    unfold dp
    rw [if_neg (U.ne n hn), find_of U hn]
    simp only
    rw [ht]; rfl

/-! ### what lies below -/
def under (N : List Nd) : Nat → Str → Str → Bool
  | 0, _, _ => false
  | k + 1, s, t => if s = t then true else match find N s with
    | none => false
    | some n => under N k n.pr t
/-- The depth of a node. -/
def dd (N : List Nd) (s : Str) : Nat := (dp N (N.length + 2) s).getD 0
def un (N : List Nd) (s t : Str) : Bool := under N (N.length + 1) s t
theorem dd_step {N : List Nd} (U : Uniq N) (R : rooted N) {n : Nd} (h : n ∈ N) : dd N n.nm = dd N n.pr + 1 := by
  obtain ⟨d, hd⟩ := Option.isSome_iff_exists.1 ((rooted_parents U).1 R n h)
  have hl := dp_le hd
  have ht := dp_mono (dp_tight hd) (N.length + 1) (by omega)
  unfold dd
  rw [hd]
  have : dp N (N.length + 2) n.nm = some (d + 1) := by
    unfold dp
    rw [if_neg (U.ne n h), find_of U h]
    simp only
    rw [ht]; rfl
  rw [this]; rfl
theorem dd_le {N : List Nd} (s : Str) : dd N s ≤ N.length := by
  unfold dd
  cases h : dp N (N.length + 2) s with
  | none => exact Nat.zero_le _
  | some d => exact dp_le h
theorem under_fuel {N : List Nd} (U : Uniq N) (t : Str) {k : Nat} : ∀ {s : Str} {d : Nat}, dp N k s = some d → ∀ i j, d < i → d < j → under N i s t = under N j s t := by
  induction k with
  | zero => intro s d h; cases h
  | succ k ih =>
    intro s d h i j hi hj
    obtain ⟨i, rfl⟩ : ∃ a, i = a + 1 := ⟨i - 1, by omega⟩
    obtain ⟨j, rfl⟩ : ∃ a, j = a + 1 := ⟨j - 1, by omega⟩
    unfold under
    by_cases hst : s = t
    · rw [if_pos hst, if_pos hst]
    · rw [if_neg hst, if_neg hst]
      cases hf : find N s with
      | none => rfl
      | some n =>
        simp only
        unfold dp at h
        by_cases hs : s = []
        · rw [hs, find_nil U] at hf; cases hf
        · rw [if_neg hs, hf] at h
          simp only at h
          cases hd : dp N k n.pr with
          | none => rw [hd] at h; cases h
          | some e =>
            rw [hd] at h
            have he : e + 1 = d := by simpa using h
            exact ih hd i j (by omega) (by omega)
theorem un_refl (N : List Nd) (s : Str) : un N s s = true := by
  unfold un under
  rw [if_pos rfl]
theorem un_nil {N : List Nd} (U : Uniq N) {t : Str} (h : t ≠ []) : un N [] t = false := by
  unfold un under
  rw [if_neg (fun e => h e.symm), find_nil U]
theorem un_step {N : List Nd} (U : Uniq N) (R : rooted N) {n : Nd} (h : n ∈ N) (t : Str) : un N n.nm t = (decide (n.nm = t) || un N n.pr t) := by
  obtain ⟨d, hd⟩ := Option.isSome_iff_exists.1 ((rooted_parents U).1 R n h)
  have hs := dd_step U R h
  have hl := dd_le (N := N) n.nm
  have hdd : dd N n.pr = d := by unfold dd; rw [hd]; rfl
  have hu := under_fuel U t hd N.length (N.length + 1) (by omega) (by omega)
  unfold un
  rw [← hu]
  show under N (N.length + 1) n.nm t = _
  conv => lhs; unfold under
  by_cases e : n.nm = t
  · rw [if_pos e, decide_eq_true e]; rfl
  · rw [if_neg e, decide_eq_false e, find_of U h]; rfl
theorem parent_mem {N : List Nd} (U : Uniq N) (R : rooted N) {n : Nd} (h : n ∈ N) (hp : n.pr ≠ []) : ∃ p ∈ N, p.nm = n.pr := by
  have := (rooted_parents U).1 R n h
  unfold dp at this
  rw [if_neg hp] at this
  cases hf : find N n.pr with
  | none => rw [hf] at this; cases this
  | some m => exact ⟨m, find_mem hf⟩
theorem un_depth {N : List Nd} (U : Uniq N) (R : rooted N) {m : Nd} (hm : m ∈ N) : ∀ (k : Nat) (n : Nd), n ∈ N → dd N n.nm ≤ k → un N n.nm m.nm = true → n = m ∨ dd N m.nm < dd N n.nm := by
  intro k
  induction k with
  | zero => intro n hn hk; have := dd_step U R hn; omega
  | succ k ih =>
    intro n hn hk hu
    rw [un_step U R hn] at hu
    by_cases e : n.nm = m.nm
    · exact .inl (U.un n hn m hm e)
    · rw [decide_eq_false e, Bool.false_or] at hu
      by_cases hp : n.pr = []
      · rw [hp, un_nil U (U.ne m hm)] at hu; cases hu
      · obtain ⟨p, hpm, hpn⟩ := parent_mem U R hn hp
        have hs := dd_step U R hn
        rw [← hpn] at hu hs
        rcases ih p hpm (by omega) hu with rfl | h
        · exact .inr (by omega)
        · exact .inr (by omega)
theorem child_not {N : List Nd} (U : Uniq N) (R : rooted N) {t c : Nd} (ht : t ∈ N) (hc : c ∈ N) (h : c.pr = t.nm) : un N t.nm c.nm = false := by
  cases hu : un N t.nm c.nm with
  | false => rfl
  | true =>
    have hs := dd_step U R hc
    rw [h] at hs
    rcases un_depth U R hc _ t ht (Nat.le_refl _) hu with rfl | q <;> omega
/-- Of the children of a node one, and one alone, has below it what lies below the node. -/
theorem count {N : List Nd} (U : Uniq N) (R : rooted N) {t : Nd} (ht : t ∈ N) : ∀ (k : Nat) (n : Nd), n ∈ N → dd N n.nm ≤ k →
    S N (fun c => if c.pr = t.nm then (if un N n.nm c.nm = true then 1 else 0) else 0) = if un N n.nm t.nm = true ∧ n ≠ t then 1 else 0 := by
  intro k
  induction k with
  | zero => intro n hn hk; have := dd_step U R hn; omega
  | succ k ih =>
    intro n hn hk
    by_cases hnt : n = t
    · subst hnt
      rw [if_neg (fun h => h.2 rfl)]
      refine Eq.trans (S_congr (G := fun _ => 0) fun c hc => ?_) (S_zero N)
      by_cases h : c.pr = n.nm
      · rw [if_pos h, child_not U R ht hc h, if_neg (by simp)]
      · rw [if_neg h]
    · have hne : n.nm ≠ t.nm := fun e => hnt (U.un n hn t ht e)
      have hstep := un_step U R hn
      by_cases hp : n.pr = t.nm
      · rw [if_pos ⟨by rw [hstep, hp, un_refl, Bool.or_true], hnt⟩]
        refine Eq.trans (S_congr (G := fun c => if c.nm = n.nm then 1 else 0) fun c hc => ?_) (S_one U hn (fun _ => 1))
        by_cases h : c.pr = t.nm
        · rw [if_pos h, hstep, hp, child_not U R ht hc h, Bool.or_false]
          by_cases e : c.nm = n.nm
          · rw [if_pos e, if_pos (by rw [decide_eq_true e.symm])]
          · rw [if_neg e, if_neg (by rw [decide_eq_false (fun q => e q.symm)]; simp)]
        · rw [if_neg h, if_neg]
          intro e
          exact h (by rw [U.un c hc n hn e]; exact hp)
      · have key : ∀ c ∈ N, c.pr = t.nm → un N n.nm c.nm = un N n.pr c.nm := fun c hc h => by
          rw [hstep, decide_eq_false, Bool.false_or]
          intro e
          exact hp (by rw [U.un n hn c hc e]; exact h)
        have hnt2 : un N n.nm t.nm = un N n.pr t.nm := by rw [hstep, decide_eq_false hne, Bool.false_or]
        by_cases h0 : n.pr = []
        · rw [hnt2, h0, un_nil U (U.ne t ht), if_neg (by simp)]
          refine Eq.trans (S_congr (G := fun _ => 0) fun c hc => ?_) (S_zero N)
          by_cases h : c.pr = t.nm
          · rw [if_pos h, key c hc h, h0, un_nil U (U.ne c hc), if_neg (by simp)]
          · rw [if_neg h]
        · obtain ⟨p, hpm, hpn⟩ := parent_mem U R hn h0
          have hs := dd_step U R hn
          rw [← hpn] at hs
          have := ih p hpm (by omega)
          rw [hnt2, ← hpn]
          have e1 : (if un N p.nm t.nm = true ∧ p ≠ t then 1 else 0) = if un N p.nm t.nm = true ∧ n ≠ t then 1 else 0 := by
            have hpt : p ≠ t := fun e => hp (by rw [← hpn, e])
            simp [hnt, hpt]
          rw [← e1, ← this]
          refine S_congr fun c hc => ?_
          by_cases h : c.pr = t.nm
          · rw [if_pos h, if_pos h, key c hc h, hpn]
          · rw [if_neg h, if_neg h]

/-! ### sums down the children -/
def ts (N : List Nd) (here : Str → Nat) : Nat → Str → Nat
  | 0, _ => 0
  | k + 1, s => here s + S (N.filter fun c => c.pr == s) (fun c => ts N here k c.nm)
theorem ts_eq {N : List Nd} (U : Uniq N) (R : rooted N) (here : Str → Nat) : ∀ (k : Nat) (t : Nd), t ∈ N → N.length + 1 ≤ k + dd N t.nm →
    ts N here k t.nm = S N (fun n => if un N n.nm t.nm = true then here n.nm else 0) := by
  intro k
  induction k with
  | zero => intro t ht h; have := dd_le (N := N) t.nm; omega
  | succ k ih =>
    intro t ht h
    unfold ts
    rw [S_filter]
    have h1 : S N (fun c => if (c.pr == t.nm) = true then ts N here k c.nm else 0) = S N (fun n => here n.nm * (if un N n.nm t.nm = true ∧ n ≠ t then 1 else 0)) := by
      refine Eq.trans (S_congr (G := fun c => S N (fun n => here n.nm * (if c.pr = t.nm then (if un N n.nm c.nm = true then 1 else 0) else 0))) fun c hc => ?_) ?_
      · by_cases e : c.pr = t.nm
        · rw [if_pos (by simpa using e)]
          have hs := dd_step U R hc
          rw [e] at hs
          rw [ih c hc (by omega)]
          refine S_congr fun n _ => ?_
          rw [if_pos e]
          by_cases q : un N n.nm c.nm = true
          · rw [if_pos q, if_pos q, Nat.mul_one]
          · rw [if_neg q, if_neg q, Nat.mul_zero]
        · rw [if_neg (by simpa using e)]
          refine (Eq.trans (S_congr (G := fun _ => 0) fun n _ => ?_) (S_zero N)).symm
          rw [if_neg e, Nat.mul_zero]
      · rw [S_swap]
        refine S_congr fun n hn => ?_
        rw [S_mul, count U R ht _ n hn (Nat.le_refl _)]
    rw [h1, ← S_one U ht (fun n => here n.nm), ← S_add]
    refine S_congr fun n hn => ?_
    by_cases e : n = t
    · subst e
      rw [if_pos rfl, un_refl, if_pos rfl, if_neg (fun q => q.2 rfl), Nat.mul_zero, Nat.add_zero]
    · have hne : n.nm ≠ t.nm := fun q => e (U.un n hn t ht q)
      rw [if_neg hne, Nat.zero_add]
      by_cases q : un N n.nm t.nm = true
      · rw [if_pos ⟨q, e⟩, if_pos q, Nat.mul_one]
      · rw [if_neg (fun r => q r.1), if_neg q, Nat.mul_zero]

/-! ### the document's sums -/
def Total (N : List Nd) (f : Nd → Nat) (s : Str) : Nat := S (N.filter fun n => un N n.nm s) f
def Used (N : List Nd) (V : List Us) (g : Us → Nat) (s : Str) : Nat := S (V.filter fun u => un N u.nd s) g
def own (N : List Nd) (f : Nd → Nat) (s : Str) : Nat := match find N s with
  | none => 0
  | some n => f n
def here (V : List Us) (g : Us → Nat) (s : Str) : Nat := S (V.filter fun u => u.nd == s) g
theorem tot_eq {N : List Nd} (U : Uniq N) (R : rooted N) (f : Nd → Nat) (k : Nat) (t : Nd) (ht : t ∈ N) (h : N.length + 1 ≤ k + dd N t.nm) : ts N (own N f) k t.nm = Total N f t.nm := by
  rw [ts_eq U R _ k t ht h]
  unfold Total
  rw [S_filter]
  refine S_congr fun n hn => ?_
  unfold own
  rw [find_of U hn]
theorem used_eq {N : List Nd} (U : Uniq N) (R : rooted N) (V : List Us) (hV : ∀ u ∈ V, ∃ n ∈ N, n.nm = u.nd) (g : Us → Nat) (k : Nat) (t : Nd) (ht : t ∈ N) (h : N.length + 1 ≤ k + dd N t.nm) : ts N (here V g) k t.nm = Used N V g t.nm := by
  rw [ts_eq U R _ k t ht h]
  unfold Used
  rw [S_filter]
  refine Eq.trans (S_congr (G := fun n => S V (fun u => if n.nm = u.nd then (if un N n.nm t.nm = true then g u else 0) else 0)) fun n _ => ?_) ?_
  · unfold here
    rw [S_filter]
    by_cases q : un N n.nm t.nm = true
    · rw [if_pos q]
      refine S_congr fun u _ => ?_
      by_cases e : n.nm = u.nd
      · rw [if_pos (by simpa using e.symm), if_pos e, if_pos q]
      · rw [if_neg (by simpa using fun r : u.nd = n.nm => e r.symm), if_neg e]
    · rw [if_neg q]
      refine (Eq.trans (S_congr (G := fun _ => 0) fun u _ => ?_) (S_zero V)).symm
      by_cases e : n.nm = u.nd
      · rw [if_pos e, if_neg q]
      · rw [if_neg e]
  · rw [S_swap]
    refine S_congr fun u hu => ?_
    obtain ⟨n, hn, e⟩ := hV u hu
    rw [← e]
    exact S_one U hn (fun x => if un N x.nm t.nm = true then g u else 0)
theorem un_trans {N : List Nd} (U : Uniq N) (R : rooted N) {a b : Nd} (ha : a ∈ N) (h : un N a.nm b.nm = true) : ∀ (k : Nat) (m : Nd), m ∈ N → dd N m.nm ≤ k → un N m.nm a.nm = true → un N m.nm b.nm = true := by
  intro k
  induction k with
  | zero => intro n hn hk; have := dd_step U R hn; omega
  | succ k ih =>
    intro m hm hk hu
    rw [un_step U R hm] at hu ⊢
    by_cases e : m.nm = a.nm
    · rw [← un_step U R hm, e]; exact h
    · rw [decide_eq_false e, Bool.false_or] at hu
      by_cases hp : m.pr = []
      · rw [hp, un_nil U (U.ne a ha)] at hu; cases hu
      · obtain ⟨p, hpm, hpn⟩ := parent_mem U R hm hp
        have hs := dd_step U R hm
        rw [← hpn] at hu hs
        rw [← hpn, ih p hpm (by omega) hu, Bool.or_true]
theorem total_mono {N : List Nd} (U : Uniq N) (R : rooted N) (f : Nd → Nat) {a b : Nd} (ha : a ∈ N) (h : un N a.nm b.nm = true) : Total N f a.nm ≤ Total N f b.nm := by
  unfold Total
  rw [S_filter, S_filter]
  refine S_le fun n hn => ?_
  by_cases q : un N n.nm a.nm = true
  · rw [if_pos q, if_pos (un_trans U R ha h _ n hn (Nat.le_refl _) q)]; exact Nat.le_refl _
  · rw [if_neg q]; exact Nat.zero_le _
theorem used_mono {N : List Nd} (U : Uniq N) (R : rooted N) (V : List Us) (hV : ∀ u ∈ V, ∃ n ∈ N, n.nm = u.nd) (g : Us → Nat) {a b : Nd} (ha : a ∈ N) (h : un N a.nm b.nm = true) : Used N V g a.nm ≤ Used N V g b.nm := by
  unfold Used
  rw [S_filter, S_filter]
  refine S_le fun u hu => ?_
  obtain ⟨n, hn, e⟩ := hV u hu
  rw [← e]
  by_cases q : un N n.nm a.nm = true
  · rw [if_pos q, if_pos (un_trans U R ha h _ n hn (Nat.le_refl _) q)]; exact Nat.le_refl _
  · rw [if_neg q]; exact Nat.zero_le _
/-- Each node lies below a root. -/
theorem root_above {N : List Nd} (U : Uniq N) (R : rooted N) : ∀ (k : Nat) (n : Nd), n ∈ N → dd N n.nm ≤ k → ∃ r ∈ N, r.pr = [] ∧ un N n.nm r.nm = true := by
  intro k
  induction k with
  | zero => intro n hn hk; have := dd_step U R hn; omega
  | succ k ih =>
    intro n hn hk
    by_cases hp : n.pr = []
    · exact ⟨n, hn, hp, un_refl N _⟩
    · obtain ⟨p, hpm, hpn⟩ := parent_mem U R hn hp
      have hs := dd_step U R hn
      rw [← hpn] at hs
      obtain ⟨r, h1, h2, h3⟩ := ih p hpm (by omega)
      exact ⟨r, h1, h2, by rw [un_step U R hn, ← hpn, h3, Bool.or_true]⟩
/-- No total and no used is too great: asked of the roots, as the program does, or of all nodes. -/
theorem fits_eq {N : List Nd} (U : Uniq N) (R : rooted N) (V : List Us) (hV : ∀ u ∈ V, ∃ n ∈ N, n.nm = u.nd) (f : Nd → Nat) (g : Us → Nat) (M : Nat) :
    (∀ r ∈ N, r.pr = [] → Total N f r.nm ≤ M ∧ Used N V g r.nm ≤ M) ↔ ∀ n ∈ N, Total N f n.nm ≤ M ∧ Used N V g n.nm ≤ M := by
  constructor
  · intro h n hn
    obtain ⟨r, h1, h2, h3⟩ := root_above U R _ n hn (Nat.le_refl _)
    have := h r h1 h2
    exact ⟨Nat.le_trans (total_mono U R f hn h3) this.1, Nat.le_trans (used_mono U R V hV g hn h3) this.2⟩
  · intro h r hr _
    exact h r hr
theorem total_bound (N : List Nd) (f : Nd → Nat) (s : Str) {B : Nat} (h : ∀ n ∈ N, f n ≤ B) : Total N f s ≤ N.length * B := by
  unfold Total
  refine Nat.le_trans (S_bound fun n hn => h n (List.mem_filter.1 hn).1) (Nat.mul_le_mul_right _ (List.length_filter_le _ _))
theorem used_bound (N : List Nd) (V : List Us) (g : Us → Nat) (s : Str) {B : Nat} (h : ∀ u ∈ V, g u ≤ B) : Used N V g s ≤ V.length * B := by
  unfold Used
  refine Nat.le_trans (S_bound fun n hn => h n (List.mem_filter.1 hn).1) (Nat.mul_le_mul_right _ (List.length_filter_le _ _))
end Go.Proofs.YtkanjdijmdjbaaaGreatDoor.QT
