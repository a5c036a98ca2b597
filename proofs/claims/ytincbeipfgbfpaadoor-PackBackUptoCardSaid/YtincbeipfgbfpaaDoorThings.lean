/-
  A slice of Things that came in, opened.
  No condition of its own.
-/
import Derived.Test.YtincbeipfgbfpaaDoorOpen
import Derived.Deep.Slices
import Derived.Deep.Fields
import Derived.ChangeSame
namespace Go.Proofs.YtincbeipfgbfpaaDoor
open Go Go.ChangeShapes Go.WideShapes Go.ChangeAt Go.RowKit Go.Joins Go.Deep

section
variable {H : Type} {enc : TypeId × Value → H} {P : Program} {w : World} {base : Nat} {spare : Nat → Bool} {held : Bool}
theorem open_slice_fields {t e : TypeId} {fs : Array Field} {fuel : Nat} {cs : List Value} {x : DataW H × List MemPlace} (ht : P.underlying t = some (.slice e)) (he : P.underlying e = some (.struct fs))
    (hone : oneCellFields P fs = true) (hC : P.cellsOf e = fs.size) (h : DataW.trod enc P w base spare held fuel t cs = some x) :
    (cs = [.slice none 0 0] ∧ x = (.nil, [])) ∨
    ∃ (a : Addr) (len cap m : Nat) (D : Nat → DataW H) (Pl : Nat → List MemPlace), cs = [.slice (some a) len cap] ∧ base ≤ a.block ∧ len ≤ cap ∧ cap ≤ maxLen ∧ m = (if spare a.block then cap else len) ∧
      x = (.slice ((List.range len).map D) ((List.range (m - len)).map fun j => D (len + j)), MemPlace.row a (m * fs.size) ++ (List.range m).flatMap Pl) ∧
      ∀ i, i < m → ∃ (ys : List (DataW H × List MemPlace)) (n : Nat), D i = .agg (ys.map (·.1)) ∧ Pl i = ys.flatMap (·.2) ∧ ys.length = fs.size ∧
        ∀ (j : Nat) (f : Field), fs[j]? = some f → ∃ (v : Value) (y : DataW H × List MemPlace), w.cell? (a.add (i * fs.size + j)) = some v ∧ ys[j]? = some y ∧ DataW.trod enc P w base spare held n f.type [v] = some y := by
  rcases open_slice ht h with h0 | ⟨a, len, cap, m, n, D, Pl, hcs, hb, hl, hm, hmm, hx, hi⟩
  · exact .inl h0
  · refine .inr ⟨a, len, cap, m, D, Pl, hcs, hb, hl, hm, hmm, by rw [hC] at hx; exact hx, fun i him => ?_⟩
    obtain ⟨cs', hc, ht'⟩ := hi i him
    rw [hC] at hc
    obtain ⟨ys, n', hn', hy, hlen, hyl, hf⟩ := DataW.trod_struct he ht'
    obtain ⟨_, hcl, hat⟩ := World.cells?_some hc
    simp only [Prod.mk.injEq] at hy
    refine ⟨ys, n', hy.1, hy.2, hyl, fun j f hj => ?_⟩
    obtain ⟨ho, hk⟩ := hone_of hone j f hj
    have hjl : j < fs.size := (Array.getElem?_eq_some_iff.1 hj).1
    have hcell := hat j hjl
    have hv : cs'[j]? = some (cs'[j]'(by omega)) := List.getElem?_eq_getElem (by omega)
    have h1 := hf j f hj
    rw [ho, hk] at h1
    have hone' : (cs'.drop j).take 1 = [cs'[j]'(by omega)] := by
      rw [List.drop_eq_getElem_cons (by omega)]
      rfl
    rw [hone'] at h1
    have hys : ys[j]? = some (ys[j]'(by omega)) := List.getElem?_eq_getElem (by omega)
    refine ⟨_, _, ?_, hys, h1.trans hys⟩
    rw [← Go.Deep.add_add, hcell, hv]
end

/-- What is at each place, chosen. -/
theorem list_choice {α : Type} {p : Nat → α → Prop} : ∀ (n : Nat), (∀ i, i < n → ∃ x, p i x) → ∃ xs : List α, xs.length = n ∧ ∀ (i : Nat) (x : α), xs[i]? = some x → p i x
  | 0, _ => ⟨[], rfl, fun i x h => by simp at h⟩
  | n + 1, h => by
    obtain ⟨xs, h1, h2⟩ := list_choice n (fun i hi => h i (by omega))
    obtain ⟨x, hx⟩ := h n (by omega)
    refine ⟨xs ++ [x], by simp [h1], fun i y hy => ?_⟩
    by_cases hi : i < n
    · rw [List.getElem?_append_left (by omega)] at hy; exact h2 i y hy
    · rw [List.getElem?_append_right (by omega)] at hy
      have e : i - xs.length = 0 := by
        rcases Nat.eq_zero_or_pos (i - xs.length) with e | e
        · exact e
        · rw [List.getElem?_eq_none (by simp; omega)] at hy; cases hy
      rw [e] at hy
      simp at hy
      subst hy
      obtain rfl : i = n := by omega
      exact hx

/-- A Thing as it lies in memory, and its bytes. -/
structure RTh where
  kd : Int
  n : Int
  a : Option Addr
  m : Nat
  c : Nat
  b : List UInt8
def RTh.th (x : RTh) : PK.Th := ⟨PK.u64 x.kd % 5, x.n, x.b⟩
structure RTh.Fit (w : World) (x : RTh) : Prop where
  n0 : -9223372036854775808 ≤ x.n
  n1 : x.n ≤ 9223372036854775807
  len : x.b.length = x.m
  bytes : IsB w (.slice x.a x.m x.c) x.b
theorem RTh.Fit.may {w : World} {x : RTh} (h : x.Fit w) : x.th.May := ⟨h.n0, h.n1, by have := h.bytes.len; simp only [maxLen] at this; simp only [RTh.th]; omega⟩
theorem RTh.Fit.below {w w' : World} {x : RTh} (h : x.Fit w) (b : Below w.heap.size w w') : x.Fit w' := ⟨h.n0, h.n1, h.len, h.bytes.below b⟩
/-- The slice value v reads as the Things xs. -/
def ThS (w : World) (v : Value) (xs : List RTh) : Prop :=
  ∃ a cap, v = .slice a xs.length cap ∧ xs.length ≤ cap ∧ cap ≤ maxLen ∧
    (xs = [] ∨ ∃ b o, a = some ⟨b, o, none⟩ ∧ ∀ i x, xs[i]? = some x → w.cell? ⟨b, o + i * 3, none⟩ = some (.int .i64 x.kd) ∧ w.cell? ⟨b, o + i * 3 + 1, none⟩ = some (.int .i64 x.n) ∧ w.cell? ⟨b, o + i * 3 + 2, none⟩ = some (.slice x.a x.m x.c)) ∧
    ∀ x ∈ xs, x.Fit w
/-- At most so much is laid for Things. -/
def wt (xs : List RTh) : Nat := (xs.map fun x => x.b.length + 25).sum
theorem wt_cons (x : RTh) (r : List RTh) : wt (x :: r) = x.b.length + 25 + wt r := by simp [wt]
theorem wt_le {H : Type} : ∀ (xs : List RTh) (ds : List (DataW H)), xs.length = ds.length → (∀ (i : Nat) (x : RTh) (d : DataW H), xs[i]? = some x → ds[i]? = some d → x.b.length + 1 ≤ Rows.uptoBulk d) → wt xs ≤ 25 * Rows.uptoBulkAll ds
  | [], [], _, _ => by simp [wt]
  | x :: xs, d :: ds, hl, h => by
    have h1 := h 0 x d rfl rfl
    have h2 := wt_le xs ds (by simpa using hl) (fun i y e hy he => h (i + 1) y e hy he)
    rw [wt_cons]
    simp only [Rows.uptoBulkAll]
    omega

set_option maxRecDepth 100000 in
/-- A slice of Things that came in. -/
theorem open_things {H : Type} {enc : TypeId × Value → H} {W : World} {base : Nat} {sp : Nat → Bool} {held : Bool} {v : Value} {d : DataW H} {p : List MemPlace} (hs : ∃ a l c, v = .slice a l c)
    (h : DataW.Trod enc Tryd.prog W base sp held 58 v d p) : ∃ xs, ThS W v xs ∧ wt xs ≤ 25 * Rows.uptoBulk d := by
  obtain ⟨fuel, hf⟩ := h
  rcases open_slice_fields Tryd.underlying58 Tryd.underlying61 (by kernel_rfl) cTh hf with ⟨hcs, _⟩ | ⟨x, len, cap, m, D, Pl, hcs, _, hl, hm, hmm, hx, hi⟩
  · obtain ⟨a, l, c, rfl⟩ := hs
    simp [Value.cells] at hcs
    obtain ⟨rfl, rfl, rfl⟩ := hcs
    exact ⟨[], ⟨none, 0, rfl, by simp, by simp [maxLen], .inl rfl, fun x hx => by simp at hx⟩, by simp [wt]⟩
  · obtain ⟨a, l, c, rfl⟩ := hs
    simp [Value.cells] at hcs
    obtain ⟨rfl, rfl, rfl⟩ := hcs
    obtain ⟨rfl, _⟩ := Prod.mk.inj hx
    have hlm : l ≤ m := by rw [hmm]; split <;> omega
    have each : ∀ i, i < l → ∃ y : RTh, y.Fit W ∧ W.cell? (x.add (i * 3)) = some (.int .i64 y.kd) ∧ W.cell? (x.add (i * 3 + 1)) = some (.int .i64 y.n) ∧ W.cell? (x.add (i * 3 + 2)) = some (.slice y.a y.m y.c) ∧ y.b.length + 1 ≤ Rows.uptoBulk (D i) := by
      intro i hil
      obtain ⟨ys, n, hD, _, hyl, hg⟩ := hi i (by omega)
      obtain ⟨v0, y0, c0, e0, t0⟩ := hg 0 _ rfl
      obtain ⟨v1, y1, c1, e1, t1⟩ := hg 1 _ rfl
      obtain ⟨v2, y2, c2, e2, t2⟩ := hg 2 _ rfl
      obtain ⟨n0, f0, _, _⟩ := DataW.trod_int Tryd.underlying3 t0
      obtain ⟨n1, f1, _, w1⟩ := DataW.trod_int Tryd.underlying3 t1
      obtain ⟨a, m, c, b, rfl, hb, hI, hu, _⟩ := open_bytes t2
      simp at f0 f1
      subst f0 f1
      obtain ⟨b0, b1⟩ := bounds_i64 w1
      refine ⟨⟨n0, n1, a, m, c, b⟩, ⟨b0, b1, hb, hI⟩, c0, c1, c2, ?_⟩
      rw [hD]
      match ys, hyl, e0, e1, e2 with
      | [z0, z1, z2], _, e0, e1, e2 =>
        simp at e0 e1 e2
        subst e0 e1 e2
        simp only [Rows.uptoBulk, List.map, Rows.uptoBulkAll]
        omega
    obtain ⟨xs, hxl, hxs⟩ := list_choice l each
    refine ⟨xs, ⟨_, c, by rw [hxl], by omega, hm, ?_, fun y hy => ?_⟩, ?_⟩
    · by_cases h0 : l = 0
      · exact .inl (List.eq_nil_of_length_eq_zero (by omega))
      · have hc := (each 0 (by omega)).choose_spec.2.1
        obtain ⟨b, off, spot⟩ := x
        have hspot : spot = none := by simpa [Addr.add] using World.cell?_spot hc
        subst hspot
        have hadd : ∀ i, (⟨b, off, none⟩ : Addr).add i = ⟨b, off + i, none⟩ := fun i => by unfold Addr.add; split <;> simp_all
        refine .inr ⟨b, off, rfl, fun i y hy => ?_⟩
        obtain ⟨_, c0, c1, c2, _⟩ := hxs i y hy
        rw [hadd] at c0 c1 c2
        rw [← Nat.add_assoc] at c1 c2
        exact ⟨c0, c1, c2⟩
    · obtain ⟨i, hi, rfl⟩ := List.getElem_of_mem hy
      exact (hxs i _ (List.getElem?_eq_getElem hi)).1
    · refine Nat.le_trans (wt_le xs ((List.range l).map D) (by simp [hxl]) (fun i y e hy he => ?_)) ?_
      · have hil : i < l := by rw [← hxl]; exact (List.getElem?_eq_some_iff.1 hy).1
        simp [List.getElem?_range hil] at he
        subst he
        exact (hxs i y hy).2.2.2.2
      · simp only [Rows.uptoBulk]; omega
end Go.Proofs.YtincbeipfgbfpaaDoor
