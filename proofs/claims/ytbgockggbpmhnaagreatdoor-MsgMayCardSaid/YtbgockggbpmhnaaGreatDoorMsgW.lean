/-
  A message that came in, by the weights of what it holds.
  Conditions: none but those that the theorems' lines name.
-/
import Derived.Test.YtbgockggbpmhnaaGreatDoorMsgE
namespace Go.Proofs.YtbgockggbpmhnaaGreatDoor
open Go Go.RowKit Go.ChangeShapes Go.WideShapes Go.ChangeAt

theorem weightsAll_mem {H : Type} {P : Program} {e : TypeId} {q : Nat} {d : DataW H} : ∀ {ds : List (DataW H)}, d ∈ ds → q ∈ d.weights P e → q ∈ DataW.weightsAll P e ds
  | [], h, _ => by cases h
  | x :: r, h, hq => by
    simp only [DataW.weightsAll, List.mem_append]
    rcases List.mem_cons.1 h with rfl | h
    · exact .inl hq
    · exact .inr (weightsAll_mem h hq)
set_option maxRecDepth 100000 in
theorem open_entriesW {H : Type} {enc : TypeId × Value → H} {W : World} {base k : Nat} {sp : Nat → Bool} {held : Bool} {v : Value} {y : DataW H × List MemPlace}
    (hf : DataW.trod enc Tryz.prog W base sp held k 23 [v] = some y) : ∃ a n c xs, v = .slice a n c ∧ EsS W (.slice a n c) xs ∧ ∀ B, (y.1.weights Tryz.prog 23).all (· ≤ B) = true → ∀ x ∈ xs, x.n ≤ B := by
  rcases open_slice_fields Tryz.underlying23 Tryz.underlying71 (by kernel_rfl) cEn hf with ⟨hcs, _⟩ | ⟨x, len, cap, m, D, Pl, hcs, _, hl, hm, hmm, hx, hi⟩
  · simp at hcs
    subst hcs
    exact ⟨none, 0, 0, [], rfl, EsS.nil W, fun _ _ x hx => by simp at hx⟩
  · simp at hcs
    subst hcs
    have hlm : len ≤ m := by rw [hmm]; split <;> omega
    have each : ∀ i, i < len → ∃ y : RE, y.Fit W ∧ W.cell? (x.add (i * 4)) = some (.int .i64 y.i) ∧ W.cell? (x.add (i * 4 + 1)) = some (.int .i64 y.t) ∧ W.cell? (x.add (i * 4 + 2)) = some (.int .i64 y.k) ∧ W.cell? (x.add (i * 4 + 3)) = some (.slice y.a y.n y.c) ∧ ∀ B, ((D i).weights Tryz.prog 71).all (· ≤ B) = true → y.n ≤ B := by
      intro i hil
      obtain ⟨ys, n, hD, _, hyl, hg⟩ := hi i (by omega)
      obtain ⟨v0, y0, c0, e0, t0⟩ := hg 0 _ rfl
      obtain ⟨v1, y1, c1, e1, t1⟩ := hg 1 _ rfl
      obtain ⟨v2, y2, c2, e2, t2⟩ := hg 2 _ rfl
      obtain ⟨v3, y3, c3, e3, t3⟩ := hg 3 _ rfl
      obtain ⟨n0, f0, _, _⟩ := DataW.trod_int Tryz.underlying3 t0
      obtain ⟨n1, f1, _, _⟩ := DataW.trod_int Tryz.underlying3 t1
      obtain ⟨n2, f2, _, _⟩ := DataW.trod_int Tryz.underlying3 t2
      obtain ⟨a, m, c, b, rfl, hb, hI, _, hu⟩ := open_bytes t3
      simp at f0 f1 f2
      subst f0 f1 f2
      refine ⟨⟨n0, n1, n2, a, m, c, b⟩, ⟨hb, hI⟩, c0, c1, c2, c3, ?_⟩
      rw [hD]
      match ys, hyl, e0, e1, e2, e3 with
      | [z0, z1, z2, z3], _, e0, e1, e2, e3 =>
        simp at e0 e1 e2 e3
        subst e0 e1 e2 e3
        intro B hB
        refine hu B (List.all_eq_true.2 fun q hq => List.all_eq_true.1 hB q ?_)
        simp [DataW.weights, DataW.weightsEach, Tryz.underlying71]
        simp [hq]
    obtain ⟨xs, hxl, hxs⟩ := list_choice len each
    subst hx
    refine ⟨_, len, cap, xs, rfl, ⟨_, cap, by rw [hxl], by omega, hm, ?_, fun y hy => ?_⟩, fun B hB y hy => ?_⟩
    · by_cases h0 : len = 0
      · exact .inl (List.eq_nil_of_length_eq_zero (by omega))
      · have hc := (each 0 (by omega)).choose_spec.2.1
        obtain ⟨b, off, spot⟩ := x
        have hspot : spot = none := by simpa [Addr.add] using World.cell?_spot hc
        subst hspot
        have hadd : ∀ i, (⟨b, off, none⟩ : Addr).add i = ⟨b, off + i, none⟩ := fun i => by unfold Addr.add; split <;> simp_all
        refine .inr ⟨b, off, rfl, fun i y hy => ?_⟩
        obtain ⟨_, c0, c1, c2, c3, _⟩ := hxs i y hy
        rw [hadd] at c0 c1 c2 c3
        rw [← Nat.add_assoc] at c1 c2 c3
        exact ⟨c0, c1, c2, c3⟩
    · obtain ⟨i, hi, rfl⟩ := List.getElem_of_mem hy
      exact (hxs i _ (List.getElem?_eq_getElem hi)).1
    · obtain ⟨i, hi, rfl⟩ := List.getElem_of_mem hy
      have h1 := (hxs i _ (List.getElem?_eq_getElem hi)).2.2.2.2.2
      have h2 : D i ∈ (List.range len).map D := List.mem_map.2 ⟨i, List.mem_range.2 (by omega), rfl⟩
      refine h1 B (List.all_eq_true.2 fun q hq => List.all_eq_true.1 hB q ?_)
      simp only [DataW.weights, Tryz.underlying23]
      exact List.mem_cons_of_mem _ (List.mem_append_left _ (weightsAll_mem h2 hq))
set_option maxRecDepth 100000 in
/-- A message that came in. -/
theorem open_msgW {H : Type} {enc : TypeId × Value → H} {W : World} {base b0 : Nat} {sp : Nat → Bool} {held : Bool} {v : Value} {d : DataW H} {p : List MemPlace} (ho : Value.okWide Tryz.prog W .any b0 25 v)
    (h : DataW.Trod enc Tryz.prog W base sp held 25 v d p) : ∃ x : RM, v = x.val ∧ x.Fit W ∧ ∀ B, (d.weights Tryz.prog 25).all (· ≤ B) = true → x.dn ≤ B ∧ ∀ y ∈ x.es, y.n ≤ B := by
  obtain ⟨v0, v1, v2, v3, v4, v5, v6, v7, v8, v9, v10, v11, y0, y1, y2, y3, y4, y5, y6, y7, y8, y9, y10, y11, k, rfl, rfl, t0, t1, t2, t3, t4, t5, t6, t7, t8, t9, t10, t11⟩ := open_agg12 Tryz.underlying25 (by kernel_rfl) cMs ho h
  obtain ⟨n0, e0, _, _⟩ := DataW.trod_int Tryz.underlying3 t0
  obtain ⟨n1, e1, _, _⟩ := DataW.trod_int Tryz.underlying3 t1
  obtain ⟨n2, e2, _, _⟩ := DataW.trod_int Tryz.underlying3 t2
  obtain ⟨n3, e3, _, _⟩ := DataW.trod_int Tryz.underlying3 t3
  obtain ⟨n4, e4, _, _⟩ := DataW.trod_int Tryz.underlying3 t4
  obtain ⟨n5, e5, _, _⟩ := DataW.trod_int Tryz.underlying3 t5
  obtain ⟨n6, e6, _, _⟩ := DataW.trod_int Tryz.underlying3 t6
  obtain ⟨n7, e7, _, _⟩ := DataW.trod_int Tryz.underlying3 t7
  obtain ⟨n9, e9, _, _⟩ := DataW.trod_int Tryz.underlying3 t9
  obtain ⟨bb, e8, _⟩ := DataW.trod_bool Tryz.underlying4 t8
  obtain ⟨a, m, c, b, rfl, hb, hI, _, hu⟩ := open_bytes t10
  obtain ⟨ea, en, ec, xs, rfl, hes, hxu⟩ := open_entriesW t11
  simp at e0 e1 e2 e3 e4 e5 e6 e7 e9 e8
  subst e0 e1 e2 e3 e4 e5 e6 e7 e9 e8
  refine ⟨⟨n0, n1, n2, n3, n4, n5, n6, n7, bb, n9, a, m, c, b, ea, en, ec, xs⟩, rfl, ⟨hb, hI, hes⟩, fun B hB => ⟨hu B (List.all_eq_true.2 fun q hq => List.all_eq_true.1 hB q ?_), fun y hy => hxu B (List.all_eq_true.2 fun q hq => List.all_eq_true.1 hB q ?_) y hy⟩⟩
  · simp [DataW.weights, DataW.weightsEach, Tryz.underlying25]
    simp [hq]
  · simp [DataW.weights, DataW.weightsEach, Tryz.underlying25]
    simp [hq]
end Go.Proofs.YtbgockggbpmhnaaGreatDoor
