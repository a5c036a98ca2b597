/-
  The document's answer's Decode of an entry, by a contract.
  Conditions: the parameter reads as bytes and is at most 2^47 long.
-/
import Derived.Test.YtbgockggbpmhnaaGreatDoorEntR
namespace Go.Proofs.YtbgockggbpmhnaaGreatDoor
open Go Go.RowKit

/-- What the reference's Decode gives as the error. -/
def intV (k : Nat) : Value := .int .i64 k

set_option maxRecDepth 100000 in
set_option maxHeartbeats 8000000 in
/-- Decode. -/
theorem rdecE_any (a : Option Addr) (c : Nat) (l : List UInt8) (w : World) (hv : IsB w (.slice a l.length c) l) (hl47 : l.length ≤ roomB) :
    Calls Tryz.prog 37 #[.slice a l.length c] w fun v w' => DecR w w' v (PK.decE l) intV := by
  have HT := Lib.hid (fun (W : World) (h : IsB W (.slice a l.length c) l) => takeE_any a c l W h hl47)
  have hdec : PK.decE l = if PK.doneP (PK.readE l).2.1 (PK.readE l).2.2 ≠ 0 ∨ (PK.readE l).1.i < 1 ∨ (PK.readE l).1.t < 1 then none else some (PK.readE l).1 := rfl
  have HDEC := Lib.hid hdec
  have HDn := Lib.hid (fun (W : World) (a : Option Addr) (c : Nat) => rdone_any a c (PK.readE l).2.2 (PK.readE l).2.1 W)
  have Hv := Lib.hid hv
  clear hdec hv hl47
  generalize PK.decE l = r at *
  generalize PK.readE l = R at *
  obtain ⟨⟨i, t, k, d⟩, l4, k4⟩ := R
  simp only at HDEC HT HDn
  go_enter Tryz.func37, Tryz.ntmps37
  go_wp2_with fail
  refine (HT.out _ (Hv.out.below ((Below.refl _ _).alloc (Nat.le_refl _) _))).mono ?_
  rintro e w1 ⟨⟨a1, c1, a2, n2, c2, rfl, i1, i2⟩, b1⟩
  obtain ⟨g1, bb1⟩ := own1 b1
  simp only at i1 i2
  have hlt1 : w.heap.size < w1.heap.size := (Array.getElem?_eq_some_iff.1 g1).1
  have I2 := Lib.hid i2
  have G1 := Lib.hid g1
  have BB1 := Lib.hid bb1
  clear i1 i2 b1 g1 bb1 HT
  go_wp2_with fail
  refine (HDn.out _ a1 c1).mono ?_
  rintro e w2 ⟨rfl, b2⟩
  obtain ⟨gP, gE, bb2⟩ := own2 b2
  have G2 : Hid (w2.heap[w.heap.size]? = some (.cells #[.int .i64 0, .int .i64 0, .int .i64 0, .slice none 0 0] 71)) := (bb2.block _ hlt1).trans G1.out
  have B2 : Hid (Below w.heap.size w w2) := BB1.out.trans (bb2.mono (Nat.le_of_lt hlt1))
  have O2 : Hid (IsB w2 (.slice a2 n2 c2) d) := I2.out.below bb2
  obtain ⟨p0, p1, p2, p3, f0, f1, f2, f3⟩ := cells4 gE
  obtain ⟨q0, q1, q2, q3, g0, g1, g2, g3⟩ := cells4 G2.out
  clear gP gE b2 bb2 G1 BB1 I2 HDn
  generalize hD : PK.doneP l4 k4 = D at *
  clear hD
  generalize w2 = W at *
  have Hs : Hid (∀ (x y z u : Value), Below w.heap.size w (set4 W w.heap.size x y z u)) := fun x y z u => Fr.belowM B2.out (set4_fr W _ x y z u) (Nat.le_refl _) (World.block_lt_of_cell? W _ q0)
  have fin : Hid (∀ x y z u, (set4 W w.heap.size x y z u).cell? ⟨w.heap.size, 0, none⟩ = some x ∧ (set4 W w.heap.size x y z u).cell? ⟨w.heap.size, 1, none⟩ = some y ∧ (set4 W w.heap.size x y z u).cell? ⟨w.heap.size, 2, none⟩ = some z ∧ (set4 W w.heap.size x y z u).cell? ⟨w.heap.size, 3, none⟩ = some u) := fun x y z u => by
    obtain ⟨a, b, c, d, _⟩ := cells4 (stored4 G2.out x y z u)
    exact ⟨a, b, c, d⟩
  have bad : Hid (r = none → ∀ W', W' = set4 W w.heap.size (.int .i64 0) (.int .i64 0) (.int .i64 0) (.slice none 0 0) → DecR w W' (.returned (.tuple #[.agg #[.int .i64 0, .int .i64 0, .int .i64 0, .slice none 0 0], intV 3])) r intV) := by
    rintro rfl W' rfl
    exact ⟨rfl, Hs.out _ _ _ _⟩
  have FB := Lib.hid (fin.out (.int .i64 0) (.int .i64 0) (.int .i64 0) (.slice none 0 0))
  have finB : Hid (∀ W', W' = set4 W w.heap.size (.int .i64 0) (.int .i64 0) (.int .i64 0) (.slice none 0 0) → W'.cell? ⟨w.heap.size, 0, none⟩ = some (.int .i64 0) ∧ W'.cell? ⟨w.heap.size, 1, none⟩ = some (.int .i64 0) ∧ W'.cell? ⟨w.heap.size, 2, none⟩ = some (.int .i64 0) ∧ W'.cell? ⟨w.heap.size, 3, none⟩ = some (.slice none 0 0)) := by
    rintro W' rfl
    exact FB.out
  clear FB
  by_cases hd0 : D = 0
  · subst hd0
    by_cases h1 : i < 1
    · have hr : r = none := HDEC.out.trans (if_pos (.inr (.inl h1)))
      have HB := Lib.hid (bad.out hr)
      clear hr bad fin Hs
      go_wp2
      generalize hW : (((W.setCell ⟨w.heap.size, 0, none⟩ (.int .i64 0)).setCell ⟨w.heap.size, 1, none⟩ (.int .i64 0)).setCell ⟨w.heap.size, 2, none⟩ (.int .i64 0)).setCell ⟨w.heap.size, 3, none⟩ (.slice none 0 0) = W' at *
      obtain ⟨e0, e1, e2, e3⟩ := finB.out W' hW.symm
      refine bodyPost_ret (v := .tuple #[.agg #[.int .i64 0, .int .i64 0, .int .i64 0, .slice none 0 0], .int .i64 3]) (by simp [results, Tryz.results37, go_sem, e0, e1, e2, e3]) rfl ?_
      exact HB.out W' hW.symm
    · by_cases h2 : t < 1
      · have hr : r = none := HDEC.out.trans (if_pos (.inr (.inr h2)))
        have HB := Lib.hid (bad.out hr)
        clear hr bad fin Hs
        go_wp2
        generalize hW : (((W.setCell ⟨w.heap.size, 0, none⟩ (.int .i64 0)).setCell ⟨w.heap.size, 1, none⟩ (.int .i64 0)).setCell ⟨w.heap.size, 2, none⟩ (.int .i64 0)).setCell ⟨w.heap.size, 3, none⟩ (.slice none 0 0) = W' at *
        obtain ⟨e0, e1, e2, e3⟩ := finB.out W' hW.symm
        refine bodyPost_ret (v := .tuple #[.agg #[.int .i64 0, .int .i64 0, .int .i64 0, .slice none 0 0], .int .i64 3]) (by simp [results, Tryz.results37, go_sem, e0, e1, e2, e3]) rfl ?_
        exact HB.out W' hW.symm
      · have hr : r = some ⟨i, t, k, d⟩ := HDEC.out.trans (if_neg (by omega))
        have HR := Lib.hid hr
        clear hr bad
        go_wp2
        generalize hW : (((W.setCell ⟨w.heap.size, 0, none⟩ (.int .i64 i)).setCell ⟨w.heap.size, 1, none⟩ (.int .i64 t)).setCell ⟨w.heap.size, 2, none⟩ (.int .i64 k)).setCell ⟨w.heap.size, 3, none⟩ (.slice a2 n2 c2) = W' at *
        have hW' : W' = set4 W w.heap.size (.int .i64 i) (.int .i64 t) (.int .i64 k) (.slice a2 n2 c2) := hW.symm
        have hc := fin.out (.int .i64 i) (.int .i64 t) (.int .i64 k) (.slice a2 n2 c2)
        rw [← hW'] at hc
        obtain ⟨e0, e1, e2, e3⟩ := hc
        refine bodyPost_ret (v := .tuple #[.agg #[.int .i64 i, .int .i64 t, .int .i64 k, .slice a2 n2 c2], .int .i64 0]) (by simp [results, Tryz.results37, go_sem, e0, e1, e2, e3]) rfl ?_
        rw [HR.out]
        refine ⟨⟨a2, n2, c2, rfl, ?_⟩, by rw [hW']; exact Hs.out _ _ _ _⟩
        show IsB W' _ d
        by_cases hl : d = []
        · subst hl; exact O2.out.empty
        · rw [hW']
          exact O2.out.kept (set4_fr W _ _ _ _ _) (fun b hb e => O2.out.apart4 G2.out (by simp) (by simp) (by simp) (by simp) hl (by rw [hb, e]))
  · have hr : r = none := HDEC.out.trans (if_pos (.inl hd0))
    have HB := Lib.hid (bad.out hr)
    have hd1 : ((D : Int) != 0) = true := by rw [bne_iff_ne]; omega
    clear hr bad fin Hs hd0
    go_wp2
    generalize hW : (((W.setCell ⟨w.heap.size, 0, none⟩ (.int .i64 0)).setCell ⟨w.heap.size, 1, none⟩ (.int .i64 0)).setCell ⟨w.heap.size, 2, none⟩ (.int .i64 0)).setCell ⟨w.heap.size, 3, none⟩ (.slice none 0 0) = W' at *
    obtain ⟨e0, e1, e2, e3⟩ := finB.out W' hW.symm
    refine bodyPost_ret (v := .tuple #[.agg #[.int .i64 0, .int .i64 0, .int .i64 0, .slice none 0 0], .int .i64 3]) (by simp [results, Tryz.results37, go_sem, e0, e1, e2, e3]) rfl ?_
    exact HB.out W' hW.symm
end Go.Proofs.YtbgockggbpmhnaaGreatDoor
