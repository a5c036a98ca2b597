/-
  odd, may, Check, by contracts.
  Conditions: what is looked at reads as such.
-/
import Derived.Test.YtbgockggbpmhnaaGreatDoorMay
namespace Go.Proofs.YtbgockggbpmhnaaGreatDoor
open Go Go.RowKit

theorem okE_iff (x : RE) : PK.okE x.ent ↔ allIn 1 1099511627776 [x.i, x.t] = true ∧ allIn 0 2 [x.k] = true ∧ x.d.length ≤ 4096 := by
  unfold PK.okE allIn RE.ent
  simp only [List.all_cons, List.all_nil, Bool.and_true, Bool.and_eq_true, decide_eq_true_eq]
  unfold PK.in01
  exact ⟨fun ⟨a, b, c, d⟩ => ⟨⟨a, b⟩, c, d⟩, fun ⟨⟨a, b⟩, c, d⟩ => ⟨a, b, c, d⟩⟩
theorem cell4_of {V : World} {N M : Nat} {W : World} {x y z u : Value} (hb : Below M W V) (hN : N < M) (h : W.cell? ⟨N, 0, none⟩ = some x ∧ W.cell? ⟨N, 1, none⟩ = some y ∧ W.cell? ⟨N, 2, none⟩ = some z ∧ W.cell? ⟨N, 3, none⟩ = some u) :
    V.cell? ⟨N, 0, none⟩ = some x ∧ V.cell? ⟨N, 1, none⟩ = some y ∧ V.cell? ⟨N, 2, none⟩ = some z ∧ V.cell? ⟨N, 3, none⟩ = some u := by
  have hk := hb.block N hN
  exact ⟨(World.cell?_of_block hk).trans h.1, (World.cell?_of_block hk).trans h.2.1, (World.cell?_of_block hk).trans h.2.2.1, (World.cell?_of_block hk).trans h.2.2.2⟩
set_option maxRecDepth 100000 in
set_option maxHeartbeats 4000000 in
theorem odd_any (x : RE) (w : World) (hl : x.d.length = x.n) :
    Calls Tryz.prog 63 #[.agg #[.int .i64 x.i, .int .i64 x.t, .int .i64 x.k, .slice x.a x.n x.c]] w fun e w' => e = .returned (.bool (!decide (PK.okE x.ent))) ∧ Below w.heap.size w w' := by
  have hok := okE_iff x
  obtain ⟨i, t, k, a, n, c, d⟩ := x
  simp only at hl hok ⊢
  rw [hl] at hok
  obtain ⟨Wa, hWa⟩ : ∃ W, W = w.alloc (.cells #[.int .i64 i, .int .i64 t, .int .i64 k, .slice a n c] 57) := ⟨_, rfl⟩
  have gA : Wa.heap[w.heap.size]? = some (.cells #[.int .i64 i, .int .i64 t, .int .i64 k, .slice a n c] 57) := by rw [hWa]; exact heap_alloc_new _ _
  obtain ⟨p0, p1, p2, p3, _⟩ := cells4 gA
  have hBa : Hid (Below w.heap.size w Wa) := Lib.hid (by rw [hWa]; exact (Below.refl _ _).alloc (Nat.le_refl _) _)
  have hsz : Wa.heap.size = w.heap.size + 1 := by rw [hWa]; simp
  have cont : Hid (∀ V, Below (w.heap.size + 1) Wa V → (Hid (Below (w.heap.size + 1) Wa V) ∧ V.cell? ⟨w.heap.size, 0, none⟩ = some (.int .i64 i) ∧ V.cell? ⟨w.heap.size, 1, none⟩ = some (.int .i64 t) ∧ V.cell? ⟨w.heap.size, 2, none⟩ = some (.int .i64 k) ∧ V.cell? ⟨w.heap.size, 3, none⟩ = some (.slice a n c))) := fun V h => by
    have hk := h.block w.heap.size (by omega)
    exact ⟨Lib.hid h, (World.cell?_of_block hk).trans p0, (World.cell?_of_block hk).trans p1, (World.cell?_of_block hk).trans p2, (World.cell?_of_block hk).trans p3⟩
  have fin : Hid (∀ V, (Hid (Below (w.heap.size + 1) Wa V) ∧ V.cell? ⟨w.heap.size, 0, none⟩ = some (.int .i64 i) ∧ V.cell? ⟨w.heap.size, 1, none⟩ = some (.int .i64 t) ∧ V.cell? ⟨w.heap.size, 2, none⟩ = some (.int .i64 k) ∧ V.cell? ⟨w.heap.size, 3, none⟩ = some (.slice a n c)) → Below w.heap.size w V) := fun V h => hBa.out.trans (h.1.out.mono (Nat.le_succ _))
  have CW : Hid (∀ (V : World) (l : List Int) (lo hi : Int) (m : Nat) (cs : Array Value), l.length = m → m ≤ 100 → cs = (l.map (Value.int .i64 ·)).toArray → (Hid (Below (w.heap.size + 1) Wa V) ∧ V.cell? ⟨w.heap.size, 0, none⟩ = some (.int .i64 i) ∧ V.cell? ⟨w.heap.size, 1, none⟩ = some (.int .i64 t) ∧ V.cell? ⟨w.heap.size, 2, none⟩ = some (.int .i64 k) ∧ V.cell? ⟨w.heap.size, 3, none⟩ = some (.slice a n c)) → Calls Tryz.prog 61 #[.int .i64 lo, .int .i64 hi, .slice (some ⟨V.heap.size, 0, none⟩) m m] (V.alloc (.cells cs 3)) fun e w' => e = .returned (.bool (allIn lo hi l)) ∧ (Hid (Below (w.heap.size + 1) Wa w') ∧ w'.cell? ⟨w.heap.size, 0, none⟩ = some (.int .i64 i) ∧ w'.cell? ⟨w.heap.size, 1, none⟩ = some (.int .i64 t) ∧ w'.cell? ⟨w.heap.size, 2, none⟩ = some (.int .i64 k) ∧ w'.cell? ⟨w.heap.size, 3, none⟩ = some (.slice a n c))) := fun V l lo hi m cs h1 h2 h3 h => by
    subst h3
    have hs := h.1.out.size
    rw [hsz] at hs
    exact (within_any V.heap.size 0 m m l lo hi _ h1 h2 (isI_new V l _)).mono fun e w' ⟨e1, e2⟩ => ⟨e1, cont.out w' ((h.1.out.alloc hs _).trans (e2.mono (by simp; omega)))⟩
  have SA := cont.out Wa (Below.refl _ _)
  have hs1 : allIn 1 1099511627776 [i, t] = true ∨ allIn 1 1099511627776 [i, t] = false := by cases allIn 1 1099511627776 [i, t] <;> simp
  have c1 := CW.out Wa [i, t] 1 1099511627776 2 #[.int .i64 i, .int .i64 t] rfl (by decide) (by simp) SA
  rw [hsz] at c1
  have C1 := Lib.hid c1
  have C2 := Lib.hid (fun (V : World) (h : (Hid (Below (w.heap.size + 1) Wa V) ∧ V.cell? ⟨w.heap.size, 0, none⟩ = some (.int .i64 i) ∧ V.cell? ⟨w.heap.size, 1, none⟩ = some (.int .i64 t) ∧ V.cell? ⟨w.heap.size, 2, none⟩ = some (.int .i64 k) ∧ V.cell? ⟨w.heap.size, 3, none⟩ = some (.slice a n c))) => CW.out V [k] 0 2 1 #[.int .i64 k] rfl (by decide) (by simp) h)
  have HOK := Lib.hid hok
  clear c1 SA hBa hsz cont CW gA p0 p1 p2 p3 hok hl
  rcases hs1 with h1 | h1
  · rw [h1] at C1
    have hs2 : allIn 0 2 [k] = true ∨ allIn 0 2 [k] = false := by cases allIn 0 2 [k] <;> simp
    rcases hs2 with h2 | h2
    · rw [h2] at C2
      by_cases hd : n ≤ 4096
      · have hd1 : ¬ ((4096 : Int) < (n : Int)) := by omega
        have hr : decide (PK.okE (RE.ent ⟨i, t, k, a, n, c, d⟩)) = true := decide_eq_true (HOK.out.2 ⟨h1, h2, hd⟩)
        rw [hr]
        clear h1 h2 hd hr
        go_enter Tryz.func63, Tryz.ntmps63
        go_wp2_with fail
        rw [← hWa]
        refine C1.out.mono ?_
        rintro e w1 ⟨rfl, s1⟩
        obtain ⟨hb1, q0, q1, q2, q3⟩ := id s1
        have S1 := Lib.hid s1
        clear s1
        go_wp2_with fail
        refine (C2.out w1 S1.out).mono ?_
        rintro e w2 ⟨rfl, s2⟩
        obtain ⟨hb2, r0, r1, r2, r3⟩ := id s2
        have S2 := Lib.hid s2
        clear s2
        go_wp2
        go_ret
        exact ⟨by first | rfl | (simp; done) | (simp; omega), fin.out _ S2.out⟩
      · have hd1 : (4096 : Int) < (n : Int) := by omega
        have hr : decide (PK.okE (RE.ent ⟨i, t, k, a, n, c, d⟩)) = false := decide_eq_false (fun h => hd (HOK.out.1 h).2.2)
        rw [hr]
        clear h1 h2 hd hr
        go_enter Tryz.func63, Tryz.ntmps63
        go_wp2_with fail
        rw [← hWa]
        refine C1.out.mono ?_
        rintro e w1 ⟨rfl, s1⟩
        obtain ⟨hb1, q0, q1, q2, q3⟩ := id s1
        have S1 := Lib.hid s1
        clear s1
        go_wp2_with fail
        refine (C2.out w1 S1.out).mono ?_
        rintro e w2 ⟨rfl, s2⟩
        obtain ⟨hb2, r0, r1, r2, r3⟩ := id s2
        have S2 := Lib.hid s2
        clear s2
        go_wp2
        go_ret
        exact ⟨by first | rfl | (simp; done) | (simp; omega), fin.out _ S2.out⟩
    · rw [h2] at C2
      have hr : decide (PK.okE (RE.ent ⟨i, t, k, a, n, c, d⟩)) = false := decide_eq_false (fun h => by have := (HOK.out.1 h).2.1; rw [h2] at this; cases this)
      rw [hr]
      clear h1 h2 hr
      go_enter Tryz.func63, Tryz.ntmps63
      go_wp2_with fail
      rw [← hWa]
      refine C1.out.mono ?_
      rintro e w1 ⟨rfl, s1⟩
      obtain ⟨hb1, q0, q1, q2, q3⟩ := id s1
      have S1 := Lib.hid s1
      clear s1
      go_wp2_with fail
      refine (C2.out w1 S1.out).mono ?_
      rintro e w2 ⟨rfl, s2⟩
      obtain ⟨hb2, r0, r1, r2, r3⟩ := id s2
      have S2 := Lib.hid s2
      clear s2
      go_wp2
      go_ret
      exact ⟨by first | rfl | (simp; done) | (simp; omega), fin.out _ S2.out⟩
  · rw [h1] at C1
    have hr : decide (PK.okE (RE.ent ⟨i, t, k, a, n, c, d⟩)) = false := decide_eq_false (fun h => by have := (HOK.out.1 h).1; rw [h1] at this; cases this)
    rw [hr]
    clear h1 hr
    go_enter Tryz.func63, Tryz.ntmps63
    go_wp2_with fail
    rw [← hWa]
    refine C1.out.mono ?_
    rintro e w1 ⟨rfl, s1⟩
    obtain ⟨hb1, q0, q1, q2, q3⟩ := id s1
    have S1 := Lib.hid s1
    clear s1
    go_wp2
    go_ret
    exact ⟨rfl, fin.out _ S1.out⟩
end Go.Proofs.YtbgockggbpmhnaaGreatDoor
