/-
  The document's May, by a contract.
  Conditions: what is looked at reads as such.
-/
import Derived.Test.YtbgockggbpmhnaaGreatDoorMay3
namespace Go.Proofs.YtbgockggbpmhnaaGreatDoor
open Go Go.RowKit

theorem in_any (n lo hi : Int) (w : World) : Calls Tryz.prog 40 #[.int .i64 n, .int .i64 lo, .int .i64 hi] w fun e w' => e = .returned (.bool (decide (PK.in01 lo hi n))) ∧ w = w' := by
  by_cases hl : lo ≤ n
  · by_cases hh : n ≤ hi
    · have hd : decide (PK.in01 lo hi n) = true := decide_eq_true (by unfold PK.in01; omega)
      rw [hd]
      clear hd
      go_enter Tryz.func40, Tryz.ntmps40
      go_wp2
      go_ret
      exact ⟨by first | rfl | (simp; omega), rfl⟩
    · have hd : decide (PK.in01 lo hi n) = false := decide_eq_false (fun h => by unfold PK.in01 at h; omega)
      have hh2 : decide (n ≤ hi) = false := decide_eq_false hh
      rw [hd]
      clear hd
      go_enter Tryz.func40, Tryz.ntmps40
      go_wp2
      go_ret
      exact ⟨by first | rfl | (simp; omega), rfl⟩
  · have hd : decide (PK.in01 lo hi n) = false := decide_eq_false (fun h => by unfold PK.in01 at h; omega)
    have hl2 : decide (lo ≤ n) = false := decide_eq_false hl
    rw [hd]
    clear hd
    go_enter Tryz.func40, Tryz.ntmps40
    go_wp2
    go_ret
    exact ⟨by first | rfl | (simp; omega), rfl⟩
theorem okE_dec (x : RE) : decide (PK.okE x.ent) = (decide (PK.in01 1 1099511627776 x.i) && (decide (PK.in01 1 1099511627776 x.t) && (decide (PK.in01 0 2 x.k) && decide (x.d.length ≤ 4096)))) := by
  rw [← Bool.decide_and, ← Bool.decide_and, ← Bool.decide_and]
  exact decide_eq_decide.2 Iff.rfl
theorem mayM_iff2 (x : RM) : PK.mayM x.msg ↔ (decide (PK.in01 1 6 x.kd) = true ∧ decide (PK.in01 1 64 x.fr) = true ∧ decide (PK.in01 1 64 x.to) = true ∧ x.fr ≠ x.to) ∧ (decide (PK.in01 1 1099511627776 x.tm) = true ∧ decide (PK.in01 0 1099511627776 x.ix) = true ∧ decide (PK.in01 0 1099511627776 x.lt) = true ∧ decide (PK.in01 0 1099511627776 x.cm) = true ∧ decide (PK.in01 0 1099511627776 x.ro) = true ∧ decide (PK.in01 0 1099511627776 x.off) = true) ∧ x.d.length ≤ 4096 ∧ x.es.length ≤ 64 ∧ okAll x.es = true := by
  rw [okAll_iff]
  unfold PK.mayM RM.msg
  simp only [decide_eq_true_eq, List.length_map]
set_option maxRecDepth 100000 in
set_option maxHeartbeats 16000000 in
theorem rmay_any (x : RM) (w : World) (hf : x.Fit w) :
    Calls Tryz.prog 15 #[x.val] w fun e w' => e = .returned (.bool (decide (PK.mayM x.msg))) ∧ Below w.heap.size w w' := by
  have hok := mayM_iff2 x
  obtain ⟨kd, fr, to, tm, ix, lt, cm, ro, ok, off, da, dn, dc, d, ea, en, ec, es⟩ := x
  obtain ⟨hl, _, he⟩ := hf
  have hel := he.len.1
  simp only at hl hok hel he
  rw [hl, hel] at hok
  simp only [RM.val]
  have he63 : (en : Int) ≤ 9223372036854775807 := by have := he.len; simp only [maxLen] at this; omega
  have Hdec : Hid (∀ r : Bool, (r = true ↔ PK.mayM (RM.msg ⟨kd, fr, to, tm, ix, lt, cm, ro, ok, off, da, dn, dc, d, ea, en, ec, es⟩)) → decide (PK.mayM (RM.msg ⟨kd, fr, to, tm, ix, lt, cm, ro, ok, off, da, dn, dc, d, ea, en, ec, es⟩)) = r) := fun r h => by
    cases r
    · exact decide_eq_false (fun q => by cases h.2 q)
    · exact decide_eq_true (h.1 rfl)
  generalize decide (PK.mayM (RM.msg ⟨kd, fr, to, tm, ix, lt, cm, ro, ok, off, da, dn, dc, d, ea, en, ec, es⟩)) = R at *
  generalize PK.mayM (RM.msg ⟨kd, fr, to, tm, ix, lt, cm, ro, ok, off, da, dn, dc, d, ea, en, ec, es⟩) = P at *
  obtain ⟨Wa, hWa⟩ : ∃ W, W = w.alloc (.cells #[.int .i64 kd, .int .i64 fr, .int .i64 to, .int .i64 tm, .int .i64 ix, .int .i64 lt, .int .i64 cm, .int .i64 ro, .bool ok, .int .i64 off, .slice da dn dc, .slice ea en ec] 25) := ⟨_, rfl⟩
  have gA : Wa.heap[w.heap.size]? = some (.cells #[.int .i64 kd, .int .i64 fr, .int .i64 to, .int .i64 tm, .int .i64 ix, .int .i64 lt, .int .i64 cm, .int .i64 ro, .bool ok, .int .i64 off, .slice da dn dc, .slice ea en ec] 25) := by rw [hWa]; exact heap_alloc_new _ _
  obtain ⟨⟨p0, p1, p2, p3, p4, p5, p6, p7, p8, p9, pa, pb⟩, _⟩ := cells12 gA
  have hBa : Hid (Below w.heap.size w Wa) := Lib.hid (by rw [hWa]; exact (Below.refl _ _).alloc (Nat.le_refl _) _)
  have hsz : Hid (Wa.heap.size = w.heap.size + 1) := Lib.hid (by rw [hWa]; simp)
  have cont : Hid (∀ V, Below (w.heap.size + 1) Wa V → (Hid (Below (w.heap.size + 1) Wa V) ∧ V.cell? ⟨w.heap.size, 0, none⟩ = some (.int .i64 kd) ∧ V.cell? ⟨w.heap.size, 1, none⟩ = some (.int .i64 fr) ∧ V.cell? ⟨w.heap.size, 2, none⟩ = some (.int .i64 to) ∧ V.cell? ⟨w.heap.size, 3, none⟩ = some (.int .i64 tm) ∧ V.cell? ⟨w.heap.size, 4, none⟩ = some (.int .i64 ix) ∧ V.cell? ⟨w.heap.size, 5, none⟩ = some (.int .i64 lt) ∧ V.cell? ⟨w.heap.size, 6, none⟩ = some (.int .i64 cm) ∧ V.cell? ⟨w.heap.size, 7, none⟩ = some (.int .i64 ro) ∧ V.cell? ⟨w.heap.size, 8, none⟩ = some (.bool ok) ∧ V.cell? ⟨w.heap.size, 9, none⟩ = some (.int .i64 off) ∧ V.cell? ⟨w.heap.size, 10, none⟩ = some (.slice da dn dc) ∧ V.cell? ⟨w.heap.size, 11, none⟩ = some (.slice ea en ec))) := fun V h => by
    have hk := h.block w.heap.size (by omega)
    exact ⟨Lib.hid h, (World.cell?_of_block hk).trans p0, (World.cell?_of_block hk).trans p1, (World.cell?_of_block hk).trans p2, (World.cell?_of_block hk).trans p3, (World.cell?_of_block hk).trans p4, (World.cell?_of_block hk).trans p5, (World.cell?_of_block hk).trans p6, (World.cell?_of_block hk).trans p7, (World.cell?_of_block hk).trans p8, (World.cell?_of_block hk).trans p9, (World.cell?_of_block hk).trans pa, (World.cell?_of_block hk).trans pb⟩
  have HES : Hid (∀ V, Below (w.heap.size + 1) Wa V → EsS V (.slice ea en ec) es) := fun V h => he.below (hBa.out.trans (h.mono (Nat.le_succ _)))
  have C0 := Lib.hid (fun (V : World) => in_any kd 1 6 V)
  have C1 := Lib.hid (fun (V : World) => in_any fr 1 64 V)
  have C2 := Lib.hid (fun (V : World) => in_any to 1 64 V)
  have C4 := Lib.hid (fun (V : World) => in_any tm 1 1099511627776 V)
  have C5 := Lib.hid (fun (V : World) => in_any ix 0 1099511627776 V)
  have C6 := Lib.hid (fun (V : World) => in_any lt 0 1099511627776 V)
  have C7 := Lib.hid (fun (V : World) => in_any cm 0 1099511627776 V)
  have C8 := Lib.hid (fun (V : World) => in_any ro 0 1099511627776 V)
  have C9 := Lib.hid (fun (V : World) => in_any off 0 1099511627776 V)
  have HOK := Lib.hid hok
  have HIN := Lib.hid (fun (n lo hi : Int) (V : World) => in_any n lo hi V)
  clear hok hl hel he gA
  generalize hD0 : decide (PK.in01 1 6 kd) = D0 at *
  generalize hD1 : decide (PK.in01 1 64 fr) = D1 at *
  generalize hD2 : decide (PK.in01 1 64 to) = D2 at *
  generalize hD4 : decide (PK.in01 1 1099511627776 tm) = D4 at *
  generalize hD5 : decide (PK.in01 0 1099511627776 ix) = D5 at *
  generalize hD6 : decide (PK.in01 0 1099511627776 lt) = D6 at *
  generalize hD7 : decide (PK.in01 0 1099511627776 cm) = D7 at *
  generalize hD8 : decide (PK.in01 0 1099511627776 ro) = D8 at *
  generalize hD9 : decide (PK.in01 0 1099511627776 off) = D9 at *
  clear hD0 hD1 hD2 hD4 hD5 hD6 hD7 hD8 hD9
  cases D0 with
  | false =>
    rw [Hdec.out false (by rw [HOK.out]; simp)]
    clear cont HES
    go_enter Tryz.func15, Tryz.ntmps15
    go_wp2_with fail
    rw [← hWa]
    clear hWa
    refine (C0.out Wa).mono ?_
    rintro e w0 ⟨rfl, hw0⟩
    subst hw0
    go_wp2
    go_ret
    exact ⟨by first | rfl | (simp; done) | (simp; omega), hBa.out⟩
  | true =>
    cases D1 with
    | false =>
      rw [Hdec.out false (by rw [HOK.out]; simp)]
      clear cont HES
      go_enter Tryz.func15, Tryz.ntmps15
      go_wp2_with fail
      rw [← hWa]
      clear hWa
      refine (C0.out Wa).mono ?_
      rintro e w0 ⟨rfl, hw0⟩
      subst hw0
      go_wp2_with fail
      refine (C1.out Wa).mono ?_
      rintro e w1 ⟨rfl, hw1⟩
      subst hw1
      go_wp2
      go_ret
      exact ⟨by first | rfl | (simp; done) | (simp; omega), hBa.out⟩
    | true =>
      cases D2 with
      | false =>
        rw [Hdec.out false (by rw [HOK.out]; simp)]
        clear cont HES
        go_enter Tryz.func15, Tryz.ntmps15
        go_wp2_with fail
        rw [← hWa]
        clear hWa
        refine (C0.out Wa).mono ?_
        rintro e w0 ⟨rfl, hw0⟩
        subst hw0
        go_wp2_with fail
        refine (C1.out Wa).mono ?_
        rintro e w1 ⟨rfl, hw1⟩
        subst hw1
        go_wp2_with fail
        refine (C2.out Wa).mono ?_
        rintro e w2 ⟨rfl, hw2⟩
        subst hw2
        go_wp2
        go_ret
        exact ⟨by first | rfl | (simp; done) | (simp; omega), hBa.out⟩
      | true =>
        by_cases hft : fr = to
        · have hb : (fr == to) = true := by simp [hft]
          rw [Hdec.out false (by rw [HOK.out]; simp [hft])]
          clear hft
          clear cont HES
          go_enter Tryz.func15, Tryz.ntmps15
          go_wp2_with fail
          rw [← hWa]
          clear hWa
          refine (C0.out Wa).mono ?_
          rintro e w0 ⟨rfl, hw0⟩
          subst hw0
          go_wp2_with fail
          refine (C1.out Wa).mono ?_
          rintro e w1 ⟨rfl, hw1⟩
          subst hw1
          go_wp2_with fail
          refine (C2.out Wa).mono ?_
          rintro e w2 ⟨rfl, hw2⟩
          subst hw2
          go_wp2
          go_ret
          exact ⟨by first | rfl | (simp; done) | (simp; omega), hBa.out⟩
        · have hb : (fr == to) = false := by simp [hft]
          cases D4 with
          | false =>
            rw [Hdec.out false (by rw [HOK.out]; simp)]
            clear cont HES
            go_enter Tryz.func15, Tryz.ntmps15
            go_wp2_with fail
            rw [← hWa]
            clear hWa
            refine (C0.out Wa).mono ?_
            rintro e w0 ⟨rfl, hw0⟩
            subst hw0
            go_wp2_with fail
            refine (C1.out Wa).mono ?_
            rintro e w1 ⟨rfl, hw1⟩
            subst hw1
            go_wp2_with fail
            refine (C2.out Wa).mono ?_
            rintro e w2 ⟨rfl, hw2⟩
            subst hw2
            go_wp2_with fail
            refine (C4.out Wa).mono ?_
            rintro e w4 ⟨rfl, hw4⟩
            subst hw4
            go_wp2
            go_ret
            exact ⟨by first | rfl | (simp; done) | (simp; omega), hBa.out⟩
          | true =>
            cases D5 with
            | false =>
              rw [Hdec.out false (by rw [HOK.out]; simp)]
              clear cont HES
              go_enter Tryz.func15, Tryz.ntmps15
              go_wp2_with fail
              rw [← hWa]
              clear hWa
              refine (C0.out Wa).mono ?_
              rintro e w0 ⟨rfl, hw0⟩
              subst hw0
              go_wp2_with fail
              refine (C1.out Wa).mono ?_
              rintro e w1 ⟨rfl, hw1⟩
              subst hw1
              go_wp2_with fail
              refine (C2.out Wa).mono ?_
              rintro e w2 ⟨rfl, hw2⟩
              subst hw2
              go_wp2_with fail
              refine (C4.out Wa).mono ?_
              rintro e w4 ⟨rfl, hw4⟩
              subst hw4
              go_wp2_with fail
              refine (C5.out Wa).mono ?_
              rintro e w5 ⟨rfl, hw5⟩
              subst hw5
              go_wp2
              go_ret
              exact ⟨by first | rfl | (simp; done) | (simp; omega), hBa.out⟩
            | true =>
              cases D6 with
              | false =>
                rw [Hdec.out false (by rw [HOK.out]; simp)]
                clear cont HES
                go_enter Tryz.func15, Tryz.ntmps15
                go_wp2_with fail
                rw [← hWa]
                clear hWa
                refine (C0.out Wa).mono ?_
                rintro e w0 ⟨rfl, hw0⟩
                subst hw0
                go_wp2_with fail
                refine (C1.out Wa).mono ?_
                rintro e w1 ⟨rfl, hw1⟩
                subst hw1
                go_wp2_with fail
                refine (C2.out Wa).mono ?_
                rintro e w2 ⟨rfl, hw2⟩
                subst hw2
                go_wp2_with fail
                refine (C4.out Wa).mono ?_
                rintro e w4 ⟨rfl, hw4⟩
                subst hw4
                go_wp2_with fail
                refine (C5.out Wa).mono ?_
                rintro e w5 ⟨rfl, hw5⟩
                subst hw5
                go_wp2_with fail
                refine (C6.out Wa).mono ?_
                rintro e w6 ⟨rfl, hw6⟩
                subst hw6
                go_wp2
                go_ret
                exact ⟨by first | rfl | (simp; done) | (simp; omega), hBa.out⟩
              | true =>
                cases D7 with
                | false =>
                  rw [Hdec.out false (by rw [HOK.out]; simp)]
                  clear cont HES
                  go_enter Tryz.func15, Tryz.ntmps15
                  go_wp2_with fail
                  rw [← hWa]
                  clear hWa
                  refine (C0.out Wa).mono ?_
                  rintro e w0 ⟨rfl, hw0⟩
                  subst hw0
                  go_wp2_with fail
                  refine (C1.out Wa).mono ?_
                  rintro e w1 ⟨rfl, hw1⟩
                  subst hw1
                  go_wp2_with fail
                  refine (C2.out Wa).mono ?_
                  rintro e w2 ⟨rfl, hw2⟩
                  subst hw2
                  go_wp2_with fail
                  refine (C4.out Wa).mono ?_
                  rintro e w4 ⟨rfl, hw4⟩
                  subst hw4
                  go_wp2_with fail
                  refine (C5.out Wa).mono ?_
                  rintro e w5 ⟨rfl, hw5⟩
                  subst hw5
                  go_wp2_with fail
                  refine (C6.out Wa).mono ?_
                  rintro e w6 ⟨rfl, hw6⟩
                  subst hw6
                  go_wp2_with fail
                  refine (C7.out Wa).mono ?_
                  rintro e w7 ⟨rfl, hw7⟩
                  subst hw7
                  go_wp2
                  go_ret
                  exact ⟨by first | rfl | (simp; done) | (simp; omega), hBa.out⟩
                | true =>
                  cases D8 with
                  | false =>
                    rw [Hdec.out false (by rw [HOK.out]; simp)]
                    clear cont HES
                    go_enter Tryz.func15, Tryz.ntmps15
                    go_wp2_with fail
                    rw [← hWa]
                    clear hWa
                    refine (C0.out Wa).mono ?_
                    rintro e w0 ⟨rfl, hw0⟩
                    subst hw0
                    go_wp2_with fail
                    refine (C1.out Wa).mono ?_
                    rintro e w1 ⟨rfl, hw1⟩
                    subst hw1
                    go_wp2_with fail
                    refine (C2.out Wa).mono ?_
                    rintro e w2 ⟨rfl, hw2⟩
                    subst hw2
                    go_wp2_with fail
                    refine (C4.out Wa).mono ?_
                    rintro e w4 ⟨rfl, hw4⟩
                    subst hw4
                    go_wp2_with fail
                    refine (C5.out Wa).mono ?_
                    rintro e w5 ⟨rfl, hw5⟩
                    subst hw5
                    go_wp2_with fail
                    refine (C6.out Wa).mono ?_
                    rintro e w6 ⟨rfl, hw6⟩
                    subst hw6
                    go_wp2_with fail
                    refine (C7.out Wa).mono ?_
                    rintro e w7 ⟨rfl, hw7⟩
                    subst hw7
                    go_wp2_with fail
                    refine (C8.out Wa).mono ?_
                    rintro e w8 ⟨rfl, hw8⟩
                    subst hw8
                    go_wp2
                    go_ret
                    exact ⟨by first | rfl | (simp; done) | (simp; omega), hBa.out⟩
                  | true =>
                    cases D9 with
                    | false =>
                      rw [Hdec.out false (by rw [HOK.out]; simp)]
                      clear cont HES
                      go_enter Tryz.func15, Tryz.ntmps15
                      go_wp2_with fail
                      rw [← hWa]
                      clear hWa
                      refine (C0.out Wa).mono ?_
                      rintro e w0 ⟨rfl, hw0⟩
                      subst hw0
                      go_wp2_with fail
                      refine (C1.out Wa).mono ?_
                      rintro e w1 ⟨rfl, hw1⟩
                      subst hw1
                      go_wp2_with fail
                      refine (C2.out Wa).mono ?_
                      rintro e w2 ⟨rfl, hw2⟩
                      subst hw2
                      go_wp2_with fail
                      refine (C4.out Wa).mono ?_
                      rintro e w4 ⟨rfl, hw4⟩
                      subst hw4
                      go_wp2_with fail
                      refine (C5.out Wa).mono ?_
                      rintro e w5 ⟨rfl, hw5⟩
                      subst hw5
                      go_wp2_with fail
                      refine (C6.out Wa).mono ?_
                      rintro e w6 ⟨rfl, hw6⟩
                      subst hw6
                      go_wp2_with fail
                      refine (C7.out Wa).mono ?_
                      rintro e w7 ⟨rfl, hw7⟩
                      subst hw7
                      go_wp2_with fail
                      refine (C8.out Wa).mono ?_
                      rintro e w8 ⟨rfl, hw8⟩
                      subst hw8
                      go_wp2_with fail
                      refine (C9.out Wa).mono ?_
                      rintro e w9 ⟨rfl, hw9⟩
                      subst hw9
                      go_wp2
                      go_ret
                      exact ⟨by first | rfl | (simp; done) | (simp; omega), hBa.out⟩
                    | true =>
                      by_cases hdn : dn ≤ 4096
                      · have hd1 : ¬ ((4096 : Int) < (dn : Int)) := by omega
                        by_cases hen : en ≤ 64
                        · have he1 : ¬ ((64 : Int) < (en : Int)) := by omega
                          go_enter Tryz.func15, Tryz.ntmps15
                          go_wp2_with fail
                          rw [← hWa]
                          clear hWa
                          refine (C0.out Wa).mono ?_
                          rintro e w0 ⟨rfl, hw0⟩
                          subst hw0
                          go_wp2_with fail
                          refine (C1.out Wa).mono ?_
                          rintro e w1 ⟨rfl, hw1⟩
                          subst hw1
                          go_wp2_with fail
                          refine (C2.out Wa).mono ?_
                          rintro e w2 ⟨rfl, hw2⟩
                          subst hw2
                          go_wp2_with fail
                          refine (C4.out Wa).mono ?_
                          rintro e w4 ⟨rfl, hw4⟩
                          subst hw4
                          go_wp2_with fail
                          refine (C5.out Wa).mono ?_
                          rintro e w5 ⟨rfl, hw5⟩
                          subst hw5
                          go_wp2_with fail
                          refine (C6.out Wa).mono ?_
                          rintro e w6 ⟨rfl, hw6⟩
                          subst hw6
                          go_wp2_with fail
                          refine (C7.out Wa).mono ?_
                          rintro e w7 ⟨rfl, hw7⟩
                          subst hw7
                          go_wp2_with fail
                          refine (C8.out Wa).mono ?_
                          rintro e w8 ⟨rfl, hw8⟩
                          subst hw8
                          go_wp2_with fail
                          refine (C9.out Wa).mono ?_
                          rintro e w9 ⟨rfl, hw9⟩
                          subst hw9
                          have Hres : Hid (R = okAll es) := Lib.hid (Hdec.out _ (by rw [HOK.out]; exact ⟨fun h => ⟨⟨by trivial, by trivial, by trivial, hft⟩, ⟨by trivial, by trivial, by trivial, by trivial, by trivial, by trivial⟩, hdn, hen, h⟩, fun h => h.2.2.2.2⟩))
                          clear hft Hdec HOK
                          go_wp2
                          go_loopw [3] (fun v V => ∃ k : Nat, k ≤ en ∧ v = .int .i64 k ∧ Hid (okAll (es.take k) = true) ∧ Hid (Below (w.heap.size + 1) Wa V)) (fun v _ => en - (intOf v).toNat)
                          case atStart => exact ⟨0, by omega, rfl, rfl, Lib.hid (Below.refl _ _)⟩
                          case round =>
                            obtain ⟨k, hk, rfl, Hno, B1⟩ := hrel
                            obtain ⟨_, q0, q1, q2, q3, q4, q5, q6, q7, q8, q9, qa, qb⟩ := cont.out wr B1.out
                            clear q0 q1 q2 q3 q4 q5 q6 q7 q8 q9 qa
                            have HLen := Lib.hid (HES.out wr B1.out).len
                            by_cases hlt : k < en
                            · have hkl : k < es.length := by rw [HLen.out.1]; exact hlt
                              obtain ⟨x, hx⟩ : ∃ x, es[k]? = some x := ⟨_, List.getElem?_eq_getElem hkl⟩
                              obtain ⟨⟨b, o, rfl, c0, c1, c2, c3⟩, hf⟩ := (HES.out wr B1.out).at k x hx
                              have hoke := okE_dec x
                              have hlen := hf.len
                              have hsucc := okAll_take hx
                              have hbad := fun h => okAll_no hx h
                              rw [Hno.out, Bool.true_and] at hsucc
                              rw [hoke] at hsucc hbad
                              rw [hlen] at hsucc hbad
                              have E1 := Lib.hid (fun (V : World) => HIN.out x.i 1 1099511627776 V)
                              have E2 := Lib.hid (fun (V : World) => HIN.out x.t 1 1099511627776 V)
                              have E3 := Lib.hid (fun (V : World) => HIN.out x.k 0 2 V)
                              generalize decide (PK.in01 1 1099511627776 x.i) = d1 at *
                              generalize decide (PK.in01 1 1099511627776 x.t) = d2 at *
                              generalize decide (PK.in01 0 2 x.k) = d3 at *
                              have Hsucc := Lib.hid hsucc
                              have Hbad := Lib.hid hbad
                              have hwr := B1.out.size
                              rw [hsz.out] at hwr
                              have Hwr := Lib.hid hwr
                              generalize x.n = xn at *
                              generalize x.i = xi at *
                              generalize x.t = xt at *
                              generalize x.k = xk at *
                              generalize x.a = xa at *
                              generalize x.c = xc at *
                              clear hx hkl hf hoke hlen hsucc hbad HIN HES cont hwr
                              have NB : Hid (Below (w.heap.size + 1) Wa (wr.alloc (.cells #[.int .i64 xi, .int .i64 xt, .int .i64 xk, .slice xa xn xc] 71))) := Lib.hid (B1.out.alloc Hwr.out _)
                              have ba := hBa.out.trans (NB.out.mono (Nat.le_succ _))
                              have BA := Lib.hid ba
                              clear ba
                              cases d1 with
                              | false =>
                                go_wp2_with fail
                                refine (E1.out _).mono ?_
                                rintro e v1 ⟨rfl, rfl⟩
                                go_wp2
                                go_ret
                                refine ⟨?_, BA.out⟩
                                rw [Hres.out, Hbad.out (by simp; try omega)]
                                try rfl
                              | true =>
                                cases d2 with
                                | false =>
                                  go_wp2_with fail
                                  refine (E1.out _).mono ?_
                                  rintro e v1 ⟨rfl, rfl⟩
                                  go_wp2_with fail
                                  refine (E2.out _).mono ?_
                                  rintro e v2 ⟨rfl, rfl⟩
                                  go_wp2
                                  go_ret
                                  refine ⟨?_, BA.out⟩
                                  rw [Hres.out, Hbad.out (by simp; try omega)]
                                  try rfl
                                | true =>
                                  cases d3 with
                                  | false =>
                                    go_wp2_with fail
                                    refine (E1.out _).mono ?_
                                    rintro e v1 ⟨rfl, rfl⟩
                                    go_wp2_with fail
                                    refine (E2.out _).mono ?_
                                    rintro e v2 ⟨rfl, rfl⟩
                                    go_wp2_with fail
                                    refine (E3.out _).mono ?_
                                    rintro e v3 ⟨rfl, rfl⟩
                                    go_wp2
                                    go_ret
                                    refine ⟨?_, BA.out⟩
                                    rw [Hres.out, Hbad.out (by simp; try omega)]
                                    try rfl
                                  | true =>
                                    by_cases hxn : xn ≤ 4096
                                    · have hx1 : ¬ ((4096 : Int) < (xn : Int)) := by omega
                                      go_wp2_with fail
                                      refine (E1.out _).mono ?_
                                      rintro e v1 ⟨rfl, rfl⟩
                                      go_wp2_with fail
                                      refine (E2.out _).mono ?_
                                      rintro e v2 ⟨rfl, rfl⟩
                                      go_wp2_with fail
                                      refine (E3.out _).mono ?_
                                      rintro e v3 ⟨rfl, rfl⟩
                                      go_wp2
                                      exact ⟨⟨k + 1, hlt, by simp, Lib.hid (by rw [Hsucc.out]; simp; omega), NB⟩, by simp [intOf]; omega⟩
                                    · have hx1 : (4096 : Int) < (xn : Int) := by omega
                                      go_wp2_with fail
                                      refine (E1.out _).mono ?_
                                      rintro e v1 ⟨rfl, rfl⟩
                                      go_wp2_with fail
                                      refine (E2.out _).mono ?_
                                      rintro e v2 ⟨rfl, rfl⟩
                                      go_wp2_with fail
                                      refine (E3.out _).mono ?_
                                      rintro e v3 ⟨rfl, rfl⟩
                                      go_wp2
                                      go_ret
                                      refine ⟨?_, BA.out⟩
                                      rw [Hres.out, Hbad.out (by simp; try omega)]
                                      try rfl
                            · obtain rfl : k = en := by omega
                              have Hs : Hid (R = true) := Lib.hid (by rw [Hres.out]; have := Hno.out; rwa [List.take_of_length_le (by rw [HLen.out.1]; exact Nat.le_refl _)] at this)
                              have ba := hBa.out.trans (B1.out.mono (Nat.le_succ _))
                              have BA := Lib.hid ba
                              clear ba cont HES HIN
                              go_wp2
                              go_ret
                              refine ⟨?_, BA.out⟩
                              rw [Hs.out]
                              try rfl
                        · have he1 : (64 : Int) < (en : Int) := by omega
                          rw [Hdec.out false (by rw [HOK.out]; simp; omega)]
                          clear hen
                          clear cont HES
                          go_enter Tryz.func15, Tryz.ntmps15
                          go_wp2_with fail
                          rw [← hWa]
                          clear hWa
                          refine (C0.out Wa).mono ?_
                          rintro e w0 ⟨rfl, hw0⟩
                          subst hw0
                          go_wp2_with fail
                          refine (C1.out Wa).mono ?_
                          rintro e w1 ⟨rfl, hw1⟩
                          subst hw1
                          go_wp2_with fail
                          refine (C2.out Wa).mono ?_
                          rintro e w2 ⟨rfl, hw2⟩
                          subst hw2
                          go_wp2_with fail
                          refine (C4.out Wa).mono ?_
                          rintro e w4 ⟨rfl, hw4⟩
                          subst hw4
                          go_wp2_with fail
                          refine (C5.out Wa).mono ?_
                          rintro e w5 ⟨rfl, hw5⟩
                          subst hw5
                          go_wp2_with fail
                          refine (C6.out Wa).mono ?_
                          rintro e w6 ⟨rfl, hw6⟩
                          subst hw6
                          go_wp2_with fail
                          refine (C7.out Wa).mono ?_
                          rintro e w7 ⟨rfl, hw7⟩
                          subst hw7
                          go_wp2_with fail
                          refine (C8.out Wa).mono ?_
                          rintro e w8 ⟨rfl, hw8⟩
                          subst hw8
                          go_wp2_with fail
                          refine (C9.out Wa).mono ?_
                          rintro e w9 ⟨rfl, hw9⟩
                          subst hw9
                          go_wp2
                          go_ret
                          exact ⟨by first | rfl | (simp; done) | (simp; omega), hBa.out⟩
                      · have hd1 : (4096 : Int) < (dn : Int) := by omega
                        rw [Hdec.out false (by rw [HOK.out]; simp; omega)]
                        clear hdn
                        clear cont HES
                        go_enter Tryz.func15, Tryz.ntmps15
                        go_wp2_with fail
                        rw [← hWa]
                        clear hWa
                        refine (C0.out Wa).mono ?_
                        rintro e w0 ⟨rfl, hw0⟩
                        subst hw0
                        go_wp2_with fail
                        refine (C1.out Wa).mono ?_
                        rintro e w1 ⟨rfl, hw1⟩
                        subst hw1
                        go_wp2_with fail
                        refine (C2.out Wa).mono ?_
                        rintro e w2 ⟨rfl, hw2⟩
                        subst hw2
                        go_wp2_with fail
                        refine (C4.out Wa).mono ?_
                        rintro e w4 ⟨rfl, hw4⟩
                        subst hw4
                        go_wp2_with fail
                        refine (C5.out Wa).mono ?_
                        rintro e w5 ⟨rfl, hw5⟩
                        subst hw5
                        go_wp2_with fail
                        refine (C6.out Wa).mono ?_
                        rintro e w6 ⟨rfl, hw6⟩
                        subst hw6
                        go_wp2_with fail
                        refine (C7.out Wa).mono ?_
                        rintro e w7 ⟨rfl, hw7⟩
                        subst hw7
                        go_wp2_with fail
                        refine (C8.out Wa).mono ?_
                        rintro e w8 ⟨rfl, hw8⟩
                        subst hw8
                        go_wp2_with fail
                        refine (C9.out Wa).mono ?_
                        rintro e w9 ⟨rfl, hw9⟩
                        subst hw9
                        go_wp2
                        go_ret
                        exact ⟨by first | rfl | (simp; done) | (simp; omega), hBa.out⟩
end Go.Proofs.YtbgockggbpmhnaaGreatDoor
