/-
  The document's claim, by a contract.
  Conditions: the slices read as nodes, at most 256, and uses, at most 1024, whose amounts are at most 2^40.
-/
import Derived.Test.YtflghelhdalhiaaGreatDoorG11
import Derived.Test.YtflghelhdalhiaaGreatDoorTextR
namespace Go.Proofs.YtflghelhdalhiaaGreatDoor
open Go Go.RowKit

/-- What a node claims of its parent. -/
def QT.claim1 (N : List QT.Nd) (L : List QT.Us) (x : QT.Nd) : Int := max (QT.Used N L QT.Us.a1 x.nm : Int) ((QT.Total N QT.Nd.o1 x.nm : Int) - (x.l1 : Int))
def QT.claim2 (N : List QT.Nd) (L : List QT.Us) (x : QT.Nd) : Int := max (QT.Used N L QT.Us.a2 x.nm : Int) ((QT.Total N QT.Nd.o2 x.nm : Int) - (x.l2 : Int))
theorem max_gt {a b : Int} (h : b < a) : max a b = a := Int.max_eq_left (Int.le_of_lt h)
theorem max_le {a b : Int} (h : ¬ b < a) : max a b = b := Int.max_eq_right (Int.not_lt.1 h)
set_option maxRecDepth 100000 in
set_option maxHeartbeats 8000000 in
/-- claim. -/
theorem rclaim_any (a0 : Option Addr) (n0 c0 : Nat) (a : Option Addr) (n c : Nat) (N : List QT.Nd) (L : List QT.Us) (x : QT.Nd) (w : World) (hM : RdsNd w (.slice a0 n0 c0) N) (hN : RdsUs w (.slice a n c) L) (hs0 : n0 ≤ 256) (hs : n ≤ 1024)
    (hf0 : ∀ x ∈ N, x.o1 ≤ 1099511627776 ∧ x.o2 ≤ 1099511627776) (hf : ∀ x ∈ L, x.a1 ≤ 1099511627776 ∧ x.a2 ≤ 1099511627776) (hx : x.l1 ≤ 1099511627776 ∧ x.l2 ≤ 1099511627776) :
    Calls Tryz.prog 59 #[.agg #[.slice a0 n0 c0, .slice a n c], .agg #[.string (str x.nm), .string (str x.pr), .complex .f64 (FL.fB x.o1) (FL.fB x.o2), .complex .f64 (FL.fB x.b1) (FL.fB x.b2), .complex .f64 (FL.fB x.l1) (FL.fB x.l2)]] w
      fun v w' => v = .returned (.complex .f64 (FL.fI (QT.claim1 N L x)) (FL.fI (QT.claim2 N L x))) ∧ Below w.heap.size w w' := by
  have HT := Lib.hid (fun (V : World) (b : Below w.heap.size w V) => rtotal_any a0 n0 c0 (.slice a n c) N x.nm V (hM.below b) hs0 hf0)
  have HU := Lib.hid (fun (V : World) (b : Below w.heap.size w V) => rused_any a0 n0 c0 a n c N L x.nm V (hM.below b) (hN.below b) hs0 hs hf)
  have t1 := QT.total_bound N QT.Nd.o1 x.nm (B := 1099511627776) (fun y hy => (hf0 y hy).1)
  have t2 := QT.total_bound N QT.Nd.o2 x.nm (B := 1099511627776) (fun y hy => (hf0 y hy).2)
  have u1 := QT.used_bound N L QT.Us.a1 x.nm (B := 1099511627776) (fun y hy => (hf y hy).1)
  have u2 := QT.used_bound N L QT.Us.a2 x.nm (B := 1099511627776) (fun y hy => (hf y hy).2)
  have l0 := hM.len.1
  have l1 := hN.len.1
  rw [l0] at t1 t2
  rw [l1] at u1 u2
  have m0 := Nat.mul_le_mul_right 1099511627776 hs0
  have m1 := Nat.mul_le_mul_right 1099511627776 hs
  unfold QT.claim1 QT.claim2
  generalize QT.Total N QT.Nd.o1 x.nm = T1 at *
  generalize QT.Total N QT.Nd.o2 x.nm = T2 at *
  generalize QT.Used N L QT.Us.a1 x.nm = U1 at *
  generalize QT.Used N L QT.Us.a2 x.nm = U2 at *
  have s1 : ∀ V : World, (binOp .sub 53 (.float .f64 (FL.fB T1)) (.float .f64 (FL.fB x.l1))).run Tryz.prog V = .ok (.float .f64 (FL.fI ((T1 : Int) - (x.l1 : Int)))) V := fun V => run_fsub _ (T1 : Int) (x.l1 : Int) V (by unfold W53; omega) (by unfold W53; omega) (by unfold W53; omega)
  have s2 : ∀ V : World, (binOp .sub 53 (.float .f64 (FL.fB T2)) (.float .f64 (FL.fB x.l2))).run Tryz.prog V = .ok (.float .f64 (FL.fI ((T2 : Int) - (x.l2 : Int)))) V := fun V => run_fsub _ (T2 : Int) (x.l2 : Int) V (by unfold W53; omega) (by unfold W53; omega) (by unfold W53; omega)
  have g1 : (FloatKind.f64.format.order (FL.fB U1) (FL.fI ((T1 : Int) - (x.l1 : Int))) == some .gt) = decide ((T1 : Int) - (x.l1 : Int) < (U1 : Int)) := ford_gt (U1 : Int) _ (by unfold W53; omega) (by unfold W53; omega)
  have g2 : (FloatKind.f64.format.order (FL.fB U2) (FL.fI ((T2 : Int) - (x.l2 : Int))) == some .gt) = decide ((T2 : Int) - (x.l2 : Int) < (U2 : Int)) := ford_gt (U2 : Int) _ (by unfold W53; omega) (by unfold W53; omega)
  have r1 : FL.fB U1 = FL.fI (U1 : Int) := rfl
  have r2 : FL.fB U2 = FL.fI (U2 : Int) := rfl
  generalize ((T1 : Int) - (x.l1 : Int)) = D1 at *
  generalize ((T2 : Int) - (x.l2 : Int)) = D2 at *
  obtain ⟨Wb, hWb⟩ : ∃ W, W = (w.alloc (.cells #[.slice a0 n0 c0, .slice a n c] 32)).alloc (.cells #[.string (str x.nm), .string (str x.pr), .complex .f64 (FL.fB x.o1) (FL.fB x.o2), .complex .f64 (FL.fB x.b1) (FL.fB x.b2), .complex .f64 (FL.fB x.l1) (FL.fB x.l2)] 83) := ⟨_, rfl⟩
  have hrf : Below ((w.alloc (.cells #[.slice a0 n0 c0, .slice a n c] 32)).alloc (.cells #[.string (str x.nm), .string (str x.pr), .complex .f64 (FL.fB x.o1) (FL.fB x.o2), .complex .f64 (FL.fB x.b1) (FL.fB x.b2), .complex .f64 (FL.fB x.l1) (FL.fB x.l2)] 83)).heap.size ((w.alloc (.cells #[.slice a0 n0 c0, .slice a n c] 32)).alloc (.cells #[.string (str x.nm), .string (str x.pr), .complex .f64 (FL.fB x.o1) (FL.fB x.o2), .complex .f64 (FL.fB x.b1) (FL.fB x.b2), .complex .f64 (FL.fB x.l1) (FL.fB x.l2)] 83)) Wb := by rw [hWb]; exact Below.refl _ _
  obtain ⟨gA, gB, bb⟩ := own2 hrf
  have hB1 : w.heap.size + 1 < Wb.heap.size := (Array.getElem?_eq_some_iff.1 gB).1
  obtain ⟨v0, v1, _, _⟩ := cells2 gA
  have v2 : Wb.cell? ⟨w.heap.size + 1, 0, none⟩ = some (.string (str x.nm)) := by simp [World.cell?, gB]
  have v3 : Wb.cell? ⟨w.heap.size + 1, 4, none⟩ = some (.complex .f64 (FL.fB x.l1) (FL.fB x.l2)) := by simp [World.cell?, gB]
  have cont : Hid (∀ V, Below Wb.heap.size Wb V → (Hid (Below Wb.heap.size Wb V) ∧ V.cell? ⟨w.heap.size, 0, none⟩ = some (.slice a0 n0 c0) ∧ V.cell? ⟨w.heap.size, 1, none⟩ = some (.slice a n c) ∧ V.cell? ⟨w.heap.size + 1, 0, none⟩ = some (.string (str x.nm)) ∧ V.cell? ⟨w.heap.size + 1, 4, none⟩ = some (.complex .f64 (FL.fB x.l1) (FL.fB x.l2)))) := fun V h => ⟨Lib.hid h, (World.cell?_of_block (a := ⟨w.heap.size, 0, none⟩) (h.block w.heap.size (by omega))).trans v0, (World.cell?_of_block (a := ⟨w.heap.size, 1, none⟩) (h.block w.heap.size (by omega))).trans v1, (World.cell?_of_block (a := ⟨w.heap.size + 1, 0, none⟩) (h.block _ hB1)).trans v2, (World.cell?_of_block (a := ⟨w.heap.size + 1, 4, none⟩) (h.block _ hB1)).trans v3⟩
  have BB := Lib.hid bb
  have fin : Hid (∀ V, (Hid (Below Wb.heap.size Wb V) ∧ V.cell? ⟨w.heap.size, 0, none⟩ = some (.slice a0 n0 c0) ∧ V.cell? ⟨w.heap.size, 1, none⟩ = some (.slice a n c) ∧ V.cell? ⟨w.heap.size + 1, 0, none⟩ = some (.string (str x.nm)) ∧ V.cell? ⟨w.heap.size + 1, 4, none⟩ = some (.complex .f64 (FL.fB x.l1) (FL.fB x.l2))) → Below w.heap.size w V) := fun V h => BB.out.trans (h.1.out.mono BB.out.size)
  have C1 : Hid (∀ V, (Hid (Below Wb.heap.size Wb V) ∧ V.cell? ⟨w.heap.size, 0, none⟩ = some (.slice a0 n0 c0) ∧ V.cell? ⟨w.heap.size, 1, none⟩ = some (.slice a n c) ∧ V.cell? ⟨w.heap.size + 1, 0, none⟩ = some (.string (str x.nm)) ∧ V.cell? ⟨w.heap.size + 1, 4, none⟩ = some (.complex .f64 (FL.fB x.l1) (FL.fB x.l2))) → Calls Tryz.prog 57 #[.agg #[.slice a0 n0 c0, .slice a n c], .string (str x.nm)] V fun e w' => e = .returned (.complex .f64 (FL.fB T1) (FL.fB T2)) ∧ (Hid (Below Wb.heap.size Wb w') ∧ w'.cell? ⟨w.heap.size, 0, none⟩ = some (.slice a0 n0 c0) ∧ w'.cell? ⟨w.heap.size, 1, none⟩ = some (.slice a n c) ∧ w'.cell? ⟨w.heap.size + 1, 0, none⟩ = some (.string (str x.nm)) ∧ w'.cell? ⟨w.heap.size + 1, 4, none⟩ = some (.complex .f64 (FL.fB x.l1) (FL.fB x.l2)))) := fun V h => (HT.out V (fin.out V h)).mono fun e w' ⟨e1, e2⟩ => ⟨e1, cont.out w' (h.1.out.trans (e2.mono h.1.out.size))⟩
  have C2 : Hid (∀ V, (Hid (Below Wb.heap.size Wb V) ∧ V.cell? ⟨w.heap.size, 0, none⟩ = some (.slice a0 n0 c0) ∧ V.cell? ⟨w.heap.size, 1, none⟩ = some (.slice a n c) ∧ V.cell? ⟨w.heap.size + 1, 0, none⟩ = some (.string (str x.nm)) ∧ V.cell? ⟨w.heap.size + 1, 4, none⟩ = some (.complex .f64 (FL.fB x.l1) (FL.fB x.l2))) → Calls Tryz.prog 58 #[.agg #[.slice a0 n0 c0, .slice a n c], .string (str x.nm)] V fun e w' => e = .returned (.complex .f64 (FL.fB U1) (FL.fB U2)) ∧ (Hid (Below Wb.heap.size Wb w') ∧ w'.cell? ⟨w.heap.size, 0, none⟩ = some (.slice a0 n0 c0) ∧ w'.cell? ⟨w.heap.size, 1, none⟩ = some (.slice a n c) ∧ w'.cell? ⟨w.heap.size + 1, 0, none⟩ = some (.string (str x.nm)) ∧ w'.cell? ⟨w.heap.size + 1, 4, none⟩ = some (.complex .f64 (FL.fB x.l1) (FL.fB x.l2)))) := fun V h => (HU.out V (fin.out V h)).mono fun e w' ⟨e1, e2⟩ => ⟨e1, cont.out w' (h.1.out.trans (e2.mono h.1.out.size))⟩
  have S0 := cont.out Wb.drew (Below.refl _ _).drew
  clear hM hN hs0 hs hf0 hf hx t1 t2 u1 u2 l0 l1 m0 m1 r1 r2 hrf gA gB bb hB1 v0 v1 v2 v3 HT HU
  go_enter Tryz.func59, Tryz.ntmps59
  go_wp2_with fail
  rw [← hWb]
  clear hWb
  refine wp_region_noPanic ?_
  refine wp_region_held_drew (S := fun V => (Hid (Below Wb.heap.size Wb V) ∧ V.cell? ⟨w.heap.size, 0, none⟩ = some (.slice a0 n0 c0) ∧ V.cell? ⟨w.heap.size, 1, none⟩ = some (.slice a n c) ∧ V.cell? ⟨w.heap.size + 1, 0, none⟩ = some (.string (str x.nm)) ∧ V.cell? ⟨w.heap.size + 1, 4, none⟩ = some (.complex .f64 (FL.fB x.l1) (FL.fB x.l2)))) (by kernel_rfl) S0 (fun hHeld => ?_)
  refine wpAnyH_take (i := 0) (v := ?hvq_0) (List.getElem?_toArray.trans rfl) (by kernel_rfl) (by kernel_rfl) (by kernel_rfl) (fun _ _ _ h => h) (Or.inl ⟨by rfl, ?hyq_0⟩) (by assumption) ?hrq_0
  case hyq_0 => (intro wt hSw; (try dsimp only at hSw); go_simp; try (with_reducible rfl))
  try simp only [Act.put, List.setIfInBounds_toArray, List.set_cons_zero, List.set_cons_succ]
  refine wpAnyH_take (i := 1) (v := ?hvq_1) (List.getElem?_toArray.trans rfl) (by kernel_rfl) (by kernel_rfl) (by kernel_rfl) (fun _ _ _ h => h) (Or.inl ⟨by rfl, ?hyq_1⟩) (by assumption) ?hrq_1
  case hyq_1 => (intro wt hSw; (try dsimp only at hSw); go_simp; try (with_reducible rfl))
  try simp only [Act.put, List.setIfInBounds_toArray, List.set_cons_zero, List.set_cons_succ]
  refine wpAnyH_take (i := 2) (v := ?hvq_2) (List.getElem?_toArray.trans rfl) (by kernel_rfl) (by kernel_rfl) (by kernel_rfl) (fun _ _ _ h => h) (Or.inl ⟨by rfl, ?hyq_2⟩) (by assumption) ?hrq_2
  case hyq_2 => (intro wt hSw; (try dsimp only at hSw); go_simp; try (with_reducible rfl))
  try simp only [Act.put, List.setIfInBounds_toArray, List.set_cons_zero, List.set_cons_succ]
  refine wpAnyH_take (i := 4) (v := ?hvq_4) (List.getElem?_toArray.trans rfl) (by kernel_rfl) (by kernel_rfl) (by kernel_rfl) (fun _ _ _ h => h) (Or.inl ⟨by rfl, ?hyq_4⟩) (by assumption) ?hrq_4
  case hyq_4 => (intro wt hSw; (try dsimp only at hSw); go_simp; try (with_reducible rfl))
  try simp only [Act.put, List.setIfInBounds_toArray, List.set_cons_zero, List.set_cons_succ]
  refine wpAnyH_take (i := 5) (v := ?hvq_5) (List.getElem?_toArray.trans rfl) (by kernel_rfl) (by kernel_rfl) (by kernel_rfl) (fun _ _ _ h => h) (Or.inl ⟨by rfl, ?hyq_5⟩) (by assumption) ?hrq_5
  case hyq_5 => (intro wt hSw; (try dsimp only at hSw); go_simp; try (with_reducible rfl))
  try simp only [Act.put, List.setIfInBounds_toArray, List.set_cons_zero, List.set_cons_succ]
  refine wpAnyH_take (i := 6) (v := ?hvq_6) (List.getElem?_toArray.trans rfl) (by kernel_rfl) (by kernel_rfl) (by kernel_rfl) (fun _ _ _ h => h) (Or.inl ⟨by rfl, ?hyq_6⟩) (by assumption) ?hrq_6
  case hyq_6 => (intro wt hSw; (try dsimp only at hSw); go_simp; try (with_reducible rfl))
  try simp only [Act.put, List.setIfInBounds_toArray, List.set_cons_zero, List.set_cons_succ]
  refine wpAnyH_ready (rs := [3]) (by kernel_rfl) (by simp) ?_
  refine AllReadyH.cons (List.getElem?_toArray.trans rfl) (fun K hK => ?_) AllReadyH.nil
  go_simp
  go_at_call 57
  refine (C1.out _ ?_).mono ?_
  assumption
  rintro e vx ⟨rfl, kx⟩
  clear C1
  try (go_wp2_with fail)
  refine hK.out _ _ ?_ (fun hHeld => ?_)
  · (try dsimp only)
    assumption
  clear hK K
  try simp only [Act.put, List.setIfInBounds_toArray, List.set_cons_zero, List.set_cons_succ]
  refine wpAnyH_ready (rs := [7]) (by kernel_rfl) (by simp) ?_
  refine AllReadyH.cons (List.getElem?_toArray.trans rfl) (fun K hK => ?_) AllReadyH.nil
  go_simp
  go_at_call 58
  refine (C2.out _ ?_).mono ?_
  assumption
  rintro e vy ⟨rfl, ky⟩
  clear C2
  try (go_wp2_with fail)
  refine hK.out _ _ ?_ (fun hHeld => ?_)
  · (try dsimp only)
    assumption
  clear hK K
  try simp only [Act.put, List.setIfInBounds_toArray, List.set_cons_zero, List.set_cons_succ]
  refine wpAnyH_take (i := 8) (v := ?hvq_8) (List.getElem?_toArray.trans rfl) (by kernel_rfl) (by kernel_rfl) (by kernel_rfl) (fun _ _ _ h => h) (Or.inl ⟨by rfl, ?hyq_8⟩) (by assumption) ?hrq_8
  case hyq_8 => (intro wt hSw; (try dsimp only at hSw); go_simp; try (with_reducible rfl))
  try simp only [Act.put, List.setIfInBounds_toArray, List.set_cons_zero, List.set_cons_succ]
  refine wpAnyH_take (i := 9) (v := ?hvq_9) (List.getElem?_toArray.trans rfl) (by kernel_rfl) (by kernel_rfl) (by kernel_rfl) (fun _ _ _ h => h) (Or.inl ⟨by rfl, ?hyq_9⟩) (by assumption) ?hrq_9
  case hyq_9 => (intro wt hSw; (try dsimp only at hSw); go_simp; try (with_reducible rfl))
  try simp only [Act.put, List.setIfInBounds_toArray, List.set_cons_zero, List.set_cons_succ]
  refine wpAnyH_done (by kernel_rfl) ?_ _
  refine NoPanic.normal ?_
  go_wp2_with fail
  have S1 := cont.out vy.drew ky.1.out.drew
  refine wp_region_noPanic ?_
  refine wp_region_held_drew (S := fun V => (Hid (Below Wb.heap.size Wb V) ∧ V.cell? ⟨w.heap.size, 0, none⟩ = some (.slice a0 n0 c0) ∧ V.cell? ⟨w.heap.size, 1, none⟩ = some (.slice a n c) ∧ V.cell? ⟨w.heap.size + 1, 0, none⟩ = some (.string (str x.nm)) ∧ V.cell? ⟨w.heap.size + 1, 4, none⟩ = some (.complex .f64 (FL.fB x.l1) (FL.fB x.l2)))) (by kernel_rfl) S1 (fun hHeld => ?_)
  refine wpAnyH_take (i := 0) (v := ?hvp_0) (List.getElem?_toArray.trans rfl) (by kernel_rfl) (by kernel_rfl) (by kernel_rfl) (fun _ _ _ h => h) (Or.inl ⟨by rfl, ?hyp_0⟩) (by assumption) ?hrp_0
  case hyp_0 => (intro wt hSw; (try dsimp only at hSw); go_simp; try (with_reducible rfl))
  try simp only [Act.put, List.setIfInBounds_toArray, List.set_cons_zero, List.set_cons_succ]
  refine wpAnyH_take (i := 1) (v := ?hvp_1) (List.getElem?_toArray.trans rfl) (by kernel_rfl) (by kernel_rfl) (by kernel_rfl) (fun _ _ _ h => h) (Or.inl ⟨by rfl, ?hyp_1⟩) (by assumption) ?hrp_1
  case hyp_1 => (intro wt hSw; (try dsimp only at hSw); go_simp; try (with_reducible rfl))
  try simp only [Act.put, List.setIfInBounds_toArray, List.set_cons_zero, List.set_cons_succ]
  refine wpAnyH_take (i := 2) (v := ?hvp_2) (List.getElem?_toArray.trans rfl) (by kernel_rfl) (by kernel_rfl) (by kernel_rfl) (fun _ _ _ h => h) (Or.inl ⟨by rfl, ?hyp_2⟩) (by assumption) ?hrp_2
  case hyp_2 => (intro wt hSw; (try dsimp only at hSw); go_simp; try (with_reducible rfl))
  try simp only [Act.put, List.setIfInBounds_toArray, List.set_cons_zero, List.set_cons_succ]
  refine wpAnyH_take (i := 3) (v := ?hvp_3) (List.getElem?_toArray.trans rfl) (by kernel_rfl) (by kernel_rfl) (by kernel_rfl) (fun _ _ _ h => h) (Or.inl ⟨by rfl, ?hyp_3⟩) (by assumption) ?hrp_3
  case hyp_3 => (intro wt hSw; (try dsimp only at hSw); go_simp; try (with_reducible rfl))
  try simp only [Act.put, List.setIfInBounds_toArray, List.set_cons_zero, List.set_cons_succ]
  refine wpAnyH_take (i := 4) (v := ?hvp_4) (List.getElem?_toArray.trans rfl) (by kernel_rfl) (by kernel_rfl) (by kernel_rfl) (fun _ _ _ h => h) (Or.inl ⟨by rfl, ?hyp_4⟩) (by assumption) ?hrp_4
  case hyp_4 => (intro wt hSw; (try dsimp only at hSw); go_simp; try (with_reducible rfl))
  try simp only [Act.put, List.setIfInBounds_toArray, List.set_cons_zero, List.set_cons_succ]
  refine wpAnyH_take (i := 5) (v := ?hvp_5) (List.getElem?_toArray.trans rfl) (by kernel_rfl) (by kernel_rfl) (by kernel_rfl) (fun _ _ _ h => h) (Or.inl ⟨by rfl, ?hyp_5⟩) (by assumption) ?hrp_5
  case hyp_5 => (intro wt hSw; (try dsimp only at hSw); go_simp; try (with_reducible rfl))
  try simp only [Act.put, List.setIfInBounds_toArray, List.set_cons_zero, List.set_cons_succ]
  refine wpAnyH_take (i := 6) (v := ?hvp_6) (List.getElem?_toArray.trans rfl) (by kernel_rfl) (by kernel_rfl) (by kernel_rfl) (fun _ _ _ h => h) (Or.inl ⟨by rfl, ?hyp_6⟩) (by assumption) ?hrp_6
  case hyp_6 => (intro wt hSw; (try dsimp only at hSw); go_simp; try (with_reducible rfl))
  try simp only [Act.put, List.setIfInBounds_toArray, List.set_cons_zero, List.set_cons_succ]
  refine wpAnyH_take (i := 7) (v := ?hvp_7) (List.getElem?_toArray.trans rfl) (by kernel_rfl) (by kernel_rfl) (by kernel_rfl) (fun _ _ _ h => h) (Or.inl ⟨by rfl, ?hyp_7⟩) (by assumption) ?hrp_7
  case hyp_7 => (intro wt hSw; (try dsimp only at hSw); go_simp; try (with_reducible rfl))
  try simp only [Act.put, List.setIfInBounds_toArray, List.set_cons_zero, List.set_cons_succ]
  refine wpAnyH_take (i := 8) (v := ?hvp_8) (List.getElem?_toArray.trans rfl) (by kernel_rfl) (by kernel_rfl) (by kernel_rfl) (fun _ _ _ h => h) (Or.inl ⟨by rfl, ?hyp_8⟩) (by assumption) ?hrp_8
  case hyp_8 => (intro wt hSw; (try dsimp only at hSw); go_simp; try (with_reducible rfl))
  try simp only [Act.put, List.setIfInBounds_toArray, List.set_cons_zero, List.set_cons_succ]
  refine wpAnyH_take (i := 9) (v := ?hvp_9) (List.getElem?_toArray.trans rfl) (by kernel_rfl) (by kernel_rfl) (by kernel_rfl) (fun _ _ _ h => h) (Or.inl ⟨by rfl, ?hyp_9⟩) (by assumption) ?hrp_9
  case hyp_9 => (intro wt hSw; (try dsimp only at hSw); go_simp; try (with_reducible rfl))
  try simp only [Act.put, List.setIfInBounds_toArray, List.set_cons_zero, List.set_cons_succ]
  refine wpAnyH_take (i := 10) (v := ?hvp_10) (List.getElem?_toArray.trans rfl) (by kernel_rfl) (by kernel_rfl) (by kernel_rfl) (fun _ _ _ h => h) (Or.inl ⟨by rfl, ?hyp_10⟩) (by assumption) ?hrp_10
  case hyp_10 => (intro wt hSw; (try dsimp only at hSw); go_simp; try (with_reducible rfl))
  try simp only [Act.put, List.setIfInBounds_toArray, List.set_cons_zero, List.set_cons_succ]
  refine wpAnyH_take (i := 11) (v := ?hvp_11) (List.getElem?_toArray.trans rfl) (by kernel_rfl) (by kernel_rfl) (by kernel_rfl) (fun _ _ _ h => h) (Or.inl ⟨by rfl, ?hyp_11⟩) (by assumption) ?hrp_11
  case hyp_11 => (intro wt hSw; (try dsimp only at hSw); go_simp; try (with_reducible rfl))
  try simp only [Act.put, List.setIfInBounds_toArray, List.set_cons_zero, List.set_cons_succ]
  refine wpAnyH_take (i := 12) (v := ?hvp_12) (List.getElem?_toArray.trans rfl) (by kernel_rfl) (by kernel_rfl) (by kernel_rfl) (fun _ _ _ h => h) (Or.inl ⟨by rfl, ?hyp_12⟩) (by assumption) ?hrp_12
  case hyp_12 => (intro wt hSw; (try dsimp only at hSw); go_simp; try (with_reducible rfl))
  try simp only [Act.put, List.setIfInBounds_toArray, List.set_cons_zero, List.set_cons_succ]
  refine wpAnyH_take (i := 13) (v := ?hvp_13) (List.getElem?_toArray.trans rfl) (by kernel_rfl) (by kernel_rfl) (by kernel_rfl) (fun _ _ _ h => h) (Or.inl ⟨by rfl, ?hyp_13⟩) (by assumption) ?hrp_13
  case hyp_13 => (intro wt hSw; (try dsimp only at hSw); go_simp; try (with_reducible rfl))
  try simp only [Act.put, List.setIfInBounds_toArray, List.set_cons_zero, List.set_cons_succ]
  refine wpAnyH_done (by kernel_rfl) ?_ _
  refine NoPanic.normal ?_
  by_cases h1 : D1 < (U1 : Int)
  · rw [decide_eq_true h1] at g1
    have m1 := Lib.hid (max_gt h1)
    by_cases h2 : D2 < (U2 : Int)
    · rw [decide_eq_true h2] at g2
      have m2 := Lib.hid (max_gt h2)
      clear h1 h2
      go_wp2
      go_ret
      exact ⟨by rw [m1.out, m2.out]; rfl, fin.out _ (by assumption)⟩
    · rw [decide_eq_false h2] at g2
      have m2 := Lib.hid (max_le h2)
      clear h1 h2
      go_wp2
      go_ret
      exact ⟨by rw [m1.out, m2.out]; rfl, fin.out _ (by assumption)⟩
  · rw [decide_eq_false h1] at g1
    have m1 := Lib.hid (max_le h1)
    by_cases h2 : D2 < (U2 : Int)
    · rw [decide_eq_true h2] at g2
      have m2 := Lib.hid (max_gt h2)
      clear h1 h2
      go_wp2
      go_ret
      exact ⟨by rw [m1.out, m2.out]; rfl, fin.out _ (by assumption)⟩
    · rw [decide_eq_false h2] at g2
      have m2 := Lib.hid (max_le h2)
      clear h1 h2
      go_wp2
      go_ret
      exact ⟨by rw [m1.out, m2.out]; rfl, fin.out _ (by assumption)⟩
end Go.Proofs.YtflghelhdalhiaaGreatDoor
