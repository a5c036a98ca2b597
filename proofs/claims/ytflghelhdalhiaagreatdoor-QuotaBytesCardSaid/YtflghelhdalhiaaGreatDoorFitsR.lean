/-
  The document's Fits, by a contract.
  Conditions: the slices read as nodes, at most 256, and uses, at most 1024, whose amounts are at most 2^40.
-/
import Derived.Test.YtflghelhdalhiaaGreatDoorClaimR
import Derived.Test.YtflghelhdalhiaaGreatDoorG7
namespace Go.Proofs.YtflghelhdalhiaaGreatDoor
open Go Go.RowKit

/-- No total and no used of a node is too great. -/
def QT.fitT (N : List QT.Nd) (x : QT.Nd) : Bool := decide (QT.Total N QT.Nd.o1 x.nm ≤ 1099511627776 ∧ QT.Total N QT.Nd.o2 x.nm ≤ 1099511627776)
def QT.fitU (N : List QT.Nd) (L : List QT.Us) (x : QT.Nd) : Bool := decide (QT.Used N L QT.Us.a1 x.nm ≤ 1099511627776 ∧ QT.Used N L QT.Us.a2 x.nm ≤ 1099511627776)
def QT.fitsB (N : List QT.Nd) (L : List QT.Us) : Bool := N.all fun x => QT.fitT N x && QT.fitU N L x
theorem QT.all_no {α : Type} {L : List α} {p : α → Bool} {x : α} (hx : x ∈ L) (h : p x = false) : L.all p = false := by
  rw [List.all_eq_false]
  exact ⟨x, hx, by rw [h]; simp⟩
theorem QT.all_yes {α : Type} {L : List α} {p : α → Bool} (h : ∀ (j : Nat) (x : α), j < L.length → L[j]? = some x → p x = true) : L.all p = true := by
  rw [List.all_eq_true]
  intro x hx
  obtain ⟨j, hj, rfl⟩ := List.getElem_of_mem hx
  exact h j _ hj (List.getElem?_eq_getElem hj)
set_option maxRecDepth 100000 in
set_option maxHeartbeats 8000000 in
/-- Fits. -/
theorem rfits_any (a0 : Option Addr) (n0 c0 : Nat) (a : Option Addr) (n c : Nat) (N : List QT.Nd) (L : List QT.Us) (w : World) (hM : RdsNd w (.slice a0 n0 c0) N) (hN : RdsUs w (.slice a n c) L) (hs0 : n0 ≤ 256) (hs : n ≤ 1024)
    (hf0 : ∀ x ∈ N, x.o1 ≤ 1099511627776 ∧ x.o2 ≤ 1099511627776) (hf : ∀ x ∈ L, x.a1 ≤ 1099511627776 ∧ x.a2 ≤ 1099511627776) :
    Calls Tryz.prog 27 #[.agg #[.slice a0 n0 c0, .slice a n c]] w fun v w' => v = .returned (.bool (QT.fitsB N L)) ∧ Below w.heap.size w w' := by
  have HT := Lib.hid (fun (V : World) (s : QT.Str) (b : Below w.heap.size w V) => rtotal_any a0 n0 c0 (.slice a n c) N s V (hM.below b) hs0 hf0)
  have HU := Lib.hid (fun (V : World) (s : QT.Str) (b : Below w.heap.size w V) => rused_any a0 n0 c0 a n c N L s V (hM.below b) (hN.below b) hs0 hs hf)
  have l0 := hM.len.1
  have l1 := hN.len.1
  have m0 := Nat.mul_le_mul_right 1099511627776 hs0
  have m1 := Nat.mul_le_mul_right 1099511627776 hs
  have HBt := Lib.hid (fun (s : QT.Str) => show QT.Total N QT.Nd.o1 s < 9007199254740992 ∧ QT.Total N QT.Nd.o2 s < 9007199254740992 from by
    have t1 := QT.total_bound N QT.Nd.o1 s (B := 1099511627776) (fun y hy => (hf0 y hy).1)
    have t2 := QT.total_bound N QT.Nd.o2 s (B := 1099511627776) (fun y hy => (hf0 y hy).2)
    rw [l0] at t1 t2
    omega)
  have HBu := Lib.hid (fun (s : QT.Str) => show QT.Used N L QT.Us.a1 s < 9007199254740992 ∧ QT.Used N L QT.Us.a2 s < 9007199254740992 from by
    have t1 := QT.used_bound N L QT.Us.a1 s (B := 1099511627776) (fun y hy => (hf y hy).1)
    have t2 := QT.used_bound N L QT.Us.a2 s (B := 1099511627776) (fun y hy => (hf y hy).2)
    rw [l1] at t1 t2
    omega)
  have Hl := Lib.hid l0
  have hn : (n0 : Int) ≤ 281474976710656 := by omega
  have HNb := Lib.hid (fun (V : World) (b : Below w.heap.size w V) => hM.below b)
  obtain ⟨W, hW⟩ : ∃ W, W = w.alloc (.cells #[.slice a0 n0 c0, .slice a n c] 32) := ⟨_, rfl⟩
  have bW : Hid (Below w.heap.size w W) := by rw [hW]; exact (Below.refl _ _).alloc (Nat.le_refl _) _
  have gW : Hid (W.heap[w.heap.size]? = some (.cells #[.slice a0 n0 c0, .slice a n c] 32)) := by rw [hW]; exact heap_alloc_new _ _
  clear hM hN hs0 hs hf0 hf l0 l1 m0 m1
  go_enter Tryz.func27, Tryz.ntmps27
  go_wp2_with fail
  rw [← hW]
  clear hW
  go_loopw [3] (fun v V => ∃ i : Nat, i ≤ n0 ∧ v = .int .i64 i ∧ Hid (∀ (j : Nat) (x : QT.Nd), j < i → N[j]? = some x → (QT.fitT N x && QT.fitU N L x) = true) ∧ Hid (Below w.heap.size w V) ∧ Hid (V.heap[w.heap.size]? = some (.cells #[.slice a0 n0 c0, .slice a n c] 32))) (fun v _ => n0 - (intOf v).toNat)
  case atStart => exact ⟨0, Nat.zero_le _, rfl, Lib.hid (fun j x hj => by omega), bW, gW⟩
  case round =>
    obtain ⟨i, hi, rfl, Hp, Bv, Gv⟩ := hrel
    clear bW gW
    obtain ⟨t0, t1, _, _⟩ := cells2 Gv.out
    by_cases hlt : i < n0
    · have h1 : (i : Int) < (n0 : Int) := by omega
      obtain ⟨x, hx⟩ : ∃ x, N[i]? = some x := ⟨_, List.getElem?_eq_getElem (by have := Hl.out; omega)⟩
      have Hx := Lib.hid hx
      obtain ⟨b, o, ea, q0, _⟩ := (HNb.out wr Bv.out).at i x hx
      subst ea
      clear hx
      have hBlt := (Array.getElem?_eq_some_iff.1 Gv.out).1
      have hblt := World.block_lt_of_cell? _ _ q0
      have cont : Hid (∀ V, Below wr.heap.size wr V → (Hid (Below wr.heap.size wr V) ∧ V.cell? ⟨w.heap.size, 0, none⟩ = some (.slice (some ⟨b, o, none⟩) n0 c0) ∧ V.cell? ⟨w.heap.size, 1, none⟩ = some (.slice a n c) ∧ V.cell? ⟨b, o + i * 5, none⟩ = some (.string (str x.nm)))) := fun V h => ⟨Lib.hid h, (World.cell?_of_block (a := ⟨w.heap.size, 0, none⟩) (h.block _ hBlt)).trans t0, (World.cell?_of_block (a := ⟨w.heap.size, 1, none⟩) (h.block _ hBlt)).trans t1, (World.cell?_of_block (a := ⟨b, o + i * 5, none⟩) (h.block _ hblt)).trans q0⟩
      have fin : Hid (∀ V, (Hid (Below wr.heap.size wr V) ∧ V.cell? ⟨w.heap.size, 0, none⟩ = some (.slice (some ⟨b, o, none⟩) n0 c0) ∧ V.cell? ⟨w.heap.size, 1, none⟩ = some (.slice a n c) ∧ V.cell? ⟨b, o + i * 5, none⟩ = some (.string (str x.nm))) → Below w.heap.size w V) := fun V h => Bv.out.trans (h.1.out.mono Bv.out.size)
      have hfx : (QT.fitT N x && QT.fitU N L x) = false → QT.fitsB N L = false := fun h => QT.all_no (List.mem_of_getElem? Hx.out) h
      have Hfx := Lib.hid hfx
      have hBt := HBt.out x.nm
      have hBu := HBu.out x.nm
      have eT : QT.fitT N x = decide (QT.Total N QT.Nd.o1 x.nm ≤ 1099511627776 ∧ QT.Total N QT.Nd.o2 x.nm ≤ 1099511627776) := rfl
      have eU : QT.fitU N L x = decide (QT.Used N L QT.Us.a1 x.nm ≤ 1099511627776 ∧ QT.Used N L QT.Us.a2 x.nm ≤ 1099511627776) := rfl
      have C1 : Hid (∀ V, (Hid (Below wr.heap.size wr V) ∧ V.cell? ⟨w.heap.size, 0, none⟩ = some (.slice (some ⟨b, o, none⟩) n0 c0) ∧ V.cell? ⟨w.heap.size, 1, none⟩ = some (.slice a n c) ∧ V.cell? ⟨b, o + i * 5, none⟩ = some (.string (str x.nm))) → Calls Tryz.prog 57 #[.agg #[.slice (some ⟨b, o, none⟩) n0 c0, .slice a n c], .string (str x.nm)] V fun e w' => e = .returned (.complex .f64 (FL.fB (QT.Total N QT.Nd.o1 x.nm)) (FL.fB (QT.Total N QT.Nd.o2 x.nm))) ∧ (Hid (Below wr.heap.size wr w') ∧ w'.cell? ⟨w.heap.size, 0, none⟩ = some (.slice (some ⟨b, o, none⟩) n0 c0) ∧ w'.cell? ⟨w.heap.size, 1, none⟩ = some (.slice a n c) ∧ w'.cell? ⟨b, o + i * 5, none⟩ = some (.string (str x.nm)))) := fun V h => (HT.out V x.nm (fin.out V h)).mono fun e w' ⟨e1, e2⟩ => ⟨e1, cont.out w' (h.1.out.trans (e2.mono h.1.out.size))⟩
      have C2 : Hid (∀ V, (Hid (Below wr.heap.size wr V) ∧ V.cell? ⟨w.heap.size, 0, none⟩ = some (.slice (some ⟨b, o, none⟩) n0 c0) ∧ V.cell? ⟨w.heap.size, 1, none⟩ = some (.slice a n c) ∧ V.cell? ⟨b, o + i * 5, none⟩ = some (.string (str x.nm))) → Calls Tryz.prog 58 #[.agg #[.slice (some ⟨b, o, none⟩) n0 c0, .slice a n c], .string (str x.nm)] V fun e w' => e = .returned (.complex .f64 (FL.fB (QT.Used N L QT.Us.a1 x.nm)) (FL.fB (QT.Used N L QT.Us.a2 x.nm))) ∧ (Hid (Below wr.heap.size wr w') ∧ w'.cell? ⟨w.heap.size, 0, none⟩ = some (.slice (some ⟨b, o, none⟩) n0 c0) ∧ w'.cell? ⟨w.heap.size, 1, none⟩ = some (.slice a n c) ∧ w'.cell? ⟨b, o + i * 5, none⟩ = some (.string (str x.nm)))) := fun V h => (HU.out V x.nm (fin.out V h)).mono fun e w' ⟨e1, e2⟩ => ⟨e1, cont.out w' (h.1.out.trans (e2.mono h.1.out.size))⟩
      have C3 : Hid (∀ V, (Hid (Below wr.heap.size wr V) ∧ V.cell? ⟨w.heap.size, 0, none⟩ = some (.slice (some ⟨b, o, none⟩) n0 c0) ∧ V.cell? ⟨w.heap.size, 1, none⟩ = some (.slice a n c) ∧ V.cell? ⟨b, o + i * 5, none⟩ = some (.string (str x.nm))) → Calls Tryz.prog 56 #[.complex .f64 (FL.fB (QT.Total N QT.Nd.o1 x.nm)) (FL.fB (QT.Total N QT.Nd.o2 x.nm))] V fun e w' => e = .returned (.bool (QT.fitT N x)) ∧ (Hid (Below wr.heap.size wr w') ∧ w'.cell? ⟨w.heap.size, 0, none⟩ = some (.slice (some ⟨b, o, none⟩) n0 c0) ∧ w'.cell? ⟨w.heap.size, 1, none⟩ = some (.slice a n c) ∧ w'.cell? ⟨b, o + i * 5, none⟩ = some (.string (str x.nm)))) := fun V h => (rmayQ_any _ _ V hBt.1 hBt.2).mono fun e w' ⟨e1, e2⟩ => ⟨by rw [e1, eT], by rw [← e2]; exact h⟩
      have C4 : Hid (∀ V, (Hid (Below wr.heap.size wr V) ∧ V.cell? ⟨w.heap.size, 0, none⟩ = some (.slice (some ⟨b, o, none⟩) n0 c0) ∧ V.cell? ⟨w.heap.size, 1, none⟩ = some (.slice a n c) ∧ V.cell? ⟨b, o + i * 5, none⟩ = some (.string (str x.nm))) → Calls Tryz.prog 56 #[.complex .f64 (FL.fB (QT.Used N L QT.Us.a1 x.nm)) (FL.fB (QT.Used N L QT.Us.a2 x.nm))] V fun e w' => e = .returned (.bool (QT.fitU N L x)) ∧ (Hid (Below wr.heap.size wr w') ∧ w'.cell? ⟨w.heap.size, 0, none⟩ = some (.slice (some ⟨b, o, none⟩) n0 c0) ∧ w'.cell? ⟨w.heap.size, 1, none⟩ = some (.slice a n c) ∧ w'.cell? ⟨b, o + i * 5, none⟩ = some (.string (str x.nm)))) := fun V h => (rmayQ_any _ _ V hBu.1 hBu.2).mono fun e w' ⟨e1, e2⟩ => ⟨by rw [e1, eU], by rw [← e2]; exact h⟩
      have S0 := cont.out wr.drew (Below.refl _ _).drew
      have next : (QT.fitT N x && QT.fitU N L x) = true → Hid (∀ (j : Nat) (y : QT.Nd), j < i + 1 → N[j]? = some y → (QT.fitT N y && QT.fitU N L y) = true) := fun h => Lib.hid (fun j y hj hy => by
        by_cases e : j = i
        · subst e; rw [Hx.out] at hy; cases hy; exact h
        · exact Hp.out j y (by omega) hy)
      have Next := Lib.hid next
      have KG : Hid (∀ V, Hid (Below wr.heap.size wr V) → V.heap[w.heap.size]? = some (.cells #[.slice (some ⟨b, o, none⟩) n0 c0, .slice a n c] 32)) := fun V h => (h.out.block _ hBlt).trans Gv.out
      clear hfx hBt hBu eT eU next hBlt hblt HT HU Hp
      generalize QT.Total N QT.Nd.o1 x.nm = T1 at *
      generalize QT.Total N QT.Nd.o2 x.nm = T2 at *
      generalize QT.Used N L QT.Us.a1 x.nm = U1 at *
      generalize QT.Used N L QT.Us.a2 x.nm = U2 at *
      cases hq : QT.fitT N x with
      | true =>
        cases hr : QT.fitU N L x with
        | true =>
          rw [hq] at C3 Next
          rw [hr] at C4 Next
          clear Hfx
          have NX := Next.out rfl
          clear Next hq hr
          go_wp2_with fail
          refine wp_region_noPanic ?_
          refine wp_region_held_drew (S := fun V => (Hid (Below wr.heap.size wr V) ∧ V.cell? ⟨w.heap.size, 0, none⟩ = some (.slice (some ⟨b, o, none⟩) n0 c0) ∧ V.cell? ⟨w.heap.size, 1, none⟩ = some (.slice a n c) ∧ V.cell? ⟨b, o + i * 5, none⟩ = some (.string (str x.nm)))) (by kernel_rfl) S0 (fun hHeld => ?_)
          refine wpAnyH_take (i := 0) (v := ?hvq_0) (List.getElem?_toArray.trans rfl) (by kernel_rfl) (by kernel_rfl) (by kernel_rfl) (fun _ _ _ h => h) (Or.inl ⟨by rfl, ?hyq_0⟩) (by assumption) ?hrq_0
          case hyq_0 => (intro wt hSw; (try dsimp only at hSw); go_simp; try (with_reducible rfl))
          try simp only [Act.put, List.setIfInBounds_toArray, List.set_cons_zero, List.set_cons_succ]
          refine wpAnyH_take (i := 1) (v := ?hvq_1) (List.getElem?_toArray.trans rfl) (by kernel_rfl) (by kernel_rfl) (by kernel_rfl) (fun _ _ _ h => h) (Or.inl ⟨by rfl, ?hyq_1⟩) (by assumption) ?hrq_1
          case hyq_1 => (intro wt hSw; (try dsimp only at hSw); go_simp; try (with_reducible rfl))
          try simp only [Act.put, List.setIfInBounds_toArray, List.set_cons_zero, List.set_cons_succ]
          refine wpAnyH_take (i := 2) (v := ?hvq_2) (List.getElem?_toArray.trans rfl) (by kernel_rfl) (by kernel_rfl) (by kernel_rfl) (fun _ _ _ h => h) (Or.inl ⟨by rfl, ?hyq_2⟩) (by assumption) ?hrq_2
          case hyq_2 => (intro wt hSw; (try dsimp only at hSw); go_simp; try (with_reducible rfl))
          try simp only [Act.put, List.setIfInBounds_toArray, List.set_cons_zero, List.set_cons_succ]
          refine wpAnyH_take (i := 3) (v := ?hvq_3) (List.getElem?_toArray.trans rfl) (by kernel_rfl) (by kernel_rfl) (by kernel_rfl) (fun _ _ _ h => h) (Or.inl ⟨by rfl, ?hyq_3⟩) (by assumption) ?hrq_3
          case hyq_3 => (intro wt hSw; (try dsimp only at hSw); go_simp; try (with_reducible rfl))
          try simp only [Act.put, List.setIfInBounds_toArray, List.set_cons_zero, List.set_cons_succ]
          refine wpAnyH_take (i := 4) (v := ?hvq_4) (List.getElem?_toArray.trans rfl) (by kernel_rfl) (by kernel_rfl) (by kernel_rfl) (fun _ _ _ h => h) (Or.inl ⟨by rfl, ?hyq_4⟩) (by assumption) ?hrq_4
          case hyq_4 => (intro wt hSw; (try dsimp only at hSw); go_simp; try (with_reducible rfl))
          try simp only [Act.put, List.setIfInBounds_toArray, List.set_cons_zero, List.set_cons_succ]
          refine wpAnyH_take (i := 5) (v := ?hvq_5) (List.getElem?_toArray.trans rfl) (by kernel_rfl) (by kernel_rfl) (by kernel_rfl) (fun _ _ _ h => h) (Or.inl ⟨by rfl, ?hyq_5⟩) (by assumption) ?hrq_5
          case hyq_5 => (intro wt hSw; (try dsimp only at hSw); go_simp; try (with_reducible rfl))
          try simp only [Act.put, List.setIfInBounds_toArray, List.set_cons_zero, List.set_cons_succ]
          refine wpAnyH_take (i := 6) (v := ?hvq_6) (List.getElem?_toArray.trans rfl) (by kernel_rfl) (by kernel_rfl) (by kernel_rfl) (fun _ _ _ h => h) (Or.inl ⟨by rfl, ?hyq_6⟩) (by assumption) ?hrq_6
          case hyq_6 => (intro wt hSw; (try dsimp only at hSw); go_simp; try (with_reducible rfl))
          try simp only [Act.put, List.setIfInBounds_toArray, List.set_cons_zero, List.set_cons_succ]
          refine wpAnyH_ready (rs := [7]) (by kernel_rfl) (by simp) ?_
          refine AllReadyH.cons (List.getElem?_toArray.trans rfl) (fun K hK => ?_) AllReadyH.nil
          go_simp
          go_at_call 57
          refine (C1.out _ ?_).mono ?_
          assumption
          rintro e vx ⟨rfl, kx⟩
          clear C1
          try (go_wp2_with fail)
          refine hK.out _ _ ?_ (fun hHeld => ?_)
          · (try dsimp only)
            assumption
          clear hK K
          try simp only [Act.put, List.setIfInBounds_toArray, List.set_cons_zero, List.set_cons_succ]
          refine wpAnyH_ready (rs := [8]) (by kernel_rfl) (by simp) ?_
          refine AllReadyH.cons (List.getElem?_toArray.trans rfl) (fun K hK => ?_) AllReadyH.nil
          go_simp
          go_at_call 56
          refine (C3.out _ ?_).mono ?_
          assumption
          rintro e vx ⟨rfl, kx⟩
          clear C3
          try (go_wp2_with fail)
          refine hK.out _ _ ?_ (fun hHeld => ?_)
          · (try dsimp only)
            assumption
          clear hK K
          try simp only [Act.put, List.setIfInBounds_toArray, List.set_cons_zero, List.set_cons_succ]
          refine wpAnyH_take (i := 9) (v := ?hvq_9) (List.getElem?_toArray.trans rfl) (by kernel_rfl) (by kernel_rfl) (by kernel_rfl) (fun _ _ _ h => h) (Or.inl ⟨by rfl, ?hyq_9⟩) (by assumption) ?hrq_9
          case hyq_9 => (intro wt hSw; (try dsimp only at hSw); go_simp; try (with_reducible rfl))
          try simp only [Act.put, List.setIfInBounds_toArray, List.set_cons_zero, List.set_cons_succ]
          refine wpAnyH_take (i := 10) (v := ?hvq_10) (List.getElem?_toArray.trans rfl) (by kernel_rfl) (by kernel_rfl) (by kernel_rfl) (fun _ _ _ h => h) (Or.inl ⟨by rfl, ?hyq_10⟩) (by assumption) ?hrq_10
          case hyq_10 => (intro wt hSw; (try dsimp only at hSw); go_simp; try (with_reducible rfl))
          try simp only [Act.put, List.setIfInBounds_toArray, List.set_cons_zero, List.set_cons_succ]
          refine wpAnyH_take (i := 11) (v := ?hvq_11) (List.getElem?_toArray.trans rfl) (by kernel_rfl) (by kernel_rfl) (by kernel_rfl) (fun _ _ _ h => h) (Or.inl ⟨by rfl, ?hyq_11⟩) (by assumption) ?hrq_11
          case hyq_11 => (intro wt hSw; (try dsimp only at hSw); go_simp; try (with_reducible rfl))
          try simp only [Act.put, List.setIfInBounds_toArray, List.set_cons_zero, List.set_cons_succ]
          refine wpAnyH_take (i := 12) (v := ?hvq_12) (List.getElem?_toArray.trans rfl) (by kernel_rfl) (by kernel_rfl) (by kernel_rfl) (fun _ _ _ h => h) (Or.inl ⟨by rfl, ?hyq_12⟩) (by assumption) ?hrq_12
          case hyq_12 => (intro wt hSw; (try dsimp only at hSw); go_simp; try (with_reducible rfl))
          try simp only [Act.put, List.setIfInBounds_toArray, List.set_cons_zero, List.set_cons_succ]
          refine wpAnyH_take (i := 13) (v := ?hvq_13) (List.getElem?_toArray.trans rfl) (by kernel_rfl) (by kernel_rfl) (by kernel_rfl) (fun _ _ _ h => h) (Or.inl ⟨by rfl, ?hyq_13⟩) (by assumption) ?hrq_13
          case hyq_13 => (intro wt hSw; (try dsimp only at hSw); go_simp; try (with_reducible rfl))
          try simp only [Act.put, List.setIfInBounds_toArray, List.set_cons_zero, List.set_cons_succ]
          refine wpAnyH_take (i := 14) (v := ?hvq_14) (List.getElem?_toArray.trans rfl) (by kernel_rfl) (by kernel_rfl) (by kernel_rfl) (fun _ _ _ h => h) (Or.inl ⟨by rfl, ?hyq_14⟩) (by assumption) ?hrq_14
          case hyq_14 => (intro wt hSw; (try dsimp only at hSw); go_simp; try (with_reducible rfl))
          try simp only [Act.put, List.setIfInBounds_toArray, List.set_cons_zero, List.set_cons_succ]
          refine wpAnyH_take (i := 15) (v := ?hvq_15) (List.getElem?_toArray.trans rfl) (by kernel_rfl) (by kernel_rfl) (by kernel_rfl) (fun _ _ _ h => h) (Or.inl ⟨by rfl, ?hyq_15⟩) (by assumption) ?hrq_15
          case hyq_15 => (intro wt hSw; (try dsimp only at hSw); go_simp; try (with_reducible rfl))
          try simp only [Act.put, List.setIfInBounds_toArray, List.set_cons_zero, List.set_cons_succ]
          refine wpAnyH_take (i := 16) (v := ?hvq_16) (List.getElem?_toArray.trans rfl) (by kernel_rfl) (by kernel_rfl) (by kernel_rfl) (fun _ _ _ h => h) (Or.inl ⟨by rfl, ?hyq_16⟩) (by assumption) ?hrq_16
          case hyq_16 => (intro wt hSw; (try dsimp only at hSw); go_simp; try (with_reducible rfl))
          try simp only [Act.put, List.setIfInBounds_toArray, List.set_cons_zero, List.set_cons_succ]
          refine wpAnyH_take (i := 17) (v := ?hvq_17) (List.getElem?_toArray.trans rfl) (by kernel_rfl) (by kernel_rfl) (by kernel_rfl) (fun _ _ _ h => h) (Or.inl ⟨by rfl, ?hyq_17⟩) (by assumption) ?hrq_17
          case hyq_17 => (intro wt hSw; (try dsimp only at hSw); go_simp; try (with_reducible rfl))
          try simp only [Act.put, List.setIfInBounds_toArray, List.set_cons_zero, List.set_cons_succ]
          refine wpAnyH_ready (rs := [18]) (by kernel_rfl) (by simp) ?_
          refine AllReadyH.cons (List.getElem?_toArray.trans rfl) (fun K hK => ?_) AllReadyH.nil
          go_simp
          go_at_call 58
          refine (C2.out _ ?_).mono ?_
          assumption
          rintro e vx ⟨rfl, kx⟩
          clear C2
          try (go_wp2_with fail)
          refine hK.out _ _ ?_ (fun hHeld => ?_)
          · (try dsimp only)
            assumption
          clear hK K
          try simp only [Act.put, List.setIfInBounds_toArray, List.set_cons_zero, List.set_cons_succ]
          refine wpAnyH_ready (rs := [19]) (by kernel_rfl) (by simp) ?_
          refine AllReadyH.cons (List.getElem?_toArray.trans rfl) (fun K hK => ?_) AllReadyH.nil
          go_simp
          go_at_call 56
          refine (C4.out _ ?_).mono ?_
          assumption
          rintro e vx ⟨rfl, kx⟩
          clear C4
          try (go_wp2_with fail)
          refine hK.out _ _ ?_ (fun hHeld => ?_)
          · (try dsimp only)
            assumption
          clear hK K
          try simp only [Act.put, List.setIfInBounds_toArray, List.set_cons_zero, List.set_cons_succ]
          refine wpAnyH_take (i := 20) (v := ?hvq_20) (List.getElem?_toArray.trans rfl) (by kernel_rfl) (by kernel_rfl) (by kernel_rfl) (fun _ _ _ h => h) (Or.inl ⟨by rfl, ?hyq_20⟩) (by assumption) ?hrq_20
          case hyq_20 => (intro wt hSw; (try dsimp only at hSw); go_simp; try (with_reducible rfl))
          try simp only [Act.put, List.setIfInBounds_toArray, List.set_cons_zero, List.set_cons_succ]
          refine wpAnyH_take (i := 21) (v := ?hvq_21) (List.getElem?_toArray.trans rfl) (by kernel_rfl) (by kernel_rfl) (by kernel_rfl) (fun _ _ _ h => h) (Or.inl ⟨by rfl, ?hyq_21⟩) (by assumption) ?hrq_21
          case hyq_21 => (intro wt hSw; (try dsimp only at hSw); go_simp; try (with_reducible rfl))
          try simp only [Act.put, List.setIfInBounds_toArray, List.set_cons_zero, List.set_cons_succ]
          refine wpAnyH_done (by kernel_rfl) ?_ _
          refine NoPanic.normal ?_
          have BX := Lib.hid (fin.out vx kx)
          have GX := Lib.hid (KG.out vx kx.1)
          go_wp2
          exact ⟨⟨i + 1, by omega, by simp, NX, BX, GX⟩, by simp [intOf]; omega⟩
        | false =>
          have hb := Lib.hid (Hfx.out (by rw [hr, Bool.and_false]))
          rw [hq] at C3
          rw [hr] at C4
          clear Hfx Next hq hr
          go_wp2_with fail
          refine wp_region_noPanic ?_
          refine wp_region_held_drew (S := fun V => (Hid (Below wr.heap.size wr V) ∧ V.cell? ⟨w.heap.size, 0, none⟩ = some (.slice (some ⟨b, o, none⟩) n0 c0) ∧ V.cell? ⟨w.heap.size, 1, none⟩ = some (.slice a n c) ∧ V.cell? ⟨b, o + i * 5, none⟩ = some (.string (str x.nm)))) (by kernel_rfl) S0 (fun hHeld => ?_)
          refine wpAnyH_take (i := 0) (v := ?hvr_0) (List.getElem?_toArray.trans rfl) (by kernel_rfl) (by kernel_rfl) (by kernel_rfl) (fun _ _ _ h => h) (Or.inl ⟨by rfl, ?hyr_0⟩) (by assumption) ?hrr_0
          case hyr_0 => (intro wt hSw; (try dsimp only at hSw); go_simp; try (with_reducible rfl))
          try simp only [Act.put, List.setIfInBounds_toArray, List.set_cons_zero, List.set_cons_succ]
          refine wpAnyH_take (i := 1) (v := ?hvr_1) (List.getElem?_toArray.trans rfl) (by kernel_rfl) (by kernel_rfl) (by kernel_rfl) (fun _ _ _ h => h) (Or.inl ⟨by rfl, ?hyr_1⟩) (by assumption) ?hrr_1
          case hyr_1 => (intro wt hSw; (try dsimp only at hSw); go_simp; try (with_reducible rfl))
          try simp only [Act.put, List.setIfInBounds_toArray, List.set_cons_zero, List.set_cons_succ]
          refine wpAnyH_take (i := 2) (v := ?hvr_2) (List.getElem?_toArray.trans rfl) (by kernel_rfl) (by kernel_rfl) (by kernel_rfl) (fun _ _ _ h => h) (Or.inl ⟨by rfl, ?hyr_2⟩) (by assumption) ?hrr_2
          case hyr_2 => (intro wt hSw; (try dsimp only at hSw); go_simp; try (with_reducible rfl))
          try simp only [Act.put, List.setIfInBounds_toArray, List.set_cons_zero, List.set_cons_succ]
          refine wpAnyH_take (i := 3) (v := ?hvr_3) (List.getElem?_toArray.trans rfl) (by kernel_rfl) (by kernel_rfl) (by kernel_rfl) (fun _ _ _ h => h) (Or.inl ⟨by rfl, ?hyr_3⟩) (by assumption) ?hrr_3
          case hyr_3 => (intro wt hSw; (try dsimp only at hSw); go_simp; try (with_reducible rfl))
          try simp only [Act.put, List.setIfInBounds_toArray, List.set_cons_zero, List.set_cons_succ]
          refine wpAnyH_take (i := 4) (v := ?hvr_4) (List.getElem?_toArray.trans rfl) (by kernel_rfl) (by kernel_rfl) (by kernel_rfl) (fun _ _ _ h => h) (Or.inl ⟨by rfl, ?hyr_4⟩) (by assumption) ?hrr_4
          case hyr_4 => (intro wt hSw; (try dsimp only at hSw); go_simp; try (with_reducible rfl))
          try simp only [Act.put, List.setIfInBounds_toArray, List.set_cons_zero, List.set_cons_succ]
          refine wpAnyH_take (i := 5) (v := ?hvr_5) (List.getElem?_toArray.trans rfl) (by kernel_rfl) (by kernel_rfl) (by kernel_rfl) (fun _ _ _ h => h) (Or.inl ⟨by rfl, ?hyr_5⟩) (by assumption) ?hrr_5
          case hyr_5 => (intro wt hSw; (try dsimp only at hSw); go_simp; try (with_reducible rfl))
          try simp only [Act.put, List.setIfInBounds_toArray, List.set_cons_zero, List.set_cons_succ]
          refine wpAnyH_take (i := 6) (v := ?hvr_6) (List.getElem?_toArray.trans rfl) (by kernel_rfl) (by kernel_rfl) (by kernel_rfl) (fun _ _ _ h => h) (Or.inl ⟨by rfl, ?hyr_6⟩) (by assumption) ?hrr_6
          case hyr_6 => (intro wt hSw; (try dsimp only at hSw); go_simp; try (with_reducible rfl))
          try simp only [Act.put, List.setIfInBounds_toArray, List.set_cons_zero, List.set_cons_succ]
          refine wpAnyH_ready (rs := [7]) (by kernel_rfl) (by simp) ?_
          refine AllReadyH.cons (List.getElem?_toArray.trans rfl) (fun K hK => ?_) AllReadyH.nil
          go_simp
          go_at_call 57
          refine (C1.out _ ?_).mono ?_
          assumption
          rintro e vx ⟨rfl, kx⟩
          clear C1
          try (go_wp2_with fail)
          refine hK.out _ _ ?_ (fun hHeld => ?_)
          · (try dsimp only)
            assumption
          clear hK K
          try simp only [Act.put, List.setIfInBounds_toArray, List.set_cons_zero, List.set_cons_succ]
          refine wpAnyH_ready (rs := [8]) (by kernel_rfl) (by simp) ?_
          refine AllReadyH.cons (List.getElem?_toArray.trans rfl) (fun K hK => ?_) AllReadyH.nil
          go_simp
          go_at_call 56
          refine (C3.out _ ?_).mono ?_
          assumption
          rintro e vx ⟨rfl, kx⟩
          clear C3
          try (go_wp2_with fail)
          refine hK.out _ _ ?_ (fun hHeld => ?_)
          · (try dsimp only)
            assumption
          clear hK K
          try simp only [Act.put, List.setIfInBounds_toArray, List.set_cons_zero, List.set_cons_succ]
          refine wpAnyH_take (i := 9) (v := ?hvr_9) (List.getElem?_toArray.trans rfl) (by kernel_rfl) (by kernel_rfl) (by kernel_rfl) (fun _ _ _ h => h) (Or.inl ⟨by rfl, ?hyr_9⟩) (by assumption) ?hrr_9
          case hyr_9 => (intro wt hSw; (try dsimp only at hSw); go_simp; try (with_reducible rfl))
          try simp only [Act.put, List.setIfInBounds_toArray, List.set_cons_zero, List.set_cons_succ]
          refine wpAnyH_take (i := 10) (v := ?hvr_10) (List.getElem?_toArray.trans rfl) (by kernel_rfl) (by kernel_rfl) (by kernel_rfl) (fun _ _ _ h => h) (Or.inl ⟨by rfl, ?hyr_10⟩) (by assumption) ?hrr_10
          case hyr_10 => (intro wt hSw; (try dsimp only at hSw); go_simp; try (with_reducible rfl))
          try simp only [Act.put, List.setIfInBounds_toArray, List.set_cons_zero, List.set_cons_succ]
          refine wpAnyH_take (i := 11) (v := ?hvr_11) (List.getElem?_toArray.trans rfl) (by kernel_rfl) (by kernel_rfl) (by kernel_rfl) (fun _ _ _ h => h) (Or.inl ⟨by rfl, ?hyr_11⟩) (by assumption) ?hrr_11
          case hyr_11 => (intro wt hSw; (try dsimp only at hSw); go_simp; try (with_reducible rfl))
          try simp only [Act.put, List.setIfInBounds_toArray, List.set_cons_zero, List.set_cons_succ]
          refine wpAnyH_take (i := 12) (v := ?hvr_12) (List.getElem?_toArray.trans rfl) (by kernel_rfl) (by kernel_rfl) (by kernel_rfl) (fun _ _ _ h => h) (Or.inl ⟨by rfl, ?hyr_12⟩) (by assumption) ?hrr_12
          case hyr_12 => (intro wt hSw; (try dsimp only at hSw); go_simp; try (with_reducible rfl))
          try simp only [Act.put, List.setIfInBounds_toArray, List.set_cons_zero, List.set_cons_succ]
          refine wpAnyH_take (i := 13) (v := ?hvr_13) (List.getElem?_toArray.trans rfl) (by kernel_rfl) (by kernel_rfl) (by kernel_rfl) (fun _ _ _ h => h) (Or.inl ⟨by rfl, ?hyr_13⟩) (by assumption) ?hrr_13
          case hyr_13 => (intro wt hSw; (try dsimp only at hSw); go_simp; try (with_reducible rfl))
          try simp only [Act.put, List.setIfInBounds_toArray, List.set_cons_zero, List.set_cons_succ]
          refine wpAnyH_take (i := 14) (v := ?hvr_14) (List.getElem?_toArray.trans rfl) (by kernel_rfl) (by kernel_rfl) (by kernel_rfl) (fun _ _ _ h => h) (Or.inl ⟨by rfl, ?hyr_14⟩) (by assumption) ?hrr_14
          case hyr_14 => (intro wt hSw; (try dsimp only at hSw); go_simp; try (with_reducible rfl))
          try simp only [Act.put, List.setIfInBounds_toArray, List.set_cons_zero, List.set_cons_succ]
          refine wpAnyH_take (i := 15) (v := ?hvr_15) (List.getElem?_toArray.trans rfl) (by kernel_rfl) (by kernel_rfl) (by kernel_rfl) (fun _ _ _ h => h) (Or.inl ⟨by rfl, ?hyr_15⟩) (by assumption) ?hrr_15
          case hyr_15 => (intro wt hSw; (try dsimp only at hSw); go_simp; try (with_reducible rfl))
          try simp only [Act.put, List.setIfInBounds_toArray, List.set_cons_zero, List.set_cons_succ]
          refine wpAnyH_take (i := 16) (v := ?hvr_16) (List.getElem?_toArray.trans rfl) (by kernel_rfl) (by kernel_rfl) (by kernel_rfl) (fun _ _ _ h => h) (Or.inl ⟨by rfl, ?hyr_16⟩) (by assumption) ?hrr_16
          case hyr_16 => (intro wt hSw; (try dsimp only at hSw); go_simp; try (with_reducible rfl))
          try simp only [Act.put, List.setIfInBounds_toArray, List.set_cons_zero, List.set_cons_succ]
          refine wpAnyH_take (i := 17) (v := ?hvr_17) (List.getElem?_toArray.trans rfl) (by kernel_rfl) (by kernel_rfl) (by kernel_rfl) (fun _ _ _ h => h) (Or.inl ⟨by rfl, ?hyr_17⟩) (by assumption) ?hrr_17
          case hyr_17 => (intro wt hSw; (try dsimp only at hSw); go_simp; try (with_reducible rfl))
          try simp only [Act.put, List.setIfInBounds_toArray, List.set_cons_zero, List.set_cons_succ]
          refine wpAnyH_ready (rs := [18]) (by kernel_rfl) (by simp) ?_
          refine AllReadyH.cons (List.getElem?_toArray.trans rfl) (fun K hK => ?_) AllReadyH.nil
          go_simp
          go_at_call 58
          refine (C2.out _ ?_).mono ?_
          assumption
          rintro e vx ⟨rfl, kx⟩
          clear C2
          try (go_wp2_with fail)
          refine hK.out _ _ ?_ (fun hHeld => ?_)
          · (try dsimp only)
            assumption
          clear hK K
          try simp only [Act.put, List.setIfInBounds_toArray, List.set_cons_zero, List.set_cons_succ]
          refine wpAnyH_ready (rs := [19]) (by kernel_rfl) (by simp) ?_
          refine AllReadyH.cons (List.getElem?_toArray.trans rfl) (fun K hK => ?_) AllReadyH.nil
          go_simp
          go_at_call 56
          refine (C4.out _ ?_).mono ?_
          assumption
          rintro e vx ⟨rfl, kx⟩
          clear C4
          try (go_wp2_with fail)
          refine hK.out _ _ ?_ (fun hHeld => ?_)
          · (try dsimp only)
            assumption
          clear hK K
          try simp only [Act.put, List.setIfInBounds_toArray, List.set_cons_zero, List.set_cons_succ]
          refine wpAnyH_take (i := 20) (v := ?hvr_20) (List.getElem?_toArray.trans rfl) (by kernel_rfl) (by kernel_rfl) (by kernel_rfl) (fun _ _ _ h => h) (Or.inl ⟨by rfl, ?hyr_20⟩) (by assumption) ?hrr_20
          case hyr_20 => (intro wt hSw; (try dsimp only at hSw); go_simp; try (with_reducible rfl))
          try simp only [Act.put, List.setIfInBounds_toArray, List.set_cons_zero, List.set_cons_succ]
          refine wpAnyH_take (i := 21) (v := ?hvr_21) (List.getElem?_toArray.trans rfl) (by kernel_rfl) (by kernel_rfl) (by kernel_rfl) (fun _ _ _ h => h) (Or.inl ⟨by rfl, ?hyr_21⟩) (by assumption) ?hrr_21
          case hyr_21 => (intro wt hSw; (try dsimp only at hSw); go_simp; try (with_reducible rfl))
          try simp only [Act.put, List.setIfInBounds_toArray, List.set_cons_zero, List.set_cons_succ]
          refine wpAnyH_done (by kernel_rfl) ?_ _
          refine NoPanic.normal ?_
          have BX := Lib.hid (fin.out vx kx)
          go_wp2
          go_ret
          exact ⟨by rw [hb.out]; rfl, BX.out⟩
      | false =>
        have hb := Lib.hid (Hfx.out (by rw [hq, Bool.false_and]))
        rw [hq] at C3
        clear Hfx Next hq C2 C4
        go_wp2_with fail
        refine wp_region_noPanic ?_
        refine wp_region_held_drew (S := fun V => (Hid (Below wr.heap.size wr V) ∧ V.cell? ⟨w.heap.size, 0, none⟩ = some (.slice (some ⟨b, o, none⟩) n0 c0) ∧ V.cell? ⟨w.heap.size, 1, none⟩ = some (.slice a n c) ∧ V.cell? ⟨b, o + i * 5, none⟩ = some (.string (str x.nm)))) (by kernel_rfl) S0 (fun hHeld => ?_)
        refine wpAnyH_take (i := 0) (v := ?hvs_0) (List.getElem?_toArray.trans rfl) (by kernel_rfl) (by kernel_rfl) (by kernel_rfl) (fun _ _ _ h => h) (Or.inl ⟨by rfl, ?hys_0⟩) (by assumption) ?hrs_0
        case hys_0 => (intro wt hSw; (try dsimp only at hSw); go_simp; try (with_reducible rfl))
        try simp only [Act.put, List.setIfInBounds_toArray, List.set_cons_zero, List.set_cons_succ]
        refine wpAnyH_take (i := 1) (v := ?hvs_1) (List.getElem?_toArray.trans rfl) (by kernel_rfl) (by kernel_rfl) (by kernel_rfl) (fun _ _ _ h => h) (Or.inl ⟨by rfl, ?hys_1⟩) (by assumption) ?hrs_1
        case hys_1 => (intro wt hSw; (try dsimp only at hSw); go_simp; try (with_reducible rfl))
        try simp only [Act.put, List.setIfInBounds_toArray, List.set_cons_zero, List.set_cons_succ]
        refine wpAnyH_take (i := 2) (v := ?hvs_2) (List.getElem?_toArray.trans rfl) (by kernel_rfl) (by kernel_rfl) (by kernel_rfl) (fun _ _ _ h => h) (Or.inl ⟨by rfl, ?hys_2⟩) (by assumption) ?hrs_2
        case hys_2 => (intro wt hSw; (try dsimp only at hSw); go_simp; try (with_reducible rfl))
        try simp only [Act.put, List.setIfInBounds_toArray, List.set_cons_zero, List.set_cons_succ]
        refine wpAnyH_take (i := 3) (v := ?hvs_3) (List.getElem?_toArray.trans rfl) (by kernel_rfl) (by kernel_rfl) (by kernel_rfl) (fun _ _ _ h => h) (Or.inl ⟨by rfl, ?hys_3⟩) (by assumption) ?hrs_3
        case hys_3 => (intro wt hSw; (try dsimp only at hSw); go_simp; try (with_reducible rfl))
        try simp only [Act.put, List.setIfInBounds_toArray, List.set_cons_zero, List.set_cons_succ]
        refine wpAnyH_take (i := 4) (v := ?hvs_4) (List.getElem?_toArray.trans rfl) (by kernel_rfl) (by kernel_rfl) (by kernel_rfl) (fun _ _ _ h => h) (Or.inl ⟨by rfl, ?hys_4⟩) (by assumption) ?hrs_4
        case hys_4 => (intro wt hSw; (try dsimp only at hSw); go_simp; try (with_reducible rfl))
        try simp only [Act.put, List.setIfInBounds_toArray, List.set_cons_zero, List.set_cons_succ]
        refine wpAnyH_take (i := 5) (v := ?hvs_5) (List.getElem?_toArray.trans rfl) (by kernel_rfl) (by kernel_rfl) (by kernel_rfl) (fun _ _ _ h => h) (Or.inl ⟨by rfl, ?hys_5⟩) (by assumption) ?hrs_5
        case hys_5 => (intro wt hSw; (try dsimp only at hSw); go_simp; try (with_reducible rfl))
        try simp only [Act.put, List.setIfInBounds_toArray, List.set_cons_zero, List.set_cons_succ]
        refine wpAnyH_take (i := 6) (v := ?hvs_6) (List.getElem?_toArray.trans rfl) (by kernel_rfl) (by kernel_rfl) (by kernel_rfl) (fun _ _ _ h => h) (Or.inl ⟨by rfl, ?hys_6⟩) (by assumption) ?hrs_6
        case hys_6 => (intro wt hSw; (try dsimp only at hSw); go_simp; try (with_reducible rfl))
        try simp only [Act.put, List.setIfInBounds_toArray, List.set_cons_zero, List.set_cons_succ]
        refine wpAnyH_ready (rs := [7]) (by kernel_rfl) (by simp) ?_
        refine AllReadyH.cons (List.getElem?_toArray.trans rfl) (fun K hK => ?_) AllReadyH.nil
        go_simp
        go_at_call 57
        refine (C1.out _ ?_).mono ?_
        assumption
        rintro e vx ⟨rfl, kx⟩
        clear C1
        try (go_wp2_with fail)
        refine hK.out _ _ ?_ (fun hHeld => ?_)
        · (try dsimp only)
          assumption
        clear hK K
        try simp only [Act.put, List.setIfInBounds_toArray, List.set_cons_zero, List.set_cons_succ]
        refine wpAnyH_ready (rs := [8]) (by kernel_rfl) (by simp) ?_
        refine AllReadyH.cons (List.getElem?_toArray.trans rfl) (fun K hK => ?_) AllReadyH.nil
        go_simp
        go_at_call 56
        refine (C3.out _ ?_).mono ?_
        assumption
        rintro e vx ⟨rfl, kx⟩
        clear C3
        try (go_wp2_with fail)
        refine hK.out _ _ ?_ (fun hHeld => ?_)
        · (try dsimp only)
          assumption
        clear hK K
        try simp only [Act.put, List.setIfInBounds_toArray, List.set_cons_zero, List.set_cons_succ]
        refine wpAnyH_take (i := 9) (v := ?hvs_9) (List.getElem?_toArray.trans rfl) (by kernel_rfl) (by kernel_rfl) (by kernel_rfl) (fun _ _ _ h => h) (Or.inl ⟨by rfl, ?hys_9⟩) (by assumption) ?hrs_9
        case hys_9 => (intro wt hSw; (try dsimp only at hSw); go_simp; try (with_reducible rfl))
        try simp only [Act.put, List.setIfInBounds_toArray, List.set_cons_zero, List.set_cons_succ]
        refine wpAnyH_take (i := 10) (v := ?hvs_10) (List.getElem?_toArray.trans rfl) (by kernel_rfl) (by kernel_rfl) (by kernel_rfl) (fun _ _ _ h => h) (Or.inl ⟨by rfl, ?hys_10⟩) (by assumption) ?hrs_10
        case hys_10 => (intro wt hSw; (try dsimp only at hSw); go_simp; try (with_reducible rfl))
        try simp only [Act.put, List.setIfInBounds_toArray, List.set_cons_zero, List.set_cons_succ]
        refine wpAnyH_take (i := 11) (v := undef) (List.getElem?_toArray.trans rfl) (by kernel_rfl) (by kernel_rfl) (by kernel_rfl) (fun _ _ _ h => h) (Or.inr ⟨by rfl, rfl⟩) (by assumption) ?_
        try simp only [Act.put, List.setIfInBounds_toArray, List.set_cons_zero, List.set_cons_succ]
        refine wpAnyH_take (i := 12) (v := undef) (List.getElem?_toArray.trans rfl) (by kernel_rfl) (by kernel_rfl) (by kernel_rfl) (fun _ _ _ h => h) (Or.inr ⟨by rfl, rfl⟩) (by assumption) ?_
        try simp only [Act.put, List.setIfInBounds_toArray, List.set_cons_zero, List.set_cons_succ]
        refine wpAnyH_take (i := 13) (v := undef) (List.getElem?_toArray.trans rfl) (by kernel_rfl) (by kernel_rfl) (by kernel_rfl) (fun _ _ _ h => h) (Or.inr ⟨by rfl, rfl⟩) (by assumption) ?_
        try simp only [Act.put, List.setIfInBounds_toArray, List.set_cons_zero, List.set_cons_succ]
        refine wpAnyH_take (i := 14) (v := undef) (List.getElem?_toArray.trans rfl) (by kernel_rfl) (by kernel_rfl) (by kernel_rfl) (fun _ _ _ h => h) (Or.inr ⟨by rfl, rfl⟩) (by assumption) ?_
        try simp only [Act.put, List.setIfInBounds_toArray, List.set_cons_zero, List.set_cons_succ]
        refine wpAnyH_take (i := 15) (v := undef) (List.getElem?_toArray.trans rfl) (by kernel_rfl) (by kernel_rfl) (by kernel_rfl) (fun _ _ _ h => h) (Or.inr ⟨by rfl, rfl⟩) (by assumption) ?_
        try simp only [Act.put, List.setIfInBounds_toArray, List.set_cons_zero, List.set_cons_succ]
        refine wpAnyH_take (i := 16) (v := undef) (List.getElem?_toArray.trans rfl) (by kernel_rfl) (by kernel_rfl) (by kernel_rfl) (fun _ _ _ h => h) (Or.inr ⟨by rfl, rfl⟩) (by assumption) ?_
        try simp only [Act.put, List.setIfInBounds_toArray, List.set_cons_zero, List.set_cons_succ]
        refine wpAnyH_take (i := 17) (v := undef) (List.getElem?_toArray.trans rfl) (by kernel_rfl) (by kernel_rfl) (by kernel_rfl) (fun _ _ _ h => h) (Or.inr ⟨by rfl, rfl⟩) (by assumption) ?_
        try simp only [Act.put, List.setIfInBounds_toArray, List.set_cons_zero, List.set_cons_succ]
        refine wpAnyH_take (i := 18) (v := undef) (List.getElem?_toArray.trans rfl) (by kernel_rfl) (by kernel_rfl) (by kernel_rfl) (fun _ _ _ h => h) (Or.inr ⟨by rfl, rfl⟩) (by assumption) ?_
        try simp only [Act.put, List.setIfInBounds_toArray, List.set_cons_zero, List.set_cons_succ]
        refine wpAnyH_take (i := 19) (v := undef) (List.getElem?_toArray.trans rfl) (by kernel_rfl) (by kernel_rfl) (by kernel_rfl) (fun _ _ _ h => h) (Or.inr ⟨by rfl, rfl⟩) (by assumption) ?_
        try simp only [Act.put, List.setIfInBounds_toArray, List.set_cons_zero, List.set_cons_succ]
        refine wpAnyH_take (i := 20) (v := undef) (List.getElem?_toArray.trans rfl) (by kernel_rfl) (by kernel_rfl) (by kernel_rfl) (fun _ _ _ h => h) (Or.inr ⟨by rfl, rfl⟩) (by assumption) ?_
        try simp only [Act.put, List.setIfInBounds_toArray, List.set_cons_zero, List.set_cons_succ]
        refine wpAnyH_take (i := 21) (v := ?hvs_21) (List.getElem?_toArray.trans rfl) (by kernel_rfl) (by kernel_rfl) (by kernel_rfl) (fun _ _ _ h => h) (Or.inl ⟨by rfl, ?hys_21⟩) (by assumption) ?hrs_21
        case hys_21 => (intro wt hSw; (try dsimp only at hSw); go_simp; try (with_reducible rfl))
        try simp only [Act.put, List.setIfInBounds_toArray, List.set_cons_zero, List.set_cons_succ]
        refine wpAnyH_done (by kernel_rfl) ?_ _
        refine NoPanic.normal ?_
        have BX := Lib.hid (fin.out vx kx)
        go_wp2
        go_ret
        exact ⟨by rw [hb.out]; rfl, BX.out⟩
    · obtain rfl : i = n0 := by omega
      have hr : Hid (QT.fitsB N L = true) := Lib.hid (QT.all_yes (fun j x hj hx => Hp.out j x (by have := Hl.out; omega) hx))
      clear Hp
      go_wp2
      go_ret
      exact ⟨by rw [hr.out]; rfl, Bv.out⟩
end Go.Proofs.YtflghelhdalhiaaGreatDoor
