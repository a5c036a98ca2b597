/-
  The document's Fits, by a contract.
  Conditions: the slices read as nodes, at most 256, and uses, at most 1024, whose amounts are at most 2^40.
  What is claimed at a node and the most that may be, in plain Lean; the bounds of both where a tree fits.
-/
import Derived.Test.YtkanjdijmdjbaaaGreatDoorG8
import Derived.Test.YtkanjdijmdjbaaaGreatDoorG4
namespace Go.Proofs.YtkanjdijmdjbaaaGreatDoor
open Go Go.RowKit

/-- No total and no used of a node is too great. -/
def QT.fitT (N : List QT.Nd) (x : QT.Nd) : Bool := decide (QT.Total N QT.Nd.o1 x.nm ≤ 1099511627776 ∧ QT.Total N QT.Nd.o2 x.nm ≤ 1099511627776)
def QT.fitU (N : List QT.Nd) (L : List QT.Us) (x : QT.Nd) : Bool := decide (QT.Used N L QT.Us.a1 x.nm ≤ 1099511627776 ∧ QT.Used N L QT.Us.a2 x.nm ≤ 1099511627776)
def QT.fitsB (N : List QT.Nd) (L : List QT.Us) : Bool := N.all fun x => QT.fitT N x && QT.fitU N L x
theorem QT.all_no {α : Type} {L : List α} {p : α → Bool} {x : α} (hx : x ∈ L) (h : p x = false) : L.all p = false := by
  rw [List.all_eq_false]
  exact ⟨x, hx, by rw [h]; simp⟩
theorem QT.all_yes {α : Type} {L : List α} {p : α → Bool} (h : ∀ (j : Nat) (x : α), j < L.length → L[j]? = some x → p x = true) : L.all p = true := by
  rw [List.all_eq_true]
  intro x hx
  obtain ⟨j, hj, rfl⟩ := List.getElem_of_mem hx
  exact h j _ hj (List.getElem?_eq_getElem hj)
set_option maxRecDepth 100000 in
set_option maxHeartbeats 8000000 in
/-- Fits. -/
theorem rfits_any (a0 : Option Addr) (n0 c0 : Nat) (a : Option Addr) (n c : Nat) (N : List QT.Nd) (L : List QT.Us) (w : World) (hM : RdsNd w (.slice a0 n0 c0) N) (hN : RdsUs w (.slice a n c) L) (hs0 : n0 ≤ 256) (hs : n ≤ 1024)
    (hf0 : ∀ x ∈ N, x.o1 ≤ 1099511627776 ∧ x.o2 ≤ 1099511627776) (hf : ∀ x ∈ L, x.a1 ≤ 1099511627776 ∧ x.a2 ≤ 1099511627776) :
    Calls Tryz.prog 61 #[.agg #[.slice a0 n0 c0, .slice a n c]] w fun v w' => v = .returned (.bool (QT.fitsB N L)) ∧ Below w.heap.size w w' := by
  have HT := Lib.hid (fun (V : World) (s : QT.Str) (b : Below w.heap.size w V) => rtotal_any a0 n0 c0 (.slice a n c) N s V (hM.below b) hs0 hf0)
  have HU := Lib.hid (fun (V : World) (s : QT.Str) (b : Below w.heap.size w V) => rused_any a0 n0 c0 a n c N L s V (hM.below b) (hN.below b) hs0 hs hf)
  have l0 := hM.len.1
  have l1 := hN.len.1
  have m0 := Nat.mul_le_mul_right 1099511627776 hs0
  have m1 := Nat.mul_le_mul_right 1099511627776 hs
  have HBt := Lib.hid (fun (s : QT.Str) => show QT.Total N QT.Nd.o1 s < 9007199254740992 ∧ QT.Total N QT.Nd.o2 s < 9007199254740992 from by
    have t1 := QT.total_bound N QT.Nd.o1 s (B := 1099511627776) (fun y hy => (hf0 y hy).1)
    have t2 := QT.total_bound N QT.Nd.o2 s (B := 1099511627776) (fun y hy => (hf0 y hy).2)
    rw [l0] at t1 t2
    omega)
  have HBu := Lib.hid (fun (s : QT.Str) => show QT.Used N L QT.Us.a1 s < 9007199254740992 ∧ QT.Used N L QT.Us.a2 s < 9007199254740992 from by
    have t1 := QT.used_bound N L QT.Us.a1 s (B := 1099511627776) (fun y hy => (hf y hy).1)
    have t2 := QT.used_bound N L QT.Us.a2 s (B := 1099511627776) (fun y hy => (hf y hy).2)
    rw [l1] at t1 t2
    omega)
  have Hl := Lib.hid l0
  have hn : (n0 : Int) ≤ 281474976710656 := by omega
  have HNb := Lib.hid (fun (V : World) (b : Below w.heap.size w V) => hM.below b)
  obtain ⟨W, hW⟩ : ∃ W, W = w.alloc (.cells #[.slice a0 n0 c0, .slice a n c] 32) := ⟨_, rfl⟩
  have bW : Hid (Below w.heap.size w W) := by rw [hW]; exact (Below.refl _ _).alloc (Nat.le_refl _) _
  have gW : Hid (W.heap[w.heap.size]? = some (.cells #[.slice a0 n0 c0, .slice a n c] 32)) := by rw [hW]; exact heap_alloc_new _ _
  clear hM hN hs0 hs hf0 hf l0 l1 m0 m1
  go_enter Tryz.func61, Tryz.ntmps61
  go_wp2_with fail
  rw [← hW]
  clear hW
  go_loopw [3] (fun v V => ∃ i : Nat, i ≤ n0 ∧ v = .int .i64 i ∧ Hid (∀ (j : Nat) (x : QT.Nd), j < i → N[j]? = some x → (QT.fitT N x && QT.fitU N L x) = true) ∧ Hid (Below w.heap.size w V) ∧ Hid (V.heap[w.heap.size]? = some (.cells #[.slice a0 n0 c0, .slice a n c] 32))) (fun v _ => n0 - (intOf v).toNat)
  case atStart => exact ⟨0, Nat.zero_le _, rfl, Lib.hid (fun j x hj => by omega), bW, gW⟩
  case round =>
    obtain ⟨i, hi, rfl, Hp, Bv, Gv⟩ := hrel
    clear bW gW
    obtain ⟨t0, t1, _, _⟩ := cells2 Gv.out
    by_cases hlt : i < n0
    · have h1 : (i : Int) < (n0 : Int) := by omega
      obtain ⟨x, hx⟩ : ∃ x, N[i]? = some x := ⟨_, List.getElem?_eq_getElem (by have := Hl.out; omega)⟩
      have Hx := Lib.hid hx
      obtain ⟨b, o, ea, q0, _⟩ := (HNb.out wr Bv.out).at i x hx
      subst ea
      clear hx
      have hBlt := (Array.getElem?_eq_some_iff.1 Gv.out).1
      have hblt := World.block_lt_of_cell? _ _ q0
      have cont : Hid (∀ V, Below wr.heap.size wr V → (Hid (Below wr.heap.size wr V) ∧ V.cell? ⟨w.heap.size, 0, none⟩ = some (.slice (some ⟨b, o, none⟩) n0 c0) ∧ V.cell? ⟨w.heap.size, 1, none⟩ = some (.slice a n c) ∧ V.cell? ⟨b, o + i * 5, none⟩ = some (.string (str x.nm)))) := fun V h => ⟨Lib.hid h, (World.cell?_of_block (a := ⟨w.heap.size, 0, none⟩) (h.block _ hBlt)).trans t0, (World.cell?_of_block (a := ⟨w.heap.size, 1, none⟩) (h.block _ hBlt)).trans t1, (World.cell?_of_block (a := ⟨b, o + i * 5, none⟩) (h.block _ hblt)).trans q0⟩
      have fin : Hid (∀ V, (Hid (Below wr.heap.size wr V) ∧ V.cell? ⟨w.heap.size, 0, none⟩ = some (.slice (some ⟨b, o, none⟩) n0 c0) ∧ V.cell? ⟨w.heap.size, 1, none⟩ = some (.slice a n c) ∧ V.cell? ⟨b, o + i * 5, none⟩ = some (.string (str x.nm))) → Below w.heap.size w V) := fun V h => Bv.out.trans (h.1.out.mono Bv.out.size)
      have hfx : (QT.fitT N x && QT.fitU N L x) = false → QT.fitsB N L = false := fun h => QT.all_no (List.mem_of_getElem? Hx.out) h
      have Hfx := Lib.hid hfx
      have hBt := HBt.out x.nm
      have hBu := HBu.out x.nm
      have eT : QT.fitT N x = decide (QT.Total N QT.Nd.o1 x.nm ≤ 1099511627776 ∧ QT.Total N QT.Nd.o2 x.nm ≤ 1099511627776) := rfl
      have eU : QT.fitU N L x = decide (QT.Used N L QT.Us.a1 x.nm ≤ 1099511627776 ∧ QT.Used N L QT.Us.a2 x.nm ≤ 1099511627776) := rfl
      have C1 : Hid (∀ V, (Hid (Below wr.heap.size wr V) ∧ V.cell? ⟨w.heap.size, 0, none⟩ = some (.slice (some ⟨b, o, none⟩) n0 c0) ∧ V.cell? ⟨w.heap.size, 1, none⟩ = some (.slice a n c) ∧ V.cell? ⟨b, o + i * 5, none⟩ = some (.string (str x.nm))) → Calls Tryz.prog 110 #[.agg #[.slice (some ⟨b, o, none⟩) n0 c0, .slice a n c], .string (str x.nm)] V fun e w' => e = .returned (.complex .f64 (FL.fB (QT.Total N QT.Nd.o1 x.nm)) (FL.fB (QT.Total N QT.Nd.o2 x.nm))) ∧ (Hid (Below wr.heap.size wr w') ∧ w'.cell? ⟨w.heap.size, 0, none⟩ = some (.slice (some ⟨b, o, none⟩) n0 c0) ∧ w'.cell? ⟨w.heap.size, 1, none⟩ = some (.slice a n c) ∧ w'.cell? ⟨b, o + i * 5, none⟩ = some (.string (str x.nm)))) := fun V h => (HT.out V x.nm (fin.out V h)).mono fun e w' ⟨e1, e2⟩ => ⟨e1, cont.out w' (h.1.out.trans (e2.mono h.1.out.size))⟩
      have C2 : Hid (∀ V, (Hid (Below wr.heap.size wr V) ∧ V.cell? ⟨w.heap.size, 0, none⟩ = some (.slice (some ⟨b, o, none⟩) n0 c0) ∧ V.cell? ⟨w.heap.size, 1, none⟩ = some (.slice a n c) ∧ V.cell? ⟨b, o + i * 5, none⟩ = some (.string (str x.nm))) → Calls Tryz.prog 111 #[.agg #[.slice (some ⟨b, o, none⟩) n0 c0, .slice a n c], .string (str x.nm)] V fun e w' => e = .returned (.complex .f64 (FL.fB (QT.Used N L QT.Us.a1 x.nm)) (FL.fB (QT.Used N L QT.Us.a2 x.nm))) ∧ (Hid (Below wr.heap.size wr w') ∧ w'.cell? ⟨w.heap.size, 0, none⟩ = some (.slice (some ⟨b, o, none⟩) n0 c0) ∧ w'.cell? ⟨w.heap.size, 1, none⟩ = some (.slice a n c) ∧ w'.cell? ⟨b, o + i * 5, none⟩ = some (.string (str x.nm)))) := fun V h => (HU.out V x.nm (fin.out V h)).mono fun e w' ⟨e1, e2⟩ => ⟨e1, cont.out w' (h.1.out.trans (e2.mono h.1.out.size))⟩
      have C3 : Hid (∀ V, (Hid (Below wr.heap.size wr V) ∧ V.cell? ⟨w.heap.size, 0, none⟩ = some (.slice (some ⟨b, o, none⟩) n0 c0) ∧ V.cell? ⟨w.heap.size, 1, none⟩ = some (.slice a n c) ∧ V.cell? ⟨b, o + i * 5, none⟩ = some (.string (str x.nm))) → Calls Tryz.prog 109 #[.complex .f64 (FL.fB (QT.Total N QT.Nd.o1 x.nm)) (FL.fB (QT.Total N QT.Nd.o2 x.nm))] V fun e w' => e = .returned (.bool (QT.fitT N x)) ∧ (Hid (Below wr.heap.size wr w') ∧ w'.cell? ⟨w.heap.size, 0, none⟩ = some (.slice (some ⟨b, o, none⟩) n0 c0) ∧ w'.cell? ⟨w.heap.size, 1, none⟩ = some (.slice a n c) ∧ w'.cell? ⟨b, o + i * 5, none⟩ = some (.string (str x.nm)))) := fun V h => (rmayQ_any _ _ V hBt.1 hBt.2).mono fun e w' ⟨e1, e2⟩ => ⟨by rw [e1, eT], by rw [← e2]; exact h⟩
      have C4 : Hid (∀ V, (Hid (Below wr.heap.size wr V) ∧ V.cell? ⟨w.heap.size, 0, none⟩ = some (.slice (some ⟨b, o, none⟩) n0 c0) ∧ V.cell? ⟨w.heap.size, 1, none⟩ = some (.slice a n c) ∧ V.cell? ⟨b, o + i * 5, none⟩ = some (.string (str x.nm))) → Calls Tryz.prog 109 #[.complex .f64 (FL.fB (QT.Used N L QT.Us.a1 x.nm)) (FL.fB (QT.Used N L QT.Us.a2 x.nm))] V fun e w' => e = .returned (.bool (QT.fitU N L x)) ∧ (Hid (Below wr.heap.size wr w') ∧ w'.cell? ⟨w.heap.size, 0, none⟩ = some (.slice (some ⟨b, o, none⟩) n0 c0) ∧ w'.cell? ⟨w.heap.size, 1, none⟩ = some (.slice a n c) ∧ w'.cell? ⟨b, o + i * 5, none⟩ = some (.string (str x.nm)))) := fun V h => (rmayQ_any _ _ V hBu.1 hBu.2).mono fun e w' ⟨e1, e2⟩ => ⟨by rw [e1, eU], by rw [← e2]; exact h⟩
      have S0 := cont.out wr.drew (Below.refl _ _).drew
      have next : (QT.fitT N x && QT.fitU N L x) = true → Hid (∀ (j : Nat) (y : QT.Nd), j < i + 1 → N[j]? = some y → (QT.fitT N y && QT.fitU N L y) = true) := fun h => Lib.hid (fun j y hj hy => by
        by_cases e : j = i
        · subst e; rw [Hx.out] at hy; cases hy; exact h
        · exact Hp.out j y (by omega) hy)
      have Next := Lib.hid next
      have KG : Hid (∀ V, Hid (Below wr.heap.size wr V) → V.heap[w.heap.size]? = some (.cells #[.slice (some ⟨b, o, none⟩) n0 c0, .slice a n c] 32)) := fun V h => (h.out.block _ hBlt).trans Gv.out
      clear hfx hBt hBu eT eU next hBlt hblt HT HU Hp
      generalize QT.Total N QT.Nd.o1 x.nm = T1 at *
      generalize QT.Total N QT.Nd.o2 x.nm = T2 at *
      generalize QT.Used N L QT.Us.a1 x.nm = U1 at *
      generalize QT.Used N L QT.Us.a2 x.nm = U2 at *
      cases hq : QT.fitT N x with
      | true =>
        cases hr : QT.fitU N L x with
        | true =>
          rw [hq] at C3 Next
          rw [hr] at C4 Next
          clear Hfx
          have NX := Next.out rfl
          clear Next hq hr
          go_wp2_with fail
          refine wp_region_noPanic ?_
          refine wp_region_held_drew (S := fun V => (Hid (Below wr.heap.size wr V) ∧ V.cell? ⟨w.heap.size, 0, none⟩ = some (.slice (some ⟨b, o, none⟩) n0 c0) ∧ V.cell? ⟨w.heap.size, 1, none⟩ = some (.slice a n c) ∧ V.cell? ⟨b, o + i * 5, none⟩ = some (.string (str x.nm)))) (by kernel_rfl) S0 (fun hHeld => ?_)
          refine rTk 0 ?_; try simp only [Act.put, rP1, rP2, rP3]
          refine rTk 1 ?_; try simp only [Act.put, rP1, rP2, rP3]
          refine rTk 2 ?_; try simp only [Act.put, rP1, rP2, rP3]
          refine rTk 3 ?_; try simp only [Act.put, rP1, rP2, rP3]
          refine rTk 4 ?_; try simp only [Act.put, rP1, rP2, rP3]
          refine rTk 5 ?_; try simp only [Act.put, rP1, rP2, rP3]
          refine rTk 6 ?_; try simp only [Act.put, rP1, rP2, rP3]
          refine rBr 7 fun K hK => ?_
          go_simp
          go_at_call 110
          refine (C1.out _ ?_).mono ?_
          assumption
          rintro e vx ⟨rfl, kx⟩
          clear C1
          try (go_wp2_with fail)
          refine hK.out _ _ (by (try dsimp only); assumption) (fun hHeld => ?_)
          clear hK K
          try simp only [Act.put, rP1, rP2, rP3]
          refine rBr 8 fun K hK => ?_
          go_simp
          go_at_call 109
          refine (C3.out _ ?_).mono ?_
          assumption
          rintro e vx ⟨rfl, kx⟩
          clear C3
          try (go_wp2_with fail)
          refine hK.out _ _ (by (try dsimp only); assumption) (fun hHeld => ?_)
          clear hK K
          try simp only [Act.put, rP1, rP2, rP3]
          refine rTk 9 ?_; try simp only [Act.put, rP1, rP2, rP3]
          refine rTk 10 ?_; try simp only [Act.put, rP1, rP2, rP3]
          refine rTk 11 ?_; try simp only [Act.put, rP1, rP2, rP3]
          refine rTk 12 ?_; try simp only [Act.put, rP1, rP2, rP3]
          refine rTk 13 ?_; try simp only [Act.put, rP1, rP2, rP3]
          refine rTk 14 ?_; try simp only [Act.put, rP1, rP2, rP3]
          refine rTk 15 ?_; try simp only [Act.put, rP1, rP2, rP3]
          refine rTk 16 ?_; try simp only [Act.put, rP1, rP2, rP3]
          refine rTk 17 ?_; try simp only [Act.put, rP1, rP2, rP3]
          refine rBr 18 fun K hK => ?_
          go_simp
          go_at_call 111
          refine (C2.out _ ?_).mono ?_
          assumption
          rintro e vx ⟨rfl, kx⟩
          clear C2
          try (go_wp2_with fail)
          refine hK.out _ _ (by (try dsimp only); assumption) (fun hHeld => ?_)
          clear hK K
          try simp only [Act.put, rP1, rP2, rP3]
          refine rBr 19 fun K hK => ?_
          go_simp
          go_at_call 109
          refine (C4.out _ ?_).mono ?_
          assumption
          rintro e vx ⟨rfl, kx⟩
          clear C4
          try (go_wp2_with fail)
          refine hK.out _ _ (by (try dsimp only); assumption) (fun hHeld => ?_)
          clear hK K
          try simp only [Act.put, rP1, rP2, rP3]
          refine rTk 20 ?_; try simp only [Act.put, rP1, rP2, rP3]
          refine rTk 21 ?_; try simp only [Act.put, rP1, rP2, rP3]
          refine wpAnyH_done (by kernel_rfl) ?_ _
          refine NoPanic.normal ?_
          have BX := Lib.hid (fin.out vx kx)
          have GX := Lib.hid (KG.out vx kx.1)
          go_wp2
          exact ⟨⟨i + 1, by omega, by simp, NX, BX, GX⟩, by simp [intOf]; omega⟩
        | false =>
          have hb := Lib.hid (Hfx.out (by rw [hr, Bool.and_false]))
          rw [hq] at C3
          rw [hr] at C4
          clear Hfx Next hq hr
          go_wp2_with fail
          refine wp_region_noPanic ?_
          refine wp_region_held_drew (S := fun V => (Hid (Below wr.heap.size wr V) ∧ V.cell? ⟨w.heap.size, 0, none⟩ = some (.slice (some ⟨b, o, none⟩) n0 c0) ∧ V.cell? ⟨w.heap.size, 1, none⟩ = some (.slice a n c) ∧ V.cell? ⟨b, o + i * 5, none⟩ = some (.string (str x.nm)))) (by kernel_rfl) S0 (fun hHeld => ?_)
          refine rTk 0 ?_; try simp only [Act.put, rP1, rP2, rP3]
          refine rTk 1 ?_; try simp only [Act.put, rP1, rP2, rP3]
          refine rTk 2 ?_; try simp only [Act.put, rP1, rP2, rP3]
          refine rTk 3 ?_; try simp only [Act.put, rP1, rP2, rP3]
          refine rTk 4 ?_; try simp only [Act.put, rP1, rP2, rP3]
          refine rTk 5 ?_; try simp only [Act.put, rP1, rP2, rP3]
          refine rTk 6 ?_; try simp only [Act.put, rP1, rP2, rP3]
          refine rBr 7 fun K hK => ?_
          go_simp
          go_at_call 110
          refine (C1.out _ ?_).mono ?_
          assumption
          rintro e vx ⟨rfl, kx⟩
          clear C1
          try (go_wp2_with fail)
          refine hK.out _ _ (by (try dsimp only); assumption) (fun hHeld => ?_)
          clear hK K
          try simp only [Act.put, rP1, rP2, rP3]
          refine rBr 8 fun K hK => ?_
          go_simp
          go_at_call 109
          refine (C3.out _ ?_).mono ?_
          assumption
          rintro e vx ⟨rfl, kx⟩
          clear C3
          try (go_wp2_with fail)
          refine hK.out _ _ (by (try dsimp only); assumption) (fun hHeld => ?_)
          clear hK K
          try simp only [Act.put, rP1, rP2, rP3]
          refine rTk 9 ?_; try simp only [Act.put, rP1, rP2, rP3]
          refine rTk 10 ?_; try simp only [Act.put, rP1, rP2, rP3]
          refine rTk 11 ?_; try simp only [Act.put, rP1, rP2, rP3]
          refine rTk 12 ?_; try simp only [Act.put, rP1, rP2, rP3]
          refine rTk 13 ?_; try simp only [Act.put, rP1, rP2, rP3]
          refine rTk 14 ?_; try simp only [Act.put, rP1, rP2, rP3]
          refine rTk 15 ?_; try simp only [Act.put, rP1, rP2, rP3]
          refine rTk 16 ?_; try simp only [Act.put, rP1, rP2, rP3]
          refine rTk 17 ?_; try simp only [Act.put, rP1, rP2, rP3]
          refine rBr 18 fun K hK => ?_
          go_simp
          go_at_call 111
          refine (C2.out _ ?_).mono ?_
          assumption
          rintro e vx ⟨rfl, kx⟩
          clear C2
          try (go_wp2_with fail)
          refine hK.out _ _ (by (try dsimp only); assumption) (fun hHeld => ?_)
          clear hK K
          try simp only [Act.put, rP1, rP2, rP3]
          refine rBr 19 fun K hK => ?_
          go_simp
          go_at_call 109
          refine (C4.out _ ?_).mono ?_
          assumption
          rintro e vx ⟨rfl, kx⟩
          clear C4
          try (go_wp2_with fail)
          refine hK.out _ _ (by (try dsimp only); assumption) (fun hHeld => ?_)
          clear hK K
          try simp only [Act.put, rP1, rP2, rP3]
          refine rTk 20 ?_; try simp only [Act.put, rP1, rP2, rP3]
          refine rTk 21 ?_; try simp only [Act.put, rP1, rP2, rP3]
          refine wpAnyH_done (by kernel_rfl) ?_ _
          refine NoPanic.normal ?_
          have BX := Lib.hid (fin.out vx kx)
          go_wp2
          go_ret
          exact ⟨by rw [hb.out]; rfl, BX.out⟩
      | false =>
        have hb := Lib.hid (Hfx.out (by rw [hq, Bool.false_and]))
        rw [hq] at C3
        clear Hfx Next hq C2 C4
        go_wp2_with fail
        refine wp_region_noPanic ?_
        refine wp_region_held_drew (S := fun V => (Hid (Below wr.heap.size wr V) ∧ V.cell? ⟨w.heap.size, 0, none⟩ = some (.slice (some ⟨b, o, none⟩) n0 c0) ∧ V.cell? ⟨w.heap.size, 1, none⟩ = some (.slice a n c) ∧ V.cell? ⟨b, o + i * 5, none⟩ = some (.string (str x.nm)))) (by kernel_rfl) S0 (fun hHeld => ?_)
        refine rTk 0 ?_; try simp only [Act.put, rP1, rP2, rP3]
        refine rTk 1 ?_; try simp only [Act.put, rP1, rP2, rP3]
        refine rTk 2 ?_; try simp only [Act.put, rP1, rP2, rP3]
        refine rTk 3 ?_; try simp only [Act.put, rP1, rP2, rP3]
        refine rTk 4 ?_; try simp only [Act.put, rP1, rP2, rP3]
        refine rTk 5 ?_; try simp only [Act.put, rP1, rP2, rP3]
        refine rTk 6 ?_; try simp only [Act.put, rP1, rP2, rP3]
        refine rBr 7 fun K hK => ?_
        go_simp
        go_at_call 110
        refine (C1.out _ ?_).mono ?_
        assumption
        rintro e vx ⟨rfl, kx⟩
        clear C1
        try (go_wp2_with fail)
        refine hK.out _ _ (by (try dsimp only); assumption) (fun hHeld => ?_)
        clear hK K
        try simp only [Act.put, rP1, rP2, rP3]
        refine rBr 8 fun K hK => ?_
        go_simp
        go_at_call 109
        refine (C3.out _ ?_).mono ?_
        assumption
        rintro e vx ⟨rfl, kx⟩
        clear C3
        try (go_wp2_with fail)
        refine hK.out _ _ (by (try dsimp only); assumption) (fun hHeld => ?_)
        clear hK K
        try simp only [Act.put, rP1, rP2, rP3]
        refine rTk 9 ?_; try simp only [Act.put, rP1, rP2, rP3]
        refine rTk 10 ?_; try simp only [Act.put, rP1, rP2, rP3]
        refine rSk 11 ?_; try simp only [Act.put, rP1, rP2, rP3]
        refine rSk 12 ?_; try simp only [Act.put, rP1, rP2, rP3]
        refine rSk 13 ?_; try simp only [Act.put, rP1, rP2, rP3]
        refine rSk 14 ?_; try simp only [Act.put, rP1, rP2, rP3]
        refine rSk 15 ?_; try simp only [Act.put, rP1, rP2, rP3]
        refine rSk 16 ?_; try simp only [Act.put, rP1, rP2, rP3]
        refine rSk 17 ?_; try simp only [Act.put, rP1, rP2, rP3]
        refine rSk 18 ?_; try simp only [Act.put, rP1, rP2, rP3]
        refine rSk 19 ?_; try simp only [Act.put, rP1, rP2, rP3]
        refine rSk 20 ?_; try simp only [Act.put, rP1, rP2, rP3]
        refine rTk 21 ?_; try simp only [Act.put, rP1, rP2, rP3]
        refine wpAnyH_done (by kernel_rfl) ?_ _
        refine NoPanic.normal ?_
        have BX := Lib.hid (fin.out vx kx)
        go_wp2
        go_ret
        exact ⟨by rw [hb.out]; rfl, BX.out⟩
    · obtain rfl : i = n0 := by omega
      have hr : Hid (QT.fitsB N L = true) := Lib.hid (QT.all_yes (fun j x hj hx => Hp.out j x (by have := Hl.out; omega) hx))
      clear Hp
      go_wp2
      go_ret
      exact ⟨by rw [hr.out]; rfl, Bv.out⟩
end Go.Proofs.YtkanjdijmdjbaaaGreatDoor

namespace Go.Proofs.YtkanjdijmdjbaaaGreatDoor.QT

/-- A sum of whole numbers. -/
def SI {α : Type} : List α → (α → Int) → Int
  | [], _ => 0
  | x :: r, F => F x + SI r F
theorem SI_append {α : Type} (l m : List α) (F : α → Int) : SI (l ++ m) F = SI l F + SI m F := by
  induction l with
  | nil => simp [SI]
  | cons x r ih => rw [List.cons_append, SI, SI, ih]; omega
theorem SI_bound {α : Type} {l : List α} {F : α → Int} {B : Nat} (h : ∀ x ∈ l, (F x).natAbs ≤ B) : (SI l F).natAbs ≤ l.length * B := by
  induction l with
  | nil => simp [SI]
  | cons x r ih =>
    have h1 := h x (by simp)
    have h2 := ih (fun y hy => h y (by simp [hy]))
    rw [SI, List.length_cons, Nat.add_mul]; omega
/-- A sum so far. -/
def partI {α : Type} (L : List α) (p : α → Bool) (f : α → Int) (i : Nat) : Int := SI ((L.take i).filter p) f
theorem partI_yes {α : Type} {L : List α} {p : α → Bool} (f : α → Int) {i : Nat} {x : α} (hx : L[i]? = some x) (h : p x = true) : partI L p f (i + 1) = partI L p f i + f x := by
  unfold partI
  rw [List.take_add_one, hx, List.filter_append, SI_append]
  simp [h, SI]
theorem partI_no {α : Type} {L : List α} {p : α → Bool} (f : α → Int) {i : Nat} {x : α} (hx : L[i]? = some x) (h : p x = false) : partI L p f (i + 1) = partI L p f i := by
  unfold partI
  rw [List.take_add_one, hx, List.filter_append, SI_append]
  simp [h, SI]
theorem partI_end {α : Type} {L : List α} {p : α → Bool} (f : α → Int) {i : Nat} (h : L.length ≤ i) : partI L p f i = SI (L.filter p) f := by
  unfold partI
  rw [List.take_of_length_le h]
theorem partI_le {α : Type} {L : List α} {p : α → Bool} {f : α → Int} {i B : Nat} (h : ∀ x ∈ L, (f x).natAbs ≤ B) : (partI L p f i).natAbs ≤ i * B := by
  unfold partI
  refine Nat.le_trans (SI_bound fun x hx => h x (List.mem_of_mem_take (List.mem_filter.1 hx).1)) (Nat.mul_le_mul_right _ ?_)
  exact Nat.le_trans (List.length_filter_le _ _) (List.length_take_le _ _)
/-- What is claimed at a node. -/
def asked1 (N : List Nd) (L : List Us) (s : Str) : Int := (here L Us.a1 s : Int) + SI (N.filter fun c => c.pr == s) (claim1 N L)
def asked2 (N : List Nd) (L : List Us) (s : Str) : Int := (here L Us.a2 s : Int) + SI (N.filter fun c => c.pr == s) (claim2 N L)
/-- The most that may be. -/
def limit1 (N : List Nd) (x : Nd) : Int := (Total N Nd.o1 x.nm : Int) + (if x.pr = [] then 0 else (x.b1 : Int))
def limit2 (N : List Nd) (x : Nd) : Int := (Total N Nd.o2 x.nm : Int) + (if x.pr = [] then 0 else (x.b2 : Int))
def holdsB (N : List Nd) (L : List Us) : Bool := N.all fun x => decide (asked1 N L x.nm ≤ limit1 N x) && decide (asked2 N L x.nm ≤ limit2 N x)
theorem fits_at {N : List Nd} {L : List Us} (h : fitsB N L = true) {x : Nd} (hx : x ∈ N) : (Total N Nd.o1 x.nm ≤ 1099511627776 ∧ Total N Nd.o2 x.nm ≤ 1099511627776) ∧ Used N L Us.a1 x.nm ≤ 1099511627776 ∧ Used N L Us.a2 x.nm ≤ 1099511627776 := by
  have := List.all_eq_true.1 h x hx
  rw [Bool.and_eq_true] at this
  exact ⟨of_decide_eq_true this.1, of_decide_eq_true this.2⟩
theorem claim_le {N : List Nd} {L : List Us} (h : fitsB N L = true) {x : Nd} (hx : x ∈ N) (hl : x.l1 ≤ 1099511627776 ∧ x.l2 ≤ 1099511627776) : (claim1 N L x).natAbs ≤ 1099511627776 ∧ (claim2 N L x).natAbs ≤ 1099511627776 := by
  obtain ⟨⟨a, b⟩, c, d⟩ := fits_at h hx
  unfold claim1 claim2
  generalize Total N Nd.o1 x.nm = T1 at *
  generalize Total N Nd.o2 x.nm = T2 at *
  generalize Used N L Us.a1 x.nm = U1 at *
  generalize Used N L Us.a2 x.nm = U2 at *
  have e1 := Int.max_def (U1 : Int) ((T1 : Int) - (x.l1 : Int))
  have e2 := Int.max_def (U2 : Int) ((T2 : Int) - (x.l2 : Int))
  rw [e1, e2]
  constructor
  · split <;> omega
  · split <;> omega
end Go.Proofs.YtkanjdijmdjbaaaGreatDoor.QT
