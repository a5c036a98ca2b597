/-
  What the law's 'sure' of tables calls, fourth part: ask and Apply, once and again.
  Conditions: none but those that the theorems' lines name.
-/
import Derived.Test.YtkanjdijmdjbaaaGreatDoorG26
import Derived.Test.YtkanjdijmdjbaaaGreatDoorSesF
import Derived.Deep.DeepCutAuto
namespace Go.Proofs.YtkanjdijmdjbaaaGreatDoor
open Go Go.RowKit

set_option maxRecDepth 100000 in
set_option maxHeartbeats 8000000 in
/-- ask, once. -/
theorem ask_once (TB mb T bn bu : Nat) (w : World) (hT : TabD w TB mb T bn bu 0 1 [] [s1]) :
    Calls Tryz.prog 43 #[.pointer (some ⟨TB, 0, none⟩), .agg #[.int .i64 3, .int .i64 1, .int .i64 1, .int .i64 4, .string ⟨#[114]⟩, .string ⟨#[]⟩, .complex .f64 0 0, .complex .f64 0 0, .complex .f64 0 0, .string ⟨#[]⟩, .string ⟨#[]⟩, .complex .f64 0 0]] w fun e w' => e = .returned (.agg #[.int .i64 0, .int .i64 1, .int .i64 0, .complex .f64 0 0, .complex .f64 0 0]) ∧ TabD w' TB mb T bn bu 1 2 [qz] [s2] ∧ Fr (fun j => j = mb ∨ j = bn) w w' := by
  have hstc := @run_store_complex Tryz.prog
  obtain ⟨W0, hW0⟩ : ∃ W, W = (w.alloc (.cells #[.int .i64 3, .int .i64 1, .int .i64 1, .int .i64 4, .string ⟨#[114]⟩, .string ⟨#[]⟩, .complex .f64 0 0, .complex .f64 0 0, .complex .f64 0 0, .string ⟨#[]⟩, .string ⟨#[]⟩, .complex .f64 0 0] 56)).alloc (.cells #[.int .i64 0, .int .i64 0, .int .i64 0, .complex .f64 0 0, .complex .f64 0 0] 47) := ⟨_, rfl⟩
  have b0 : Below w.heap.size w W0 := by rw [hW0]; exact ((Below.refl _ _).alloc (Nat.le_refl _) _).alloc (by simp) _
  have gB : W0.heap[w.heap.size]? = some (.cells #[.int .i64 3, .int .i64 1, .int .i64 1, .int .i64 4, .string ⟨#[114]⟩, .string ⟨#[]⟩, .complex .f64 0 0, .complex .f64 0 0, .complex .f64 0 0, .string ⟨#[]⟩, .string ⟨#[]⟩, .complex .f64 0 0] 56) := by
    rw [hW0, Below.heap_alloc _ _ _ (by simp)]
    exact heap_alloc_new _ _
  have gR : W0.heap[w.heap.size + 1]? = some (.cells #[.int .i64 0, .int .i64 0, .int .i64 0, .complex .f64 0 0, .complex .f64 0 0] 47) := by
    rw [hW0]
    exact (by simp : w.heap.size + 1 = (w.alloc _).heap.size) ▸ heap_alloc_new _ _
  have hTB : TB < w.heap.size := (Array.getElem?_eq_some_iff.1 hT.tb).1
  have hmb := hT.mp.lt
  have hTt : T < w.heap.size := (Array.getElem?_eq_some_iff.1 hT.tr.tb).1
  have hbn := hT.tr.mN.lt
  have hbu := hT.tr.mU.lt
  have hne := hT.ne
  have T0 := hT.below b0
  have hB0 := (Array.getElem?_eq_some_iff.1 gB).1
  have hR0 := (Array.getElem?_eq_some_iff.1 gR).1
  have cont1 : ∀ V, Below W0.heap.size W0 V → (V.cell? ⟨TB, 1, none⟩ = some (.map (some mb)) ∧ V.cell? ⟨w.heap.size, 1, none⟩ = some (.int .i64 1) ∧ (Instr.lookup 67 (.map (some mb)) (.int .i64 1) true).run Tryz.prog V = .ok (.tuple #[.agg #[.int .i64 0, .int .i64 0, .int .i64 0, .int .i64 0, .complex .f64 0 0, .complex .f64 0 0], .bool true]) V) := fun V b => by
    have TV := T0.below b
    obtain ⟨_, q1, _⟩ := cells2 TV.tb
    obtain ⟨d0, d1, _⟩ := cells12 ((b.block _ hB0).trans gB)
    have hl : (Instr.lookup 67 (.map (some mb)) (.int .i64 1) true).run Tryz.prog V = .ok (.tuple #[vSn s1, .bool true]) V := TV.mp.lookOk Tryz.underlying67 (zeroSn V) ⟨_, zSn_val⟩ 1 (by omega)
    rw [s1_val] at hl
    exact ⟨q1, d1, hl⟩
  have S1 := cont1 W0.drew (Below.refl _ _).drew
  obtain ⟨W1, hW1⟩ : ∃ W, W = (W0.alloc (.cells #[.int .i64 0, .int .i64 0, .int .i64 0, .int .i64 0, .complex .f64 0 0, .complex .f64 0 0] 76)).drew := ⟨_, rfl⟩
  have b1 : Below W0.heap.size W0 W1 := by rw [hW1]; exact ((Below.refl _ _).alloc (Nat.le_refl _) _).drew
  have SA1 := cont1 W1 b1
  rw [hW1] at SA1
  have gL1 : W1.heap[W0.heap.size]? = some (.cells #[.int .i64 0, .int .i64 0, .int .i64 0, .int .i64 0, .complex .f64 0 0, .complex .f64 0 0] 76) := by rw [hW1]; exact heap_alloc_new W0 _
  have T1 := T0.below b1
  have gB1 := (b1.block _ hB0).trans gB
  have gR1 := (b1.block _ hR0).trans gR
  obtain ⟨_, d1, d2, _⟩ := cells12 gB1
  obtain ⟨l0, _⟩ := cells6 gL1
  obtain ⟨t0, _, _, _⟩ := cells2 T1.tb
  have contD : Hid (∀ V : World, V.heap[TB]? = some (.cells #[.pointer (some ⟨T, 0, none⟩), .map (some mb)] 69) → V.heap[w.heap.size]? = some (.cells #[.int .i64 3, .int .i64 1, .int .i64 1, .int .i64 4, .string ⟨#[114]⟩, .string ⟨#[]⟩, .complex .f64 0 0, .complex .f64 0 0, .complex .f64 0 0, .string ⟨#[]⟩, .string ⟨#[]⟩, .complex .f64 0 0] 56) → (V.cell? ⟨TB, 0, none⟩ = some (.pointer (some ⟨T, 0, none⟩)) ∧ V.cell? ⟨w.heap.size, 1, none⟩ = some (.int .i64 1) ∧ V.cell? ⟨w.heap.size, 3, none⟩ = some (.int .i64 4) ∧ V.cell? ⟨w.heap.size, 4, none⟩ = some (.string ⟨#[114]⟩) ∧ V.cell? ⟨w.heap.size, 5, none⟩ = some (.string ⟨#[]⟩) ∧ V.cell? ⟨w.heap.size, 6, none⟩ = some (.complex .f64 0 0) ∧ V.cell? ⟨w.heap.size, 7, none⟩ = some (.complex .f64 0 0) ∧ V.cell? ⟨w.heap.size, 8, none⟩ = some (.complex .f64 0 0) ∧ V.cell? ⟨w.heap.size, 9, none⟩ = some (.string ⟨#[]⟩) ∧ V.cell? ⟨w.heap.size, 10, none⟩ = some (.string ⟨#[]⟩) ∧ V.cell? ⟨w.heap.size, 11, none⟩ = some (.complex .f64 0 0))) := Lib.hid (fun V g1 g2 => by
    obtain ⟨d0, d1, d2, d3, d4, d5, d6, d7, d8, d9, d10, d11⟩ := cells12 g2
    obtain ⟨q0, _, _, _⟩ := cells2 g1
    exact ⟨q0, d1, d3, d4, d5, d6, d7, d8, d9, d10, d11⟩)
  have SD1 := contD.out W1.drew T1.tb gB1
  have CD := Lib.hid (do_z T bn bu W1.drew (T1.tr.below (Below.refl _ _).drew))
  have SB1 := contD.out (W1.alloc (.cells #[.int .i64 0, .int .i64 0, .int .i64 0, .complex .f64 0 0, .complex .f64 0 0] 47)).drew ((Below.heap_alloc _ _ _ (Array.getElem?_eq_some_iff.1 T1.tb).1).trans T1.tb) ((Below.heap_alloc _ _ _ (Array.getElem?_eq_some_iff.1 gB1).1).trans gB1)
  have bA : Below W1.heap.size W1 (W1.alloc (.cells #[.int .i64 0, .int .i64 0, .int .i64 0, .complex .f64 0 0, .complex .f64 0 0] 47)) := (Below.refl _ _).alloc (Nat.le_refl _) _
  have CDb := Lib.hid (do_z T bn bu (W1.alloc (.cells #[.int .i64 0, .int .i64 0, .int .i64 0, .complex .f64 0 0, .complex .f64 0 0] 47)).drew (T1.tr.below bA.drew))
  have hw01 := b0.size
  have hw11 := b1.size
  have aft : ∀ V, TreeD V T bn bu true true 1 0 [qz] [] → Fr (fun j => j = bn) W1 V → TabD V TB mb T bn bu 1 1 [qz] [s1] ∧ V.heap[w.heap.size]? = some (.cells #[.int .i64 3, .int .i64 1, .int .i64 1, .int .i64 4, .string ⟨#[114]⟩, .string ⟨#[]⟩, .complex .f64 0 0, .complex .f64 0 0, .complex .f64 0 0, .string ⟨#[]⟩, .string ⟨#[]⟩, .complex .f64 0 0] 56) ∧ V.heap[w.heap.size + 1]? = some (.cells #[.int .i64 0, .int .i64 0, .int .i64 0, .complex .f64 0 0, .complex .f64 0 0] 47) := fun V t f =>
    ⟨⟨f.heap T1.tb (by omega), t, T1.mp.kept f (by omega), hne⟩, f.heap gB1 (by omega), f.heap gR1 (by omega)⟩
  have HR : Hid (∀ V, TreeD V T bn bu true true 1 0 [qz] [] → Fr (fun j => j = bn) W1 V → (V.cell? ⟨TB, 0, none⟩ = some (.pointer (some ⟨T, 0, none⟩)) ∧ V.cell? ⟨w.heap.size, 1, none⟩ = some (.int .i64 1) ∧ V.cell? ⟨w.heap.size, 3, none⟩ = some (.int .i64 4) ∧ V.cell? ⟨w.heap.size, 4, none⟩ = some (.string ⟨#[114]⟩) ∧ V.cell? ⟨w.heap.size, 5, none⟩ = some (.string ⟨#[]⟩) ∧ V.cell? ⟨w.heap.size, 6, none⟩ = some (.complex .f64 0 0) ∧ V.cell? ⟨w.heap.size, 7, none⟩ = some (.complex .f64 0 0) ∧ V.cell? ⟨w.heap.size, 8, none⟩ = some (.complex .f64 0 0) ∧ V.cell? ⟨w.heap.size, 9, none⟩ = some (.string ⟨#[]⟩) ∧ V.cell? ⟨w.heap.size, 10, none⟩ = some (.string ⟨#[]⟩) ∧ V.cell? ⟨w.heap.size, 11, none⟩ = some (.complex .f64 0 0)) ∧ ((V.alloc (.cells #[.int .i64 0, .int .i64 0, .int .i64 0, .complex .f64 0 0, .complex .f64 0 0] 47)).cell? ⟨TB, 0, none⟩ = some (.pointer (some ⟨T, 0, none⟩)) ∧ (V.alloc (.cells #[.int .i64 0, .int .i64 0, .int .i64 0, .complex .f64 0 0, .complex .f64 0 0] 47)).cell? ⟨w.heap.size, 1, none⟩ = some (.int .i64 1) ∧ (V.alloc (.cells #[.int .i64 0, .int .i64 0, .int .i64 0, .complex .f64 0 0, .complex .f64 0 0] 47)).cell? ⟨w.heap.size, 3, none⟩ = some (.int .i64 4) ∧ (V.alloc (.cells #[.int .i64 0, .int .i64 0, .int .i64 0, .complex .f64 0 0, .complex .f64 0 0] 47)).cell? ⟨w.heap.size, 4, none⟩ = some (.string ⟨#[114]⟩) ∧ (V.alloc (.cells #[.int .i64 0, .int .i64 0, .int .i64 0, .complex .f64 0 0, .complex .f64 0 0] 47)).cell? ⟨w.heap.size, 5, none⟩ = some (.string ⟨#[]⟩) ∧ (V.alloc (.cells #[.int .i64 0, .int .i64 0, .int .i64 0, .complex .f64 0 0, .complex .f64 0 0] 47)).cell? ⟨w.heap.size, 6, none⟩ = some (.complex .f64 0 0) ∧ (V.alloc (.cells #[.int .i64 0, .int .i64 0, .int .i64 0, .complex .f64 0 0, .complex .f64 0 0] 47)).cell? ⟨w.heap.size, 7, none⟩ = some (.complex .f64 0 0) ∧ (V.alloc (.cells #[.int .i64 0, .int .i64 0, .int .i64 0, .complex .f64 0 0, .complex .f64 0 0] 47)).cell? ⟨w.heap.size, 8, none⟩ = some (.complex .f64 0 0) ∧ (V.alloc (.cells #[.int .i64 0, .int .i64 0, .int .i64 0, .complex .f64 0 0, .complex .f64 0 0] 47)).cell? ⟨w.heap.size, 9, none⟩ = some (.string ⟨#[]⟩) ∧ (V.alloc (.cells #[.int .i64 0, .int .i64 0, .int .i64 0, .complex .f64 0 0, .complex .f64 0 0] 47)).cell? ⟨w.heap.size, 10, none⟩ = some (.string ⟨#[]⟩) ∧ (V.alloc (.cells #[.int .i64 0, .int .i64 0, .int .i64 0, .complex .f64 0 0, .complex .f64 0 0] 47)).cell? ⟨w.heap.size, 11, none⟩ = some (.complex .f64 0 0)) ∧ ((V.alloc (.cells #[.int .i64 0, .int .i64 1, .int .i64 0, .complex .f64 0 0, .complex .f64 0 0] 47)).cell? ⟨TB, 0, none⟩ = some (.pointer (some ⟨T, 0, none⟩)) ∧ (V.alloc (.cells #[.int .i64 0, .int .i64 1, .int .i64 0, .complex .f64 0 0, .complex .f64 0 0] 47)).cell? ⟨w.heap.size, 1, none⟩ = some (.int .i64 1) ∧ (V.alloc (.cells #[.int .i64 0, .int .i64 1, .int .i64 0, .complex .f64 0 0, .complex .f64 0 0] 47)).cell? ⟨w.heap.size, 3, none⟩ = some (.int .i64 4) ∧ (V.alloc (.cells #[.int .i64 0, .int .i64 1, .int .i64 0, .complex .f64 0 0, .complex .f64 0 0] 47)).cell? ⟨w.heap.size, 4, none⟩ = some (.string ⟨#[114]⟩) ∧ (V.alloc (.cells #[.int .i64 0, .int .i64 1, .int .i64 0, .complex .f64 0 0, .complex .f64 0 0] 47)).cell? ⟨w.heap.size, 5, none⟩ = some (.string ⟨#[]⟩) ∧ (V.alloc (.cells #[.int .i64 0, .int .i64 1, .int .i64 0, .complex .f64 0 0, .complex .f64 0 0] 47)).cell? ⟨w.heap.size, 6, none⟩ = some (.complex .f64 0 0) ∧ (V.alloc (.cells #[.int .i64 0, .int .i64 1, .int .i64 0, .complex .f64 0 0, .complex .f64 0 0] 47)).cell? ⟨w.heap.size, 7, none⟩ = some (.complex .f64 0 0) ∧ (V.alloc (.cells #[.int .i64 0, .int .i64 1, .int .i64 0, .complex .f64 0 0, .complex .f64 0 0] 47)).cell? ⟨w.heap.size, 8, none⟩ = some (.complex .f64 0 0) ∧ (V.alloc (.cells #[.int .i64 0, .int .i64 1, .int .i64 0, .complex .f64 0 0, .complex .f64 0 0] 47)).cell? ⟨w.heap.size, 9, none⟩ = some (.string ⟨#[]⟩) ∧ (V.alloc (.cells #[.int .i64 0, .int .i64 1, .int .i64 0, .complex .f64 0 0, .complex .f64 0 0] 47)).cell? ⟨w.heap.size, 10, none⟩ = some (.string ⟨#[]⟩) ∧ (V.alloc (.cells #[.int .i64 0, .int .i64 1, .int .i64 0, .complex .f64 0 0, .complex .f64 0 0] 47)).cell? ⟨w.heap.size, 11, none⟩ = some (.complex .f64 0 0)) ∧ Hid ((TabD (V.alloc (.cells #[.int .i64 0, .int .i64 1, .int .i64 0, .complex .f64 0 0, .complex .f64 0 0] 47)) TB mb T bn bu 1 1 [qz] [s1] ∧ (V.alloc (.cells #[.int .i64 0, .int .i64 1, .int .i64 0, .complex .f64 0 0, .complex .f64 0 0] 47)).heap[w.heap.size]? = some (.cells #[.int .i64 3, .int .i64 1, .int .i64 1, .int .i64 4, .string ⟨#[114]⟩, .string ⟨#[]⟩, .complex .f64 0 0, .complex .f64 0 0, .complex .f64 0 0, .string ⟨#[]⟩, .string ⟨#[]⟩, .complex .f64 0 0] 56) ∧ (V.alloc (.cells #[.int .i64 0, .int .i64 1, .int .i64 0, .complex .f64 0 0, .complex .f64 0 0] 47)).heap[w.heap.size + 1]? = some (.cells #[.int .i64 0, .int .i64 0, .int .i64 0, .complex .f64 0 0, .complex .f64 0 0] 47) ∧ (V.alloc (.cells #[.int .i64 0, .int .i64 1, .int .i64 0, .complex .f64 0 0, .complex .f64 0 0] 47)).heap[V.heap.size]? = some (.cells #[.int .i64 0, .int .i64 1, .int .i64 0, .complex .f64 0 0, .complex .f64 0 0] 47) ∧ W1.heap.size ≤ V.heap.size ∧ Fr (fun j => j = bn) W1 (V.alloc (.cells #[.int .i64 0, .int .i64 1, .int .i64 0, .complex .f64 0 0, .complex .f64 0 0] 47))))) := Lib.hid (fun V t f => by
    obtain ⟨h1, h2, h3⟩ := aft V t f
    have al : ∀ o, Below V.heap.size V (V.alloc o) := fun o => (Below.refl _ _).alloc (Nat.le_refl _) _
    have q1 := (Array.getElem?_eq_some_iff.1 h2).1
    have q2 := (Array.getElem?_eq_some_iff.1 h3).1
    exact ⟨contD.out V h1.tb h2, contD.out _ (h1.below (al _)).tb (((al _).block _ q1).trans h2), contD.out _ (h1.below (al _)).tb (((al _).block _ q1).trans h2),
      Lib.hid ⟨h1.below (al _), ((al _).block _ q1).trans h2, ((al _).block _ q2).trans h3, heap_alloc_new _ _, f.size, f.trans (Fr.of_below (al _))⟩⟩)
  have HQ : Hid (∀ V, TreeD V T bn bu true true 1 0 [qz] [] → Fr (fun j => j = bn) (W1.alloc (.cells #[.int .i64 0, .int .i64 0, .int .i64 0, .complex .f64 0 0, .complex .f64 0 0] 47)) V → (V.cell? ⟨TB, 0, none⟩ = some (.pointer (some ⟨T, 0, none⟩)) ∧ V.cell? ⟨w.heap.size, 1, none⟩ = some (.int .i64 1) ∧ V.cell? ⟨w.heap.size, 3, none⟩ = some (.int .i64 4) ∧ V.cell? ⟨w.heap.size, 4, none⟩ = some (.string ⟨#[114]⟩) ∧ V.cell? ⟨w.heap.size, 5, none⟩ = some (.string ⟨#[]⟩) ∧ V.cell? ⟨w.heap.size, 6, none⟩ = some (.complex .f64 0 0) ∧ V.cell? ⟨w.heap.size, 7, none⟩ = some (.complex .f64 0 0) ∧ V.cell? ⟨w.heap.size, 8, none⟩ = some (.complex .f64 0 0) ∧ V.cell? ⟨w.heap.size, 9, none⟩ = some (.string ⟨#[]⟩) ∧ V.cell? ⟨w.heap.size, 10, none⟩ = some (.string ⟨#[]⟩) ∧ V.cell? ⟨w.heap.size, 11, none⟩ = some (.complex .f64 0 0)) ∧ ((V.cell? ⟨W1.heap.size, 0, none⟩ = some (.int .i64 0) ∧ V.cell? ⟨W1.heap.size, 1, none⟩ = some (.int .i64 0) ∧ V.cell? ⟨W1.heap.size, 2, none⟩ = some (.int .i64 0) ∧ V.cell? ⟨W1.heap.size, 3, none⟩ = some (.complex .f64 0 0) ∧ V.cell? ⟨W1.heap.size, 4, none⟩ = some (.complex .f64 0 0)) ∧
      V.frozen? ⟨W1.heap.size, 0, none⟩ = false ∧ V.frozen? ⟨W1.heap.size, 1, none⟩ = false ∧ V.frozen? ⟨W1.heap.size, 2, none⟩ = false ∧ V.frozen? ⟨W1.heap.size, 3, none⟩ = false ∧ V.frozen? ⟨W1.heap.size, 4, none⟩ = false) ∧ ∃ w3, (((((V.setCell ⟨W1.heap.size, 0, none⟩ (.int .i64 0)).setCell ⟨W1.heap.size, 1, none⟩ (.int .i64 1)).setCell ⟨W1.heap.size, 2, none⟩ (.int .i64 0)).setCell ⟨W1.heap.size, 3, none⟩ (.complex .f64 0 0)).setCell ⟨W1.heap.size, 4, none⟩ (.complex .f64 0 0)) = w3 ∧ (w3.cell? ⟨TB, 0, none⟩ = some (.pointer (some ⟨T, 0, none⟩)) ∧ w3.cell? ⟨w.heap.size, 1, none⟩ = some (.int .i64 1) ∧ w3.cell? ⟨w.heap.size, 3, none⟩ = some (.int .i64 4) ∧ w3.cell? ⟨w.heap.size, 4, none⟩ = some (.string ⟨#[114]⟩) ∧ w3.cell? ⟨w.heap.size, 5, none⟩ = some (.string ⟨#[]⟩) ∧ w3.cell? ⟨w.heap.size, 6, none⟩ = some (.complex .f64 0 0) ∧ w3.cell? ⟨w.heap.size, 7, none⟩ = some (.complex .f64 0 0) ∧ w3.cell? ⟨w.heap.size, 8, none⟩ = some (.complex .f64 0 0) ∧ w3.cell? ⟨w.heap.size, 9, none⟩ = some (.string ⟨#[]⟩) ∧ w3.cell? ⟨w.heap.size, 10, none⟩ = some (.string ⟨#[]⟩) ∧ w3.cell? ⟨w.heap.size, 11, none⟩ = some (.complex .f64 0 0)) ∧ Hid ((TabD w3 TB mb T bn bu 1 1 [qz] [s1] ∧ w3.heap[w.heap.size]? = some (.cells #[.int .i64 3, .int .i64 1, .int .i64 1, .int .i64 4, .string ⟨#[114]⟩, .string ⟨#[]⟩, .complex .f64 0 0, .complex .f64 0 0, .complex .f64 0 0, .string ⟨#[]⟩, .string ⟨#[]⟩, .complex .f64 0 0] 56) ∧ w3.heap[w.heap.size + 1]? = some (.cells #[.int .i64 0, .int .i64 0, .int .i64 0, .complex .f64 0 0, .complex .f64 0 0] 47) ∧ w3.heap[W1.heap.size]? = some (.cells #[.int .i64 0, .int .i64 1, .int .i64 0, .complex .f64 0 0, .complex .f64 0 0] 47) ∧ W1.heap.size ≤ W1.heap.size ∧ Fr (fun j => j = bn) W1 w3))) := Lib.hid (fun V t f => by
    have f1 : Fr (fun j => j = bn) W1 V := (Fr.of_below bA).trans f
    obtain ⟨h1, h2, h3⟩ := aft V t f1
    have gX := f.heap (heap_alloc_new W1 (.cells #[.int .i64 0, .int .i64 0, .int .i64 0, .complex .f64 0 0, .complex .f64 0 0] 47)) (by omega)
    have f5 := fr5s V W1.heap.size (.int .i64 0) (.int .i64 1) (.int .i64 0) (.complex .f64 0 0) (.complex .f64 0 0)
    have h1' := h1.kept f5 (by omega) (by omega) (by omega) (by omega) (by omega)
    exact ⟨contD.out V h1.tb h2, cells5f gX, _, rfl, contD.out _ h1'.tb (f5.heap h2 (by omega)), Lib.hid ⟨h1', f5.heap h2 (by omega), f5.heap h3 (by omega), stored5 gX _ _ _ _ _, Nat.le_refl _, Fr.own f1 f5 (Nat.le_refl _)⟩⟩)
  have B01 := Lib.hid (b0.trans (b1.mono b0.size))
  have HW0 := Lib.hid hW0.symm
  have HW1 := Lib.hid hW1.symm
  have HL := Lib.hid (And.intro hTB (And.intro hmb (And.intro hTt (And.intro hbn (And.intro hbu hne)))))
  clear hW0 hW1 b0 b1 gB gR gB1 gR1 gL1 T0 T1 hT hTB hmb hTt hbn hbu hne hB0 hR0 cont1 bA hw01 hw11 aft contD
  go_enter Tryz.func43, Tryz.ntmps43
  go_wp2_with (rw [HW0.out])
  clear HW0
  refine wp_region_noPanic ?_
  refine wp_region_held_drew (S := fun V => (V.cell? ⟨TB, 1, none⟩ = some (.map (some mb)) ∧ V.cell? ⟨w.heap.size, 1, none⟩ = some (.int .i64 1) ∧ (Instr.lookup 67 (.map (some mb)) (.int .i64 1) true).run Tryz.prog V = .ok (.tuple #[.agg #[.int .i64 0, .int .i64 0, .int .i64 0, .int .i64 0, .complex .f64 0 0, .complex .f64 0 0], .bool true]) V)) (by kernel_rfl) S1 (fun hHeld => ?_)
  refine rTk 0 ?_; try simp only [Act.put, rP1, rP2, rP3]
  refine rTk 1 ?_; try simp only [Act.put, rP1, rP2, rP3]
  refine rTk 2 ?_; try simp only [Act.put, rP1, rP2, rP3]
  refine rTk 3 ?_; try simp only [Act.put, rP1, rP2, rP3]
  refine rTk 4 ?_; try simp only [Act.put, rP1, rP2, rP3]
  refine rTk 5 ?_; try simp only [Act.put, rP1, rP2, rP3]
  refine rTk 6 ?_; try simp only [Act.put, rP1, rP2, rP3]
  refine rTk 7 ?_; try simp only [Act.put, rP1, rP2, rP3]
  refine rTk 8 ?_; try simp only [Act.put, rP1, rP2, rP3]
  refine rTk 9 ?_; try simp only [Act.put, rP1, rP2, rP3]
  refine rBr 10 fun K hK => ?_
  go_simp
  refine hK.out _ _ (by (try dsimp only); assumption) (fun hHeld => ?_)
  clear hK K
  try simp only [Act.put, rP1, rP2, rP3]
  refine rBr 11 fun K hK => ?_
  go_simp
  try (go_wp2_with fail)
  refine hK.out _ _ (by (try dsimp only); assumption) (fun hHeld => ?_)
  clear hK K
  try simp only [Act.put, rP1, rP2, rP3]
  refine rTk 12 ?_; try simp only [Act.put, rP1, rP2, rP3]
  refine wpAnyH_done (by kernel_rfl) ?_ _
  refine NoPanic.normal ?_
  rw [HW1.out]
  clear HW1 S1 SA1 hHeld
  go_wp2_with fail
  go_upto_region 10 with fail
  go_cut [7] (fun v7 V => ∃ X, v7 = .pointer (some ⟨X, 0, none⟩) ∧ Hid ((TabD V TB mb T bn bu 1 1 [qz] [s1] ∧ V.heap[w.heap.size]? = some (.cells #[.int .i64 3, .int .i64 1, .int .i64 1, .int .i64 4, .string ⟨#[114]⟩, .string ⟨#[]⟩, .complex .f64 0 0, .complex .f64 0 0, .complex .f64 0 0, .string ⟨#[]⟩, .string ⟨#[]⟩, .complex .f64 0 0] 56) ∧ V.heap[w.heap.size + 1]? = some (.cells #[.int .i64 0, .int .i64 0, .int .i64 0, .complex .f64 0 0, .complex .f64 0 0] 47) ∧ V.heap[X]? = some (.cells #[.int .i64 0, .int .i64 1, .int .i64 0, .complex .f64 0 0, .complex .f64 0 0] 47) ∧ W1.heap.size ≤ X ∧ Fr (fun j => j = bn) W1 V)))
  case first =>
    refine wp_region_noPanic ?_
    refine wp_region_held_drew (S := fun V => (V.cell? ⟨TB, 0, none⟩ = some (.pointer (some ⟨T, 0, none⟩)) ∧ V.cell? ⟨w.heap.size, 1, none⟩ = some (.int .i64 1) ∧ V.cell? ⟨w.heap.size, 3, none⟩ = some (.int .i64 4) ∧ V.cell? ⟨w.heap.size, 4, none⟩ = some (.string ⟨#[114]⟩) ∧ V.cell? ⟨w.heap.size, 5, none⟩ = some (.string ⟨#[]⟩) ∧ V.cell? ⟨w.heap.size, 6, none⟩ = some (.complex .f64 0 0) ∧ V.cell? ⟨w.heap.size, 7, none⟩ = some (.complex .f64 0 0) ∧ V.cell? ⟨w.heap.size, 8, none⟩ = some (.complex .f64 0 0) ∧ V.cell? ⟨w.heap.size, 9, none⟩ = some (.string ⟨#[]⟩) ∧ V.cell? ⟨w.heap.size, 10, none⟩ = some (.string ⟨#[]⟩) ∧ V.cell? ⟨w.heap.size, 11, none⟩ = some (.complex .f64 0 0))) (by kernel_rfl) SD1 (fun hHeld => ?_)
    refine rTk 0 ?_; try simp only [Act.put, rP1, rP2, rP3]
    refine rTk 1 ?_; try simp only [Act.put, rP1, rP2, rP3]
    refine rTk 2 ?_; try simp only [Act.put, rP1, rP2, rP3]
    refine rTk 3 ?_; try simp only [Act.put, rP1, rP2, rP3]
    refine rTk 4 ?_; try simp only [Act.put, rP1, rP2, rP3]
    refine rTk 5 ?_; try simp only [Act.put, rP1, rP2, rP3]
    refine rTk 6 ?_; try simp only [Act.put, rP1, rP2, rP3]
    refine rTk 7 ?_; try simp only [Act.put, rP1, rP2, rP3]
    refine wpAnyH_ready (rs := [8, 10]) (by kernel_rfl) (by simp) ?_
    refine AllReadyH.cons (List.getElem?_toArray.trans rfl) (fun K hK => ?cca) (AllReadyH.cons (List.getElem?_toArray.trans rfl) (fun K hK => ?aab) (AllReadyH.nil))
    case cca =>
      go_simp
      go_at_call 89
      refine CD.out.mono ?_
      rintro e w2 ⟨rfl, t2, f2⟩
      obtain ⟨SD2, SD3, SD4, HX⟩ := HR.out w2 t2 ⟨f2.os, f2.tape, f2.output, f2.size, f2.block⟩
      clear f2 t2
      try (go_wp2_with fail)
      refine hK.out _ _ (by (try dsimp only); assumption) (fun hHeld => ?_)
      clear hK K
      try simp only [Act.put, rP1, rP2, rP3]
      refine rTk 9 ?_; try simp only [Act.put, rP1, rP2, rP3]
      refine rBr 10 fun K hK => ?hhc
      case hhc =>
        go_simp
        refine hK.out _ _ (by (try dsimp only); assumption) (fun hHeld => ?_)
        clear hK K
        try simp only [Act.put, rP1, rP2, rP3]
        refine rBr 11 fun K hK => ?iic
        case iic =>
          go_simp
          try (go_wp2_with fail)
          refine hK.out _ _ (by (try dsimp only); assumption) (fun hHeld => ?_)
          clear hK K
          try simp only [Act.put, rP1, rP2, rP3]
          refine wpAnyH_done (by kernel_rfl) ?_ _
          refine NoPanic.normal ?_
          go_wp2_with fail
          go_meet
          exact ⟨w2.heap.size, rfl, HX⟩
    case aab =>
      go_simp
      have kal := SB1
      refine hK.out _ _ (by (try dsimp only); assumption) (fun hHeld => ?_)
      clear hK K
      try simp only [Act.put, rP1, rP2, rP3]
      refine rBr 8 fun K hK => ?ddb
      case ddb =>
        go_simp
        go_at_call 89
        refine CDb.out.mono ?_
        rintro e w2 ⟨rfl, t2, f2⟩
        obtain ⟨SD2, ⟨⟨z0, z1, z2, z3, z4⟩, q0, q1, q2, q3, q4⟩, w3, hw3, SD3, HX⟩ := HQ.out w2 t2 ⟨f2.os, f2.tape, f2.output, f2.size, f2.block⟩
        have Hw3 := Lib.hid hw3
        clear f2 t2 hw3
        try (go_wp2_with fail)
        refine hK.out _ _ (by (try dsimp only); assumption) (fun hHeld => ?_)
        clear hK K
        try simp only [Act.put, rP1, rP2, rP3]
        refine rTk 9 ?_; try simp only [Act.put, rP1, rP2, rP3]
        refine rBr 11 fun K hK => ?iid
        case iid =>
          go_simp
          try (go_wp2_with fail)
          rw [Hw3.out]
          refine hK.out _ _ (by (try dsimp only); assumption) (fun hHeld => ?_)
          clear hK K
          try simp only [Act.put, rP1, rP2, rP3]
          refine wpAnyH_done (by kernel_rfl) ?_ _
          refine NoPanic.normal ?_
          go_wp2_with fail
          go_meet
          exact ⟨W1.heap.size, rfl, HX⟩
  obtain ⟨X, rfl, HX⟩ := hcut
  obtain ⟨T3, gB3, gR3, gX3, hX, f3⟩ := HX.out
  have hh := HL.out
  obtain ⟨w6, hput, hm, hf⟩ := (T3.mp.below (Below.refl _ wc).drew).set Tryz.underlying67 (by omega) s2 (by decide) rfl
  rw [s2_val] at hput
  have hput' : (Instr.mapUpdate 67 (.map (some mb)) (.int .i64 1) (.agg #[.int .i64 1, .int .i64 0, .int .i64 1, .int .i64 0, .complex .f64 0 0, .complex .f64 0 0])).run Tryz.prog wc.drew = .ok () w6 := hput
  have hf' : Fr (fun j => j = mb) wc w6 := ⟨hf.os, hf.tape, hf.output, hf.size, hf.block⟩
  have contU : ∀ V : World, V.heap[TB]? = some (.cells #[.pointer (some ⟨T, 0, none⟩), .map (some mb)] 69) → V.heap[w.heap.size]? = some (.cells #[.int .i64 3, .int .i64 1, .int .i64 1, .int .i64 4, .string ⟨#[114]⟩, .string ⟨#[]⟩, .complex .f64 0 0, .complex .f64 0 0, .complex .f64 0 0, .string ⟨#[]⟩, .string ⟨#[]⟩, .complex .f64 0 0] 56) → V.heap[X]? = some (.cells #[.int .i64 0, .int .i64 1, .int .i64 0, .complex .f64 0 0, .complex .f64 0 0] 47) → (V.cell? ⟨TB, 1, none⟩ = some (.map (some mb)) ∧ V.cell? ⟨w.heap.size, 1, none⟩ = some (.int .i64 1) ∧ V.cell? ⟨w.heap.size, 2, none⟩ = some (.int .i64 1) ∧ V.cell? ⟨X, 0, none⟩ = some (.int .i64 0) ∧ V.cell? ⟨X, 1, none⟩ = some (.int .i64 1) ∧ V.cell? ⟨X, 2, none⟩ = some (.int .i64 0) ∧ V.cell? ⟨X, 3, none⟩ = some (.complex .f64 0 0) ∧ V.cell? ⟨X, 4, none⟩ = some (.complex .f64 0 0)) := fun V g1 g2 g3 => by
    obtain ⟨d0, d1, d2, d3, d4, d5, d6, d7, d8, d9, d10, d11⟩ := cells12 g2
    obtain ⟨_, q1, _, _⟩ := cells2 g1
    obtain ⟨⟨x0, x1, x2, x3, x4⟩, _⟩ := cells5f g3
    exact ⟨q1, d1, d2, x0, x1, x2, x3, x4⟩
  have hw1 := B01.out.size
  have gT6 := hf'.heap T3.tb (by omega)
  have gB6 := hf'.heap gB3 (by omega)
  have gR6 := hf'.heap gR3 (by omega)
  have gX6 := hf'.heap gX3 (by omega)
  have SU1 := contU wc.drew T3.tb gB3 gX3
  have SU2 := contU w6 gT6 gB6 gX6
  have T6 : TabD w6 TB mb T bn bu 1 2 [qz] [s2] := ⟨gT6, T3.tr.kept hf' (by omega) (by omega) (by omega), hm, hh.2.2.2.2.2⟩
  obtain ⟨⟨x0, x1, x2, x3, x4⟩, _⟩ := cells5f gX6
  obtain ⟨⟨z0, z1, z2, z3, z4⟩, q0, q1, q2, q3, q4⟩ := cells5f gR6
  obtain ⟨w8, hw8⟩ : ∃ W, W = (((((w6.setCell ⟨w.heap.size + 1, 0, none⟩ (.int .i64 0)).setCell ⟨w.heap.size + 1, 1, none⟩ (.int .i64 1)).setCell ⟨w.heap.size + 1, 2, none⟩ (.int .i64 0)).setCell ⟨w.heap.size + 1, 3, none⟩ (.complex .f64 0 0)).setCell ⟨w.heap.size + 1, 4, none⟩ (.complex .f64 0 0)) := ⟨_, rfl⟩
  have f8 : Fr (fun j => j = w.heap.size + 1) w6 w8 := by rw [hw8]; exact fr5s w6 _ _ _ _ _ _
  have g8 : w8.heap[w.heap.size + 1]? = some (.cells #[.int .i64 0, .int .i64 1, .int .i64 0, .complex .f64 0 0, .complex .f64 0 0] 47) := by rw [hw8]; exact stored5 gR6 _ _ _ _ _
  have Fin := Lib.hid (And.intro (T6.kept f8 (by omega) (by omega) (by omega) (by omega) (by omega)) (Fr.own (X := fun j => j = mb ∨ j = bn) (((Fr.of_below B01.out).trans (f3.mono (fun _ _ e => .inr e))).trans (hf'.mono (fun _ _ e => .inl e))) f8 (by omega)))
  have EW := Lib.hid (cells5f g8).1
  have HW8 := Lib.hid hw8.symm
  clear hw8 f8 g8 T6 gT6 gB6 gR6 gX6 hf hf' hm hput T3 gB3 gR3 gX3 hh hw1 contU f3 hX HX B01 HL
  go_wp2_with fail
  refine wp_region_noPanic ?_
  refine wp_region_held_drew (S := fun V => (V.cell? ⟨TB, 1, none⟩ = some (.map (some mb)) ∧ V.cell? ⟨w.heap.size, 1, none⟩ = some (.int .i64 1) ∧ V.cell? ⟨w.heap.size, 2, none⟩ = some (.int .i64 1) ∧ V.cell? ⟨X, 0, none⟩ = some (.int .i64 0) ∧ V.cell? ⟨X, 1, none⟩ = some (.int .i64 1) ∧ V.cell? ⟨X, 2, none⟩ = some (.int .i64 0) ∧ V.cell? ⟨X, 3, none⟩ = some (.complex .f64 0 0) ∧ V.cell? ⟨X, 4, none⟩ = some (.complex .f64 0 0))) (by kernel_rfl) SU1 (fun hHeld => ?_)
  refine rTk 0 ?_; try simp only [Act.put, rP1, rP2, rP3]
  refine rTk 1 ?_; try simp only [Act.put, rP1, rP2, rP3]
  refine rTk 2 ?_; try simp only [Act.put, rP1, rP2, rP3]
  refine rTk 3 ?_; try simp only [Act.put, rP1, rP2, rP3]
  refine rTk 4 ?_; try simp only [Act.put, rP1, rP2, rP3]
  refine rTk 5 ?_; try simp only [Act.put, rP1, rP2, rP3]
  refine rTk 6 ?_; try simp only [Act.put, rP1, rP2, rP3]
  refine rTk 7 ?_; try simp only [Act.put, rP1, rP2, rP3]
  refine rTk 8 ?_; try simp only [Act.put, rP1, rP2, rP3]
  refine rTk 9 ?_; try simp only [Act.put, rP1, rP2, rP3]
  refine rBr 10 fun K hK => ?_
  go_simp
  skip
  refine hK.out _ _ (by (try dsimp only); assumption) (fun hHeld => ?_)
  clear hK K
  try simp only [Act.put, rP1, rP2, rP3]
  refine wpAnyH_done (by kernel_rfl) ?_ _
  refine NoPanic.normal ?_
  clear SU1 SU2 hHeld
  go_wp2_with (rw [HW8.out]; obtain ⟨e0', e1', e2', e3', e4'⟩ := EW.out; refine bodyPost_ret (v := .agg #[.int .i64 0, .int .i64 1, .int .i64 0, .complex .f64 0 0, .complex .f64 0 0]) (by simp [results, Tryz.results43, go_sem, e0', e1', e2', e3', e4']) rfl ?_; exact ⟨rfl, Fin.out⟩)
set_option maxRecDepth 100000 in
set_option maxHeartbeats 8000000 in
/-- ask, again. -/
theorem ask_again (TB mb T bn bu : Nat) (w : World) (hT : TabD w TB mb T bn bu 1 2 [qz] [s2]) :
    Calls Tryz.prog 43 #[.pointer (some ⟨TB, 0, none⟩), .agg #[.int .i64 3, .int .i64 1, .int .i64 1, .int .i64 4, .string ⟨#[114]⟩, .string ⟨#[]⟩, .complex .f64 0 0, .complex .f64 0 0, .complex .f64 0 0, .string ⟨#[]⟩, .string ⟨#[]⟩, .complex .f64 0 0]] w fun e w' => e = .returned (.agg #[.int .i64 0, .int .i64 1, .int .i64 0, .complex .f64 0 0, .complex .f64 0 0]) ∧ TabD w' TB mb T bn bu 1 2 [qz] [s2] ∧ Fr (fun j => j = mb ∨ j = bn) w w' := by
  have hstc := @run_store_complex Tryz.prog
  obtain ⟨W0, hW0⟩ : ∃ W, W = (w.alloc (.cells #[.int .i64 3, .int .i64 1, .int .i64 1, .int .i64 4, .string ⟨#[114]⟩, .string ⟨#[]⟩, .complex .f64 0 0, .complex .f64 0 0, .complex .f64 0 0, .string ⟨#[]⟩, .string ⟨#[]⟩, .complex .f64 0 0] 56)).alloc (.cells #[.int .i64 0, .int .i64 0, .int .i64 0, .complex .f64 0 0, .complex .f64 0 0] 47) := ⟨_, rfl⟩
  have b0 : Below w.heap.size w W0 := by rw [hW0]; exact ((Below.refl _ _).alloc (Nat.le_refl _) _).alloc (by simp) _
  have gB : W0.heap[w.heap.size]? = some (.cells #[.int .i64 3, .int .i64 1, .int .i64 1, .int .i64 4, .string ⟨#[114]⟩, .string ⟨#[]⟩, .complex .f64 0 0, .complex .f64 0 0, .complex .f64 0 0, .string ⟨#[]⟩, .string ⟨#[]⟩, .complex .f64 0 0] 56) := by
    rw [hW0, Below.heap_alloc _ _ _ (by simp)]
    exact heap_alloc_new _ _
  have gR : W0.heap[w.heap.size + 1]? = some (.cells #[.int .i64 0, .int .i64 0, .int .i64 0, .complex .f64 0 0, .complex .f64 0 0] 47) := by
    rw [hW0]
    exact (by simp : w.heap.size + 1 = (w.alloc _).heap.size) ▸ heap_alloc_new _ _
  have hTB : TB < w.heap.size := (Array.getElem?_eq_some_iff.1 hT.tb).1
  have hmb := hT.mp.lt
  have hTt : T < w.heap.size := (Array.getElem?_eq_some_iff.1 hT.tr.tb).1
  have hbn := hT.tr.mN.lt
  have hbu := hT.tr.mU.lt
  have hne := hT.ne
  have T0 := hT.below b0
  have hB0 := (Array.getElem?_eq_some_iff.1 gB).1
  have hR0 := (Array.getElem?_eq_some_iff.1 gR).1
  have cont1 : ∀ V, Below W0.heap.size W0 V → (V.cell? ⟨TB, 1, none⟩ = some (.map (some mb)) ∧ V.cell? ⟨w.heap.size, 1, none⟩ = some (.int .i64 1) ∧ (Instr.lookup 67 (.map (some mb)) (.int .i64 1) true).run Tryz.prog V = .ok (.tuple #[.agg #[.int .i64 1, .int .i64 0, .int .i64 1, .int .i64 0, .complex .f64 0 0, .complex .f64 0 0], .bool true]) V) := fun V b => by
    have TV := T0.below b
    obtain ⟨_, q1, _⟩ := cells2 TV.tb
    obtain ⟨d0, d1, _⟩ := cells12 ((b.block _ hB0).trans gB)
    have hl : (Instr.lookup 67 (.map (some mb)) (.int .i64 1) true).run Tryz.prog V = .ok (.tuple #[vSn s2, .bool true]) V := TV.mp.lookOk Tryz.underlying67 (zeroSn V) ⟨_, zSn_val⟩ 1 (by omega)
    rw [s2_val] at hl
    exact ⟨q1, d1, hl⟩
  have S1 := cont1 W0.drew (Below.refl _ _).drew
  have SA0 := cont1 (W0.alloc (.cells #[.int .i64 0, .int .i64 0, .int .i64 0, .int .i64 0, .complex .f64 0 0, .complex .f64 0 0] 76)).drew ((Below.refl _ _).alloc (Nat.le_refl _) _).drew
  obtain ⟨W1, hW1⟩ : ∃ W, W = (W0.alloc (.cells #[.int .i64 1, .int .i64 0, .int .i64 1, .int .i64 0, .complex .f64 0 0, .complex .f64 0 0] 76)).drew := ⟨_, rfl⟩
  have b1 : Below W0.heap.size W0 W1 := by rw [hW1]; exact ((Below.refl _ _).alloc (Nat.le_refl _) _).drew
  have SA1 := cont1 W1 b1
  rw [hW1] at SA1
  have gL1 : W1.heap[W0.heap.size]? = some (.cells #[.int .i64 1, .int .i64 0, .int .i64 1, .int .i64 0, .complex .f64 0 0, .complex .f64 0 0] 76) := by rw [hW1]; exact heap_alloc_new W0 _
  have T1 := T0.below b1
  have gB1 := (b1.block _ hB0).trans gB
  have gR1 := (b1.block _ hR0).trans gR
  obtain ⟨_, d1, d2, _⟩ := cells12 gB1
  obtain ⟨l0, l1, l2, l3, l4, l5⟩ := cells6 gL1
  obtain ⟨⟨z0, z1, z2, z3, z4⟩, q0, q1, q2, q3, q4⟩ := cells5f gR1
  obtain ⟨w8, hw8⟩ : ∃ W, W = (((((W1.setCell ⟨w.heap.size + 1, 0, none⟩ (.int .i64 0)).setCell ⟨w.heap.size + 1, 1, none⟩ (.int .i64 1)).setCell ⟨w.heap.size + 1, 2, none⟩ (.int .i64 0)).setCell ⟨w.heap.size + 1, 3, none⟩ (.complex .f64 0 0)).setCell ⟨w.heap.size + 1, 4, none⟩ (.complex .f64 0 0)) := ⟨_, rfl⟩
  have f8 : Fr (fun j => j = w.heap.size + 1) W1 w8 := by rw [hw8]; exact fr5s W1 _ _ _ _ _ _
  have g8 : w8.heap[w.heap.size + 1]? = some (.cells #[.int .i64 0, .int .i64 1, .int .i64 0, .complex .f64 0 0, .complex .f64 0 0] 47) := by rw [hw8]; exact stored5 gR1 _ _ _ _ _
  have Fin := Lib.hid (And.intro (T1.kept f8 (by omega) (by omega) (by omega) (by omega) (by omega)) (Fr.own (X := fun j => j = mb ∨ j = bn) ((Fr.of_below b0).trans (Fr.of_below b1)) f8 (by omega)))
  have EW := Lib.hid (cells5f g8).1
  have HW0 := Lib.hid hW0.symm
  have HW1 := Lib.hid hW1.symm
  have HW8 := Lib.hid hw8.symm
  clear hW0 hW1 hw8 f8 g8 b0 b1 gB gR gB1 gR1 gL1 T0 T1 hT hTB hmb hTt hbn hbu hne hB0 hR0 cont1
  go_enter Tryz.func43, Tryz.ntmps43
  go_wp2_with (rw [HW0.out])
  clear HW0
  refine wp_region_noPanic ?_
  refine wp_region_held_drew (S := fun V => (V.cell? ⟨TB, 1, none⟩ = some (.map (some mb)) ∧ V.cell? ⟨w.heap.size, 1, none⟩ = some (.int .i64 1) ∧ (Instr.lookup 67 (.map (some mb)) (.int .i64 1) true).run Tryz.prog V = .ok (.tuple #[.agg #[.int .i64 1, .int .i64 0, .int .i64 1, .int .i64 0, .complex .f64 0 0, .complex .f64 0 0], .bool true]) V)) (by kernel_rfl) S1 (fun hHeld => ?_)
  refine rTk 0 ?_; try simp only [Act.put, rP1, rP2, rP3]
  refine rTk 1 ?_; try simp only [Act.put, rP1, rP2, rP3]
  refine rTk 2 ?_; try simp only [Act.put, rP1, rP2, rP3]
  refine rTk 3 ?_; try simp only [Act.put, rP1, rP2, rP3]
  refine rTk 4 ?_; try simp only [Act.put, rP1, rP2, rP3]
  refine rTk 5 ?_; try simp only [Act.put, rP1, rP2, rP3]
  refine rTk 6 ?_; try simp only [Act.put, rP1, rP2, rP3]
  refine rTk 7 ?_; try simp only [Act.put, rP1, rP2, rP3]
  refine rTk 8 ?_; try simp only [Act.put, rP1, rP2, rP3]
  refine rTk 9 ?_; try simp only [Act.put, rP1, rP2, rP3]
  refine rBr 10 fun K hK => ?_
  go_simp
  refine hK.out _ _ (by (try dsimp only); assumption) (fun hHeld => ?_)
  clear hK K
  try simp only [Act.put, rP1, rP2, rP3]
  refine rBr 11 fun K hK => ?_
  go_simp
  try (go_wp2_with fail)
  refine hK.out _ _ (by (try dsimp only); assumption) (fun hHeld => ?_)
  clear hK K
  try simp only [Act.put, rP1, rP2, rP3]
  refine rTk 12 ?_; try simp only [Act.put, rP1, rP2, rP3]
  refine wpAnyH_done (by kernel_rfl) ?_ _
  refine NoPanic.normal ?_
  rw [HW1.out]
  clear HW1 S1 SA0 SA1 hHeld
  go_wp2_with (rw [HW8.out]; obtain ⟨e0', e1', e2', e3', e4'⟩ := EW.out; refine bodyPost_ret (v := .agg #[.int .i64 0, .int .i64 1, .int .i64 0, .complex .f64 0 0, .complex .f64 0 0]) (by simp [results, Tryz.results43, go_sem, e0', e1', e2', e3', e4']) rfl ?_; exact ⟨rfl, Fin.out⟩)
set_option maxRecDepth 100000 in
set_option maxHeartbeats 8000000 in
/-- Apply: ask, once. -/
theorem apply_once (TB mb T bn bu : Nat) (w : World) (hT : TabD w TB mb T bn bu 0 1 [] [s1]) :
    Calls Tryz.prog 11 #[.pointer (some ⟨TB, 0, none⟩), .int .i64 2, .agg #[.int .i64 3, .int .i64 1, .int .i64 1, .int .i64 4, .string ⟨#[114]⟩, .string ⟨#[]⟩, .complex .f64 0 0, .complex .f64 0 0, .complex .f64 0 0, .string ⟨#[]⟩, .string ⟨#[]⟩, .complex .f64 0 0]] w fun e w' => e = .returned (.agg #[.int .i64 0, .int .i64 1, .int .i64 0, .complex .f64 0 0, .complex .f64 0 0]) ∧ TabD w' TB mb T bn bu 1 2 [qz] [s2] ∧ Fr (fun j => j = mb ∨ j = bn) w w' := by
  have hstc := @run_store_complex Tryz.prog
  obtain ⟨W0, hW0⟩ : ∃ W, W = (w.alloc (.cells #[.int .i64 3, .int .i64 1, .int .i64 1, .int .i64 4, .string ⟨#[114]⟩, .string ⟨#[]⟩, .complex .f64 0 0, .complex .f64 0 0, .complex .f64 0 0, .string ⟨#[]⟩, .string ⟨#[]⟩, .complex .f64 0 0] 56)).alloc (.cells #[.int .i64 0, .int .i64 0, .int .i64 0, .complex .f64 0 0, .complex .f64 0 0] 47) := ⟨_, rfl⟩
  have b0 : Below w.heap.size w W0 := by rw [hW0]; exact ((Below.refl _ _).alloc (Nat.le_refl _) _).alloc (by simp) _
  have gB : W0.heap[w.heap.size]? = some (.cells #[.int .i64 3, .int .i64 1, .int .i64 1, .int .i64 4, .string ⟨#[114]⟩, .string ⟨#[]⟩, .complex .f64 0 0, .complex .f64 0 0, .complex .f64 0 0, .string ⟨#[]⟩, .string ⟨#[]⟩, .complex .f64 0 0] 56) := by
    rw [hW0, Below.heap_alloc _ _ _ (by simp)]
    exact heap_alloc_new _ _
  have gR : W0.heap[w.heap.size + 1]? = some (.cells #[.int .i64 0, .int .i64 0, .int .i64 0, .complex .f64 0 0, .complex .f64 0 0] 47) := by
    rw [hW0]
    exact (by simp : w.heap.size + 1 = (w.alloc _).heap.size) ▸ heap_alloc_new _ _
  have hTB : TB < w.heap.size := (Array.getElem?_eq_some_iff.1 hT.tb).1
  have hmb := hT.mp.lt
  have hTt : T < w.heap.size := (Array.getElem?_eq_some_iff.1 hT.tr.tb).1
  have hbn := hT.tr.mN.lt
  have hbu := hT.tr.mU.lt
  have T0 := hT.below b0
  have C1 := Lib.hid (ask_once TB mb T bn bu W0 T0)
  have c12 := cells12 gB
  have Gr := Lib.hid gR
  have B0 := Lib.hid b0
  have HW0 := Lib.hid hW0.symm
  have HL := Lib.hid (And.intro hTB (And.intro hmb (And.intro hTt (And.intro hbn hbu))))
  obtain ⟨d0, d1, d2, d3, d4, d5, d6, d7, d8, d9, d10, d11⟩ := c12
  clear hW0 b0 gB gR T0 hT hTB hmb hTt hbn hbu
  go_enter Tryz.func11, Tryz.ntmps11
  go_wp2_with (rw [HW0.out])
  clear HW0 d0 d1 d2 d3 d4 d5 d6 d7 d8 d9 d10 d11
  refine C1.out.mono ?_
  rintro e w1 ⟨rfl, t1, f1⟩
  have f0 : Fr (fun j => j = mb ∨ j = bn) w W0 := Fr.of_below B0.out
  have f1' := f1
  have hgR : w1.heap[w.heap.size + 1]? = some (.cells #[.int .i64 0, .int .i64 0, .int .i64 0, .complex .f64 0 0, .complex .f64 0 0] 47) := f1'.heap Gr.out (by have := HL.out; omega)
  obtain ⟨⟨z0, z1, z2, z3, z4⟩, q0, q1, q2, q3, q4⟩ := cells5f hgR
  obtain ⟨w6, hw6⟩ : ∃ W, W = (((((w1.setCell ⟨w.heap.size + 1, 0, none⟩ (.int .i64 0)).setCell ⟨w.heap.size + 1, 1, none⟩ (.int .i64 1)).setCell ⟨w.heap.size + 1, 2, none⟩ (.int .i64 0)).setCell ⟨w.heap.size + 1, 3, none⟩ (.complex .f64 0 0)).setCell ⟨w.heap.size + 1, 4, none⟩ (.complex .f64 0 0)) := ⟨_, rfl⟩
  have f6 : Fr (fun j => j = w.heap.size + 1) w1 w6 := by rw [hw6]; exact fr5s w1 _ _ _ _ _ _
  have g6 : w6.heap[w.heap.size + 1]? = some (.cells #[.int .i64 0, .int .i64 1, .int .i64 0, .complex .f64 0 0, .complex .f64 0 0] 47) := by rw [hw6]; exact stored5 hgR _ _ _ _ _
  have EW := Lib.hid (cells5f g6).1
  have hh := HL.out
  have Fin := Lib.hid (⟨t1.kept f6 (by omega) (by omega) (by omega) (by omega) (by omega), Fr.own (f0.trans f1') f6 (by omega)⟩ : TabD w6 TB mb T bn bu 1 2 [qz] [s2] ∧ Fr (fun j => j = mb ∨ j = bn) w w6)
  have HW6 := Lib.hid hw6.symm
  clear hw6 f6 g6 hh hgR f1' f0 t1 C1 Gr B0 HL
  go_wp2_with (rw [HW6.out]; obtain ⟨e0', e1', e2', e3', e4'⟩ := EW.out; refine bodyPost_ret (v := .agg #[.int .i64 0, .int .i64 1, .int .i64 0, .complex .f64 0 0, .complex .f64 0 0]) (by simp [results, Tryz.results11, go_sem, e0', e1', e2', e3', e4']) rfl ?_; exact ⟨rfl, Fin.out⟩)
set_option maxRecDepth 100000 in
set_option maxHeartbeats 8000000 in
/-- Apply: ask, again. -/
theorem apply_again (TB mb T bn bu : Nat) (w : World) (hT : TabD w TB mb T bn bu 1 2 [qz] [s2]) :
    Calls Tryz.prog 11 #[.pointer (some ⟨TB, 0, none⟩), .int .i64 3, .agg #[.int .i64 3, .int .i64 1, .int .i64 1, .int .i64 4, .string ⟨#[114]⟩, .string ⟨#[]⟩, .complex .f64 0 0, .complex .f64 0 0, .complex .f64 0 0, .string ⟨#[]⟩, .string ⟨#[]⟩, .complex .f64 0 0]] w fun e w' => e = .returned (.agg #[.int .i64 0, .int .i64 1, .int .i64 0, .complex .f64 0 0, .complex .f64 0 0]) ∧ TabD w' TB mb T bn bu 1 2 [qz] [s2] ∧ Fr (fun j => j = mb ∨ j = bn) w w' := by
  have hstc := @run_store_complex Tryz.prog
  obtain ⟨W0, hW0⟩ : ∃ W, W = (w.alloc (.cells #[.int .i64 3, .int .i64 1, .int .i64 1, .int .i64 4, .string ⟨#[114]⟩, .string ⟨#[]⟩, .complex .f64 0 0, .complex .f64 0 0, .complex .f64 0 0, .string ⟨#[]⟩, .string ⟨#[]⟩, .complex .f64 0 0] 56)).alloc (.cells #[.int .i64 0, .int .i64 0, .int .i64 0, .complex .f64 0 0, .complex .f64 0 0] 47) := ⟨_, rfl⟩
  have b0 : Below w.heap.size w W0 := by rw [hW0]; exact ((Below.refl _ _).alloc (Nat.le_refl _) _).alloc (by simp) _
  have gB : W0.heap[w.heap.size]? = some (.cells #[.int .i64 3, .int .i64 1, .int .i64 1, .int .i64 4, .string ⟨#[114]⟩, .string ⟨#[]⟩, .complex .f64 0 0, .complex .f64 0 0, .complex .f64 0 0, .string ⟨#[]⟩, .string ⟨#[]⟩, .complex .f64 0 0] 56) := by
    rw [hW0, Below.heap_alloc _ _ _ (by simp)]
    exact heap_alloc_new _ _
  have gR : W0.heap[w.heap.size + 1]? = some (.cells #[.int .i64 0, .int .i64 0, .int .i64 0, .complex .f64 0 0, .complex .f64 0 0] 47) := by
    rw [hW0]
    exact (by simp : w.heap.size + 1 = (w.alloc _).heap.size) ▸ heap_alloc_new _ _
  have hTB : TB < w.heap.size := (Array.getElem?_eq_some_iff.1 hT.tb).1
  have hmb := hT.mp.lt
  have hTt : T < w.heap.size := (Array.getElem?_eq_some_iff.1 hT.tr.tb).1
  have hbn := hT.tr.mN.lt
  have hbu := hT.tr.mU.lt
  have T0 := hT.below b0
  have C1 := Lib.hid (ask_again TB mb T bn bu W0 T0)
  have c12 := cells12 gB
  have Gr := Lib.hid gR
  have B0 := Lib.hid b0
  have HW0 := Lib.hid hW0.symm
  have HL := Lib.hid (And.intro hTB (And.intro hmb (And.intro hTt (And.intro hbn hbu))))
  obtain ⟨d0, d1, d2, d3, d4, d5, d6, d7, d8, d9, d10, d11⟩ := c12
  clear hW0 b0 gB gR T0 hT hTB hmb hTt hbn hbu
  go_enter Tryz.func11, Tryz.ntmps11
  go_wp2_with (rw [HW0.out])
  clear HW0 d0 d1 d2 d3 d4 d5 d6 d7 d8 d9 d10 d11
  refine C1.out.mono ?_
  rintro e w1 ⟨rfl, t1, f1⟩
  have f0 : Fr (fun j => j = mb ∨ j = bn) w W0 := Fr.of_below B0.out
  have f1' := f1
  have hgR : w1.heap[w.heap.size + 1]? = some (.cells #[.int .i64 0, .int .i64 0, .int .i64 0, .complex .f64 0 0, .complex .f64 0 0] 47) := f1'.heap Gr.out (by have := HL.out; omega)
  obtain ⟨⟨z0, z1, z2, z3, z4⟩, q0, q1, q2, q3, q4⟩ := cells5f hgR
  obtain ⟨w6, hw6⟩ : ∃ W, W = (((((w1.setCell ⟨w.heap.size + 1, 0, none⟩ (.int .i64 0)).setCell ⟨w.heap.size + 1, 1, none⟩ (.int .i64 1)).setCell ⟨w.heap.size + 1, 2, none⟩ (.int .i64 0)).setCell ⟨w.heap.size + 1, 3, none⟩ (.complex .f64 0 0)).setCell ⟨w.heap.size + 1, 4, none⟩ (.complex .f64 0 0)) := ⟨_, rfl⟩
  have f6 : Fr (fun j => j = w.heap.size + 1) w1 w6 := by rw [hw6]; exact fr5s w1 _ _ _ _ _ _
  have g6 : w6.heap[w.heap.size + 1]? = some (.cells #[.int .i64 0, .int .i64 1, .int .i64 0, .complex .f64 0 0, .complex .f64 0 0] 47) := by rw [hw6]; exact stored5 hgR _ _ _ _ _
  have EW := Lib.hid (cells5f g6).1
  have hh := HL.out
  have Fin := Lib.hid (⟨t1.kept f6 (by omega) (by omega) (by omega) (by omega) (by omega), Fr.own (f0.trans f1') f6 (by omega)⟩ : TabD w6 TB mb T bn bu 1 2 [qz] [s2] ∧ Fr (fun j => j = mb ∨ j = bn) w w6)
  have HW6 := Lib.hid hw6.symm
  clear hw6 f6 g6 hh hgR f1' f0 t1 C1 Gr B0 HL
  go_wp2_with (rw [HW6.out]; obtain ⟨e0', e1', e2', e3', e4'⟩ := EW.out; refine bodyPost_ret (v := .agg #[.int .i64 0, .int .i64 1, .int .i64 0, .complex .f64 0 0, .complex .f64 0 0]) (by simp [results, Tryz.results11, go_sem, e0', e1', e2', e3', e4']) rfl ?_; exact ⟨rfl, Fin.out⟩)
end Go.Proofs.YtkanjdijmdjbaaaGreatDoor
