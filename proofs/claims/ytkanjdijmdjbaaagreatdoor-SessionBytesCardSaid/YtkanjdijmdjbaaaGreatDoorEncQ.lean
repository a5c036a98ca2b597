/-
  The document's Encode of a tree, by a contract.
  Conditions: the slices read as nodes, at most 256, and uses, at most 1024; names of at most 2^30 bytes, amounts at most 2^40; what is laid comes to at most 2^47 - 2000 bytes.
-/
import Derived.Test.YtkanjdijmdjbaaaGreatDoorG3
import Derived.Test.YtkanjdijmdjbaaaGreatDoorHoldsR
namespace Go.Proofs.YtkanjdijmdjbaaaGreatDoor
open Go Go.RowKit

def HoldQ (H : Nat) (w : World) (a : Option Addr) (n c : Nat) (l : List UInt8) : Prop := l.length = n ∧ OwnB w (.slice a n c) l ∧ ∀ b, Value.ownBlock (.slice a n c) = some b → H ≤ b
theorem HoldQ.below {H : Nat} {w w' : World} {a : Option Addr} {n c : Nat} {l : List UInt8} (h : HoldQ H w a n c l) (f : Below w.heap.size w w') : HoldQ H w' a n c l := ⟨h.1, h.2.1.kept (X := fun _ => False) (Fr.of_below f) (fun _ _ x => x), h.2.2⟩
theorem HoldQ.of {H : Nat} {V V' : World} {e : Ending} {l : List UInt8} (h : RW V V' e l) (hH : H ≤ V.heap.size) : (∃ a n c, e = .returned (.slice a n c) ∧ Hid (HoldQ H V' a n c l)) ∧ Below V.heap.size V V' := by
  obtain ⟨⟨a, n, c, e1, e2, e3, e4⟩, b⟩ := h
  exact ⟨⟨a, n, c, e1, e2, e3, fun q hq => Nat.le_trans hH (e4 q hq)⟩, b⟩
theorem QT.encL_append {α : Type} (f : α → List UInt8) (a b : List α) : QT.encL f (a ++ b) = QT.encL f a ++ QT.encL f b := by
  induction a with
  | nil => rfl
  | cons x r ih => rw [List.cons_append, QT.encL, QT.encL, ih, List.append_assoc]
theorem QT.encL_take {α : Type} (f : α → List UInt8) {L : List α} {k : Nat} {x : α} (h : L[k]? = some x) : QT.encL f (L.take (k + 1)) = QT.encL f (L.take k) ++ f x := by
  rw [List.take_add_one, h, QT.encL_append]
  simp [QT.encL]
theorem QT.encL_take_le {α : Type} (f : α → List UInt8) (L : List α) (k : Nat) : (QT.encL f (L.take k)).length ≤ (QT.encL f L).length := by
  have h := QT.encL_append f (L.take k) (L.drop k)
  rw [List.take_append_drop] at h
  rw [h, List.length_append]
  omega
theorem QT.xB_len (d : QT.Str) (h : d.length ≤ 32) : (QT.xB d).length ≤ 54 := by
  have := decDigits_le d.length (by omega)
  simp [QT.xB]
  omega
set_option maxRecDepth 100000 in
set_option maxHeartbeats 16000000 in
/-- Encode. -/
theorem rencT_any (a0 : Option Addr) (n0 c0 : Nat) (a : Option Addr) (n c : Nat) (N : List QT.Nd) (L : List QT.Us) (w : World) (hM : RdsNd w (.slice a0 n0 c0) N) (hN : RdsUs w (.slice a n c) L) (hs0 : n0 ≤ 256) (hs : n ≤ 1024)
    (hf0 : ∀ x ∈ N, QT.fineNd x) (hf : ∀ x ∈ L, QT.fineUs x) (hroom : (QT.encT N L).length + 2000 ≤ roomB) :
    Calls Tryz.prog 38 #[.agg #[.slice a0 n0 c0, .slice a n c]] w fun e w' => RW w w' e (QT.encT N L) := by
  have l0 := Lib.hid hM.len.1
  have l1 := Lib.hid hN.len.1
  have hn0 : (n0 : Int) ≤ 281474976710656 := by omega
  have hn : (n : Int) ≤ 281474976710656 := by omega
  have HNb := Lib.hid (fun (V : World) (b : Below w.heap.size w V) => hM.below b)
  have HUb := Lib.hid (fun (V : World) (b : Below w.heap.size w V) => hN.below b)
  have HF0 := Lib.hid hf0
  have HF := Lib.hid hf
  obtain ⟨LA, hLA⟩ : ∃ l, l = PK.uB n0 := ⟨_, rfl⟩
  obtain ⟨LB, hLB⟩ : ∃ l, l = LA ++ QT.encL QT.encNd N := ⟨_, rfl⟩
  obtain ⟨LC, hLC⟩ : ∃ l, l = LB ++ PK.uB n := ⟨_, rfl⟩
  have hE : QT.encT N L = LC ++ QT.encL QT.encUs L := by rw [hLC, hLB, hLA, ← l0.out, ← l1.out]; rfl
  rw [hE]
  rw [hE, List.length_append, hLC, List.length_append, hLB, List.length_append] at hroom
  have HR := Lib.hid hroom
  have u0 := PK.uB_len n0 (by omega)
  have u1 := PK.uB_len n (by omega)
  rw [← hLA] at u0
  have HLB := Lib.hid hLB
  have HLC := Lib.hid hLC
  have wr0 : IntKind.u64.wrap (n0 : Int) = (n0 : Int) := by rw [IntKind.wrap_u64]; omega
  have wr1 : IntKind.u64.wrap (n : Int) = (n : Int) := by rw [IntKind.wrap_u64]; omega
  have HU0 := Lib.hid (fun V : World => ruint_w none 0 0 [] n0 V rfl (OwnB.nil V).isB (by omega) (by simp only [roomB]; omega))
  have HU1 := Lib.hid (fun (V : World) (a : Option Addr) (m c : Nat) (h : Hid (HoldQ w.heap.size V a m c LB)) => ruint_w a m c LB n V h.out.1 h.out.2.1.isB (by omega) (by have := h.out.1; rw [hLB, List.length_append] at this; omega))
  have hstc := @run_store_complex Tryz.prog
  obtain ⟨W, hW⟩ : ∃ W, W = w.alloc (.cells #[.slice a0 n0 c0, .slice a n c] 32) := ⟨_, rfl⟩
  have bW : Hid (Below w.heap.size w W) := by rw [hW]; exact (Below.refl _ _).alloc (Nat.le_refl _) _
  have gW : Hid (W.heap[w.heap.size]? = some (.cells #[.slice a0 n0 c0, .slice a n c] 32)) := by rw [hW]; exact heap_alloc_new _ _
  clear hM hN hs0 hs hf0 hf hE hLB hLC hroom
  go_enter Tryz.func38, Tryz.ntmps38
  go_wp2_with fail
  rw [← hW]
  obtain ⟨t0, t1, _, _⟩ := cells2 gW.out
  clear hW
  refine (HU0.out W).mono ?_
  rintro e w1 hr
  obtain ⟨⟨a1, n1, c1, rfl, r1⟩, b1⟩ := HoldQ.of hr bW.out.size
  rw [List.nil_append] at r1
  have R1 : Hid (HoldQ w.heap.size w1 a1 n1 c1 LA) := Lib.hid (by rw [hLA]; exact r1.out)
  have BV := Lib.hid (bW.out.trans (b1.mono bW.out.size))
  have GV := Lib.hid ((b1.block _ (Array.getElem?_eq_some_iff.1 gW.out).1).trans gW.out)
  clear hr r1 b1 HU0 bW gW t0 t1 hLA
  go_wp2_with fail
  go_loopw [3, 4] (fun v3 v4 V => ∃ (k : Nat) (a' : Option Addr) (n' c' : Nat), k ≤ n0 ∧ v4 = .int .i64 k ∧ v3 = .slice a' n' c' ∧ Hid (HoldQ w.heap.size V a' n' c' (LA ++ QT.encL QT.encNd (N.take k))) ∧ Hid (Below w.heap.size w V) ∧ Hid (V.heap[w.heap.size]? = some (.cells #[.slice a0 n0 c0, .slice a n c] 32))) (fun _ v _ => n0 - (intOf v).toNat)
  case atStart => exact ⟨0, a1, n1, c1, Nat.zero_le _, rfl, rfl, Lib.hid (by simpa [QT.encL] using R1.out), BV, GV⟩
  case round =>
    obtain ⟨k, a', n', c', hk, rfl, rfl, X1, Bv, Gv⟩ := hrel
    clear R1 BV GV
    obtain ⟨t0, t1, _, _⟩ := cells2 Gv.out
    by_cases hlt : k < n0
    · have h1 : (k : Int) < (n0 : Int) := by omega
      obtain ⟨x, hx⟩ : ∃ x, N[k]? = some x := ⟨_, List.getElem?_eq_getElem (by have := l0.out; omega)⟩
      obtain ⟨b, o, ea, q0, q1, q2, q3, q4⟩ := (HNb.out wr Bv.out).at k x hx
      subst ea
      have hfx := HF0.out x (List.mem_of_getElem? hx)
      obtain ⟨⟨f1, f2⟩, f3, f4, f5, f6, f7, f8⟩ := hfx
      simp only [QT.cap] at f3 f4 f5 f6 f7 f8
      have hnx := QT.encL_take QT.encNd hx
      have hle := QT.encL_take_le QT.encNd N k
      have hr := HR.out
      obtain ⟨Lk, hLk⟩ : ∃ l, l = LA ++ QT.encL QT.encNd (N.take k) := ⟨_, rfl⟩
      rw [← hLk] at X1
      have hkb : Lk.length + 2000 ≤ roomB := by rw [hLk, List.length_append]; omega
      obtain ⟨L1, hL1⟩ : ∃ l, l = Lk ++ QT.xB x.nm := ⟨_, rfl⟩
      obtain ⟨L2, hL2⟩ : ∃ l, l = L1 ++ QT.xB x.pr := ⟨_, rfl⟩
      obtain ⟨L3, hL3⟩ : ∃ l, l = L2 ++ PK.uB x.o1 ++ PK.uB x.o2 := ⟨_, rfl⟩
      obtain ⟨L4, hL4⟩ : ∃ l, l = L3 ++ PK.uB x.b1 ++ PK.uB x.b2 := ⟨_, rfl⟩
      obtain ⟨L5, hL5⟩ : ∃ l, l = L4 ++ PK.uB x.l1 ++ PK.uB x.l2 := ⟨_, rfl⟩
      have e1 : L1.length ≤ Lk.length + 54 := by rw [hL1, List.length_append]; have := QT.xB_len x.nm f1; omega
      have e2 : L2.length ≤ Lk.length + 108 := by rw [hL2, List.length_append]; have := QT.xB_len x.pr f2; omega
      have e3 : L3.length ≤ Lk.length + 152 := by rw [hL3, List.length_append, List.length_append]; have := PK.uB_len x.o1 (by omega); have := PK.uB_len x.o2 (by omega); omega
      have e4 : L4.length ≤ Lk.length + 196 := by rw [hL4, List.length_append, List.length_append]; have := PK.uB_len x.b1 (by omega); have := PK.uB_len x.b2 (by omega); omega
      have hnext : LA ++ QT.encL QT.encNd (N.take (k + 1)) = L5 := by
        rw [hnx, hL5, hL4, hL3, hL2, hL1, hLk, QT.encNd]
        simp only [List.append_assoc]
      have Hnext := Lib.hid hnext
      have hBlt := (Array.getElem?_eq_some_iff.1 Gv.out).1
      obtain ⟨V1, hV1⟩ : ∃ V, V = wr.alloc (.cells #[.string (str x.nm), .string (str x.pr), .complex .f64 (FL.fB x.o1) (FL.fB x.o2), .complex .f64 (FL.fB x.b1) (FL.fB x.b2), .complex .f64 (FL.fB x.l1) (FL.fB x.l2)] 176) := ⟨_, rfl⟩
      have gT1 : V1.heap[w.heap.size]? = some (.cells #[.slice (some ⟨b, o, none⟩) n0 c0, .slice a n c] 32) := by rw [hV1]; exact (Below.heap_alloc _ _ _ hBlt).trans Gv.out
      have gN1 : V1.heap[wr.heap.size]? = some (.cells #[.string (str x.nm), .string (str x.pr), .complex .f64 (FL.fB x.o1) (FL.fB x.o2), .complex .f64 (FL.fB x.b1) (FL.fB x.b2), .complex .f64 (FL.fB x.l1) (FL.fB x.l2)] 176) := by rw [hV1]; exact heap_alloc_new _ _
      have bV1 : Below w.heap.size w V1 := by rw [hV1]; exact Bv.out.alloc Bv.out.size _
      have X2 : Hid (HoldQ w.heap.size V1 a' n' c' Lk) := Lib.hid (by rw [hV1]; exact X1.out.below ((Below.refl _ _).alloc (Nat.le_refl _) _))
      obtain ⟨z0, z1, z2, z3, z4⟩ := cells5 gN1
      have hMlt := (Array.getElem?_eq_some_iff.1 gN1).1
      have hBlt1 := (Array.getElem?_eq_some_iff.1 gT1).1
      have cont : Hid (∀ V, Below V1.heap.size V1 V → (Hid (Below V1.heap.size V1 V) ∧ V.cell? ⟨wr.heap.size, 0, none⟩ = some (.string (str x.nm)) ∧ V.cell? ⟨wr.heap.size, 1, none⟩ = some (.string (str x.pr)) ∧ V.cell? ⟨wr.heap.size, 2, none⟩ = some (.complex .f64 (FL.fB x.o1) (FL.fB x.o2)) ∧ V.cell? ⟨wr.heap.size, 3, none⟩ = some (.complex .f64 (FL.fB x.b1) (FL.fB x.b2)) ∧ V.cell? ⟨wr.heap.size, 4, none⟩ = some (.complex .f64 (FL.fB x.l1) (FL.fB x.l2)))) := fun V h => ⟨Lib.hid h, (World.cell?_of_block (a := ⟨wr.heap.size, 0, none⟩) (h.block _ hMlt)).trans z0, (World.cell?_of_block (a := ⟨wr.heap.size, 1, none⟩) (h.block _ hMlt)).trans z1, (World.cell?_of_block (a := ⟨wr.heap.size, 2, none⟩) (h.block _ hMlt)).trans z2, (World.cell?_of_block (a := ⟨wr.heap.size, 3, none⟩) (h.block _ hMlt)).trans z3, (World.cell?_of_block (a := ⟨wr.heap.size, 4, none⟩) (h.block _ hMlt)).trans z4⟩
      have fin : Hid (∀ V, (Hid (Below V1.heap.size V1 V) ∧ V.cell? ⟨wr.heap.size, 0, none⟩ = some (.string (str x.nm)) ∧ V.cell? ⟨wr.heap.size, 1, none⟩ = some (.string (str x.pr)) ∧ V.cell? ⟨wr.heap.size, 2, none⟩ = some (.complex .f64 (FL.fB x.o1) (FL.fB x.o2)) ∧ V.cell? ⟨wr.heap.size, 3, none⟩ = some (.complex .f64 (FL.fB x.b1) (FL.fB x.b2)) ∧ V.cell? ⟨wr.heap.size, 4, none⟩ = some (.complex .f64 (FL.fB x.l1) (FL.fB x.l2))) → Below w.heap.size w V ∧ V.heap[w.heap.size]? = some (.cells #[.slice (some ⟨b, o, none⟩) n0 c0, .slice a n c] 32)) := fun V h => ⟨bV1.trans (h.1.out.mono bV1.size), (h.1.out.block _ hBlt1).trans gT1⟩
      have S0 := cont.out V1.drew (Below.refl _ _).drew
      have X3 : Hid (HoldQ w.heap.size V1.drew a' n' c' Lk) := Lib.hid (X2.out.below (Below.refl _ _).drew)
      have step : Hid (∀ (V V' : World) (e : Ending) (l : List UInt8), (Hid (Below V1.heap.size V1 V) ∧ V.cell? ⟨wr.heap.size, 0, none⟩ = some (.string (str x.nm)) ∧ V.cell? ⟨wr.heap.size, 1, none⟩ = some (.string (str x.pr)) ∧ V.cell? ⟨wr.heap.size, 2, none⟩ = some (.complex .f64 (FL.fB x.o1) (FL.fB x.o2)) ∧ V.cell? ⟨wr.heap.size, 3, none⟩ = some (.complex .f64 (FL.fB x.b1) (FL.fB x.b2)) ∧ V.cell? ⟨wr.heap.size, 4, none⟩ = some (.complex .f64 (FL.fB x.l1) (FL.fB x.l2))) → RW V V' e l → (∃ a n c, e = .returned (.slice a n c) ∧ Hid (HoldQ w.heap.size V' a n c l)) ∧ (Hid (Below V1.heap.size V1 V') ∧ V'.cell? ⟨wr.heap.size, 0, none⟩ = some (.string (str x.nm)) ∧ V'.cell? ⟨wr.heap.size, 1, none⟩ = some (.string (str x.pr)) ∧ V'.cell? ⟨wr.heap.size, 2, none⟩ = some (.complex .f64 (FL.fB x.o1) (FL.fB x.o2)) ∧ V'.cell? ⟨wr.heap.size, 3, none⟩ = some (.complex .f64 (FL.fB x.b1) (FL.fB x.b2)) ∧ V'.cell? ⟨wr.heap.size, 4, none⟩ = some (.complex .f64 (FL.fB x.l1) (FL.fB x.l2)))) := fun V V' e l h r => by
        obtain ⟨q, b⟩ := HoldQ.of r (fin.out V h).1.size
        exact ⟨q, cont.out V' (h.1.out.trans (b.mono h.1.out.size))⟩
      have C1 : Hid (∀ V a n c, (Hid (Below V1.heap.size V1 V) ∧ V.cell? ⟨wr.heap.size, 0, none⟩ = some (.string (str x.nm)) ∧ V.cell? ⟨wr.heap.size, 1, none⟩ = some (.string (str x.pr)) ∧ V.cell? ⟨wr.heap.size, 2, none⟩ = some (.complex .f64 (FL.fB x.o1) (FL.fB x.o2)) ∧ V.cell? ⟨wr.heap.size, 3, none⟩ = some (.complex .f64 (FL.fB x.b1) (FL.fB x.b2)) ∧ V.cell? ⟨wr.heap.size, 4, none⟩ = some (.complex .f64 (FL.fB x.l1) (FL.fB x.l2))) → Hid (HoldQ w.heap.size V a n c Lk) → Calls Tryz.prog 86 #[.slice a n c, .string (str x.nm)] V fun e w' => (∃ a n c, e = .returned (.slice a n c) ∧ Hid (HoldQ w.heap.size w' a n c L1)) ∧ (Hid (Below V1.heap.size V1 w') ∧ w'.cell? ⟨wr.heap.size, 0, none⟩ = some (.string (str x.nm)) ∧ w'.cell? ⟨wr.heap.size, 1, none⟩ = some (.string (str x.pr)) ∧ w'.cell? ⟨wr.heap.size, 2, none⟩ = some (.complex .f64 (FL.fB x.o1) (FL.fB x.o2)) ∧ w'.cell? ⟨wr.heap.size, 3, none⟩ = some (.complex .f64 (FL.fB x.b1) (FL.fB x.b2)) ∧ w'.cell? ⟨wr.heap.size, 4, none⟩ = some (.complex .f64 (FL.fB x.l1) (FL.fB x.l2)))) := fun V a n c h hh => (rtext_w a n c Lk x.nm V hh.out.1 hh.out.2.1.isB (by omega) (by have := hh.out.1; omega)).mono fun e w' r => by rw [hL1]; exact step.out V w' e _ h r
      have C2 : Hid (∀ V a n c, (Hid (Below V1.heap.size V1 V) ∧ V.cell? ⟨wr.heap.size, 0, none⟩ = some (.string (str x.nm)) ∧ V.cell? ⟨wr.heap.size, 1, none⟩ = some (.string (str x.pr)) ∧ V.cell? ⟨wr.heap.size, 2, none⟩ = some (.complex .f64 (FL.fB x.o1) (FL.fB x.o2)) ∧ V.cell? ⟨wr.heap.size, 3, none⟩ = some (.complex .f64 (FL.fB x.b1) (FL.fB x.b2)) ∧ V.cell? ⟨wr.heap.size, 4, none⟩ = some (.complex .f64 (FL.fB x.l1) (FL.fB x.l2))) → Hid (HoldQ w.heap.size V a n c L1) → Calls Tryz.prog 86 #[.slice a n c, .string (str x.pr)] V fun e w' => (∃ a n c, e = .returned (.slice a n c) ∧ Hid (HoldQ w.heap.size w' a n c L2)) ∧ (Hid (Below V1.heap.size V1 w') ∧ w'.cell? ⟨wr.heap.size, 0, none⟩ = some (.string (str x.nm)) ∧ w'.cell? ⟨wr.heap.size, 1, none⟩ = some (.string (str x.pr)) ∧ w'.cell? ⟨wr.heap.size, 2, none⟩ = some (.complex .f64 (FL.fB x.o1) (FL.fB x.o2)) ∧ w'.cell? ⟨wr.heap.size, 3, none⟩ = some (.complex .f64 (FL.fB x.b1) (FL.fB x.b2)) ∧ w'.cell? ⟨wr.heap.size, 4, none⟩ = some (.complex .f64 (FL.fB x.l1) (FL.fB x.l2)))) := fun V a n c h hh => (rtext_w a n c L1 x.pr V hh.out.1 hh.out.2.1.isB (by omega) (by have := hh.out.1; omega)).mono fun e w' r => by rw [hL2]; exact step.out V w' e _ h r
      have C3 : Hid (∀ V a n c, (Hid (Below V1.heap.size V1 V) ∧ V.cell? ⟨wr.heap.size, 0, none⟩ = some (.string (str x.nm)) ∧ V.cell? ⟨wr.heap.size, 1, none⟩ = some (.string (str x.pr)) ∧ V.cell? ⟨wr.heap.size, 2, none⟩ = some (.complex .f64 (FL.fB x.o1) (FL.fB x.o2)) ∧ V.cell? ⟨wr.heap.size, 3, none⟩ = some (.complex .f64 (FL.fB x.b1) (FL.fB x.b2)) ∧ V.cell? ⟨wr.heap.size, 4, none⟩ = some (.complex .f64 (FL.fB x.l1) (FL.fB x.l2))) → Hid (HoldQ w.heap.size V a n c L2) → Calls Tryz.prog 85 #[.slice a n c, .complex .f64 (FL.fB x.o1) (FL.fB x.o2)] V fun e w' => (∃ a n c, e = .returned (.slice a n c) ∧ Hid (HoldQ w.heap.size w' a n c L3)) ∧ (Hid (Below V1.heap.size V1 w') ∧ w'.cell? ⟨wr.heap.size, 0, none⟩ = some (.string (str x.nm)) ∧ w'.cell? ⟨wr.heap.size, 1, none⟩ = some (.string (str x.pr)) ∧ w'.cell? ⟨wr.heap.size, 2, none⟩ = some (.complex .f64 (FL.fB x.o1) (FL.fB x.o2)) ∧ w'.cell? ⟨wr.heap.size, 3, none⟩ = some (.complex .f64 (FL.fB x.b1) (FL.fB x.b2)) ∧ w'.cell? ⟨wr.heap.size, 4, none⟩ = some (.complex .f64 (FL.fB x.l1) (FL.fB x.l2)))) := fun V a n c h hh => (rputA_w a n c L2 x.o1 x.o2 V hh.out.1 hh.out.2.1.isB f3 f4 (by have := hh.out.1; omega)).mono fun e w' r => by rw [hL3]; exact step.out V w' e _ h r
      have C4 : Hid (∀ V a n c, (Hid (Below V1.heap.size V1 V) ∧ V.cell? ⟨wr.heap.size, 0, none⟩ = some (.string (str x.nm)) ∧ V.cell? ⟨wr.heap.size, 1, none⟩ = some (.string (str x.pr)) ∧ V.cell? ⟨wr.heap.size, 2, none⟩ = some (.complex .f64 (FL.fB x.o1) (FL.fB x.o2)) ∧ V.cell? ⟨wr.heap.size, 3, none⟩ = some (.complex .f64 (FL.fB x.b1) (FL.fB x.b2)) ∧ V.cell? ⟨wr.heap.size, 4, none⟩ = some (.complex .f64 (FL.fB x.l1) (FL.fB x.l2))) → Hid (HoldQ w.heap.size V a n c L3) → Calls Tryz.prog 85 #[.slice a n c, .complex .f64 (FL.fB x.b1) (FL.fB x.b2)] V fun e w' => (∃ a n c, e = .returned (.slice a n c) ∧ Hid (HoldQ w.heap.size w' a n c L4)) ∧ (Hid (Below V1.heap.size V1 w') ∧ w'.cell? ⟨wr.heap.size, 0, none⟩ = some (.string (str x.nm)) ∧ w'.cell? ⟨wr.heap.size, 1, none⟩ = some (.string (str x.pr)) ∧ w'.cell? ⟨wr.heap.size, 2, none⟩ = some (.complex .f64 (FL.fB x.o1) (FL.fB x.o2)) ∧ w'.cell? ⟨wr.heap.size, 3, none⟩ = some (.complex .f64 (FL.fB x.b1) (FL.fB x.b2)) ∧ w'.cell? ⟨wr.heap.size, 4, none⟩ = some (.complex .f64 (FL.fB x.l1) (FL.fB x.l2)))) := fun V a n c h hh => (rputA_w a n c L3 x.b1 x.b2 V hh.out.1 hh.out.2.1.isB f5 f6 (by have := hh.out.1; omega)).mono fun e w' r => by rw [hL4]; exact step.out V w' e _ h r
      have C5 : Hid (∀ V a n c, (Hid (Below V1.heap.size V1 V) ∧ V.cell? ⟨wr.heap.size, 0, none⟩ = some (.string (str x.nm)) ∧ V.cell? ⟨wr.heap.size, 1, none⟩ = some (.string (str x.pr)) ∧ V.cell? ⟨wr.heap.size, 2, none⟩ = some (.complex .f64 (FL.fB x.o1) (FL.fB x.o2)) ∧ V.cell? ⟨wr.heap.size, 3, none⟩ = some (.complex .f64 (FL.fB x.b1) (FL.fB x.b2)) ∧ V.cell? ⟨wr.heap.size, 4, none⟩ = some (.complex .f64 (FL.fB x.l1) (FL.fB x.l2))) → Hid (HoldQ w.heap.size V a n c L4) → Calls Tryz.prog 85 #[.slice a n c, .complex .f64 (FL.fB x.l1) (FL.fB x.l2)] V fun e w' => (∃ a n c, e = .returned (.slice a n c) ∧ Hid (HoldQ w.heap.size w' a n c L5)) ∧ (Hid (Below V1.heap.size V1 w') ∧ w'.cell? ⟨wr.heap.size, 0, none⟩ = some (.string (str x.nm)) ∧ w'.cell? ⟨wr.heap.size, 1, none⟩ = some (.string (str x.pr)) ∧ w'.cell? ⟨wr.heap.size, 2, none⟩ = some (.complex .f64 (FL.fB x.o1) (FL.fB x.o2)) ∧ w'.cell? ⟨wr.heap.size, 3, none⟩ = some (.complex .f64 (FL.fB x.b1) (FL.fB x.b2)) ∧ w'.cell? ⟨wr.heap.size, 4, none⟩ = some (.complex .f64 (FL.fB x.l1) (FL.fB x.l2)))) := fun V a n c h hh => (rputA_w a n c L4 x.l1 x.l2 V hh.out.1 hh.out.2.1.isB f7 f8 (by have := hh.out.1; omega)).mono fun e w' r => by rw [hL5]; exact step.out V w' e _ h r
      clear hx f1 f2 f3 f4 f5 f6 f7 f8 hnx hle hr hLk hkb hL1 hL2 hL3 hL4 hL5 e1 e2 e3 e4 hnext gT1 gN1 bV1 hMlt hBlt1 hBlt cont step X1 X2 z0 z1 z2 z3 z4
      go_wp2_with fail
      rw [← hV1]
      clear hV1 t0 t1 q0 q1 q2 q3 q4
      refine wp_region_noPanic ?_
      refine wp_region_held_drew (S := fun V => (Hid (Below V1.heap.size V1 V) ∧ V.cell? ⟨wr.heap.size, 0, none⟩ = some (.string (str x.nm)) ∧ V.cell? ⟨wr.heap.size, 1, none⟩ = some (.string (str x.pr)) ∧ V.cell? ⟨wr.heap.size, 2, none⟩ = some (.complex .f64 (FL.fB x.o1) (FL.fB x.o2)) ∧ V.cell? ⟨wr.heap.size, 3, none⟩ = some (.complex .f64 (FL.fB x.b1) (FL.fB x.b2)) ∧ V.cell? ⟨wr.heap.size, 4, none⟩ = some (.complex .f64 (FL.fB x.l1) (FL.fB x.l2)))) (by kernel_rfl) S0 (fun hHeld => ?_)
      refine rTk 0 ?_; try simp only [Act.put, rP1, rP2, rP3]
      refine rTk 1 ?_; try simp only [Act.put, rP1, rP2, rP3]
      refine rTk 2 ?_; try simp only [Act.put, rP1, rP2, rP3]
      refine rTk 4 ?_; try simp only [Act.put, rP1, rP2, rP3]
      refine rTk 5 ?_; try simp only [Act.put, rP1, rP2, rP3]
      refine rTk 7 ?_; try simp only [Act.put, rP1, rP2, rP3]
      refine rTk 8 ?_; try simp only [Act.put, rP1, rP2, rP3]
      refine rTk 10 ?_; try simp only [Act.put, rP1, rP2, rP3]
      refine rTk 11 ?_; try simp only [Act.put, rP1, rP2, rP3]
      refine rTk 13 ?_; try simp only [Act.put, rP1, rP2, rP3]
      refine rTk 14 ?_; try simp only [Act.put, rP1, rP2, rP3]
      refine rBr 3 fun K hK => ?_
      go_simp
      go_at_call 86
      refine (C1.out _ _ _ _ ?_ X3).mono ?_
      assumption
      rintro e v1 ⟨⟨a1, n1, c1, rfl, r1⟩, k1⟩
      clear C1 X3
      try (go_wp2_with fail)
      refine hK.out _ _ (by (try dsimp only); assumption) (fun hHeld => ?_)
      clear hK K
      try simp only [Act.put, rP1, rP2, rP3]
      refine rBr 6 fun K hK => ?_
      go_simp
      go_at_call 86
      refine (C2.out _ _ _ _ ?_ r1).mono ?_
      assumption
      rintro e v2 ⟨⟨a2, n2, c2, rfl, r2⟩, k2⟩
      clear C2 r1
      try (go_wp2_with fail)
      refine hK.out _ _ (by (try dsimp only); assumption) (fun hHeld => ?_)
      clear hK K
      try simp only [Act.put, rP1, rP2, rP3]
      refine rBr 9 fun K hK => ?_
      go_simp
      go_at_call 85
      refine (C3.out _ _ _ _ ?_ r2).mono ?_
      assumption
      rintro e v3 ⟨⟨a3, n3, c3, rfl, r3⟩, k3⟩
      clear C3 r2
      try (go_wp2_with fail)
      refine hK.out _ _ (by (try dsimp only); assumption) (fun hHeld => ?_)
      clear hK K
      try simp only [Act.put, rP1, rP2, rP3]
      refine rBr 12 fun K hK => ?_
      go_simp
      go_at_call 85
      refine (C4.out _ _ _ _ ?_ r3).mono ?_
      assumption
      rintro e v4 ⟨⟨a4, n4, c4, rfl, r4⟩, k4⟩
      clear C4 r3
      try (go_wp2_with fail)
      refine hK.out _ _ (by (try dsimp only); assumption) (fun hHeld => ?_)
      clear hK K
      try simp only [Act.put, rP1, rP2, rP3]
      refine rBr 15 fun K hK => ?_
      go_simp
      go_at_call 85
      refine (C5.out _ _ _ _ ?_ r4).mono ?_
      assumption
      rintro e v5 ⟨⟨a5, n5, c5, rfl, r5⟩, k5⟩
      clear C5 r4
      try (go_wp2_with fail)
      refine hK.out _ _ (by (try dsimp only); assumption) (fun hHeld => ?_)
      clear hK K
      try simp only [Act.put, rP1, rP2, rP3]
      refine rTk 16 ?_; try simp only [Act.put, rP1, rP2, rP3]
      refine wpAnyH_done (by kernel_rfl) ?_ _
      refine NoPanic.normal ?_
      have FX := Lib.hid (fin.out v5 k5)
      clear S0 k1 k2 k3 k4 k5 fin hHeld
      go_wp2
      exact ⟨⟨k + 1, a5, n5, c5, hlt, by simp, rfl, by rw [Hnext.out]; exact r5, Lib.hid FX.out.1, Lib.hid FX.out.2⟩, by simp [intOf]; omega⟩
    · obtain rfl : n0 = k := by omega
      have X7 : Hid (HoldQ w.heap.size wr a' n' c' LB) := Lib.hid (by have := X1.out; rw [List.take_of_length_le (by have := l0.out; omega), ← HLB.out] at this; exact this)
      have HU2 := Lib.hid (HU1.out wr a' n' c' X7)
      clear X1 HU1
      go_wp2_with fail
      refine HU2.out.mono ?_
      rintro e w2 hr
      obtain ⟨⟨a2, n2, c2, rfl, r2⟩, b2⟩ := HoldQ.of hr Bv.out.size
      have R2 : Hid (HoldQ w.heap.size w2 a2 n2 c2 LC) := Lib.hid (by rw [HLC.out]; exact r2.out)
      have BV := Lib.hid (Bv.out.trans (b2.mono Bv.out.size))
      have GV := Lib.hid ((b2.block _ (Array.getElem?_eq_some_iff.1 Gv.out).1).trans Gv.out)
      clear hr r2 b2 HU2 Bv Gv t0 t1 X7
      go_wp2_with fail
      go_loopw [3, 6] (fun v3 v4 V => ∃ (k : Nat) (a' : Option Addr) (n' c' : Nat), k ≤ n ∧ v4 = .int .i64 k ∧ v3 = .slice a' n' c' ∧ Hid (HoldQ w.heap.size V a' n' c' (LC ++ QT.encL QT.encUs (L.take k))) ∧ Hid (Below w.heap.size w V) ∧ Hid (V.heap[w.heap.size]? = some (.cells #[.slice a0 n0 c0, .slice a n c] 32))) (fun _ v4 _ => n - (intOf v4).toNat)
      case atStart => exact ⟨0, a2, n2, c2, Nat.zero_le _, rfl, rfl, Lib.hid (by simpa [QT.encL] using R2.out), BV, GV⟩
      case round =>
        obtain ⟨k, a', n', c', hk, rfl, rfl, X1, Bv, Gv⟩ := hrel
        clear R2 BV GV
        obtain ⟨t0, t1, _, _⟩ := cells2 Gv.out
        by_cases hlt : k < n
        · have h1 : (k : Int) < (n : Int) := by omega
          obtain ⟨x, hx⟩ : ∃ x, L[k]? = some x := ⟨_, List.getElem?_eq_getElem (by have := l1.out; omega)⟩
          obtain ⟨b, o, ea, q0, q1, q2⟩ := (HUb.out wr Bv.out).at k x hx
          subst ea
          have hfx := HF.out x (List.mem_of_getElem? hx)
          obtain ⟨⟨f1, f2⟩, f3, f4⟩ := hfx
          simp only [QT.cap] at f3 f4
          have hnx := QT.encL_take QT.encUs hx
          have hle := QT.encL_take_le QT.encUs L k
          have hr := HR.out
          obtain ⟨Lk, hLk⟩ : ∃ l, l = LC ++ QT.encL QT.encUs (L.take k) := ⟨_, rfl⟩
          rw [← hLk] at X1
          have hkb : Lk.length + 2000 ≤ roomB := by rw [hLk, HLC.out, HLB.out, List.length_append, List.length_append, List.length_append]; omega
          obtain ⟨L1, hL1⟩ : ∃ l, l = Lk ++ QT.xB x.id := ⟨_, rfl⟩
          obtain ⟨L2, hL2⟩ : ∃ l, l = L1 ++ QT.xB x.nd := ⟨_, rfl⟩
          obtain ⟨L3, hL3⟩ : ∃ l, l = L2 ++ PK.uB x.a1 ++ PK.uB x.a2 := ⟨_, rfl⟩
          have e1 : L1.length ≤ Lk.length + 54 := by rw [hL1, List.length_append]; have := QT.xB_len x.id f1; omega
          have e2 : L2.length ≤ Lk.length + 108 := by rw [hL2, List.length_append]; have := QT.xB_len x.nd f2; omega
          have hnext : LC ++ QT.encL QT.encUs (L.take (k + 1)) = L3 := by
            rw [hnx, hL3, hL2, hL1, hLk, QT.encUs]
            simp only [List.append_assoc]
          have Hnext := Lib.hid hnext
          have hBlt := (Array.getElem?_eq_some_iff.1 Gv.out).1
          have hMlt := World.block_lt_of_cell? _ _ q0
          have cont : Hid (∀ V, Below wr.heap.size wr V → (Hid (Below wr.heap.size wr V) ∧ V.cell? ⟨w.heap.size, 1, none⟩ = some (.slice (some ⟨b, o, none⟩) n c) ∧ V.cell? ⟨b, o + k * 3, none⟩ = some (.string (str x.id)) ∧ V.cell? ⟨b, o + k * 3 + 1, none⟩ = some (.string (str x.nd)) ∧ V.cell? ⟨b, o + k * 3 + 2, none⟩ = some (.complex .f64 (FL.fB x.a1) (FL.fB x.a2)))) := fun V h => ⟨Lib.hid h, (World.cell?_of_block (a := ⟨w.heap.size, 1, none⟩) (h.block _ hBlt)).trans t1, (World.cell?_of_block (a := ⟨b, o + k * 3, none⟩) (h.block _ hMlt)).trans q0, (World.cell?_of_block (a := ⟨b, o + k * 3 + 1, none⟩) (h.block _ hMlt)).trans q1, (World.cell?_of_block (a := ⟨b, o + k * 3 + 2, none⟩) (h.block _ hMlt)).trans q2⟩
          have fin : Hid (∀ V, (Hid (Below wr.heap.size wr V) ∧ V.cell? ⟨w.heap.size, 1, none⟩ = some (.slice (some ⟨b, o, none⟩) n c) ∧ V.cell? ⟨b, o + k * 3, none⟩ = some (.string (str x.id)) ∧ V.cell? ⟨b, o + k * 3 + 1, none⟩ = some (.string (str x.nd)) ∧ V.cell? ⟨b, o + k * 3 + 2, none⟩ = some (.complex .f64 (FL.fB x.a1) (FL.fB x.a2))) → Below w.heap.size w V ∧ V.heap[w.heap.size]? = some (.cells #[.slice a0 n0 c0, .slice (some ⟨b, o, none⟩) n c] 32)) := fun V h => ⟨Bv.out.trans (h.1.out.mono Bv.out.size), (h.1.out.block _ hBlt).trans Gv.out⟩
          have S0 := cont.out wr.drew (Below.refl _ _).drew
          have X3 : Hid (HoldQ w.heap.size wr.drew a' n' c' Lk) := Lib.hid (X1.out.below (Below.refl _ _).drew)
          have step : Hid (∀ (V V' : World) (e : Ending) (l : List UInt8), (Hid (Below wr.heap.size wr V) ∧ V.cell? ⟨w.heap.size, 1, none⟩ = some (.slice (some ⟨b, o, none⟩) n c) ∧ V.cell? ⟨b, o + k * 3, none⟩ = some (.string (str x.id)) ∧ V.cell? ⟨b, o + k * 3 + 1, none⟩ = some (.string (str x.nd)) ∧ V.cell? ⟨b, o + k * 3 + 2, none⟩ = some (.complex .f64 (FL.fB x.a1) (FL.fB x.a2))) → RW V V' e l → (∃ aa m cc, e = .returned (.slice aa m cc) ∧ Hid (HoldQ w.heap.size V' aa m cc l)) ∧ (Hid (Below wr.heap.size wr V') ∧ V'.cell? ⟨w.heap.size, 1, none⟩ = some (.slice (some ⟨b, o, none⟩) n c) ∧ V'.cell? ⟨b, o + k * 3, none⟩ = some (.string (str x.id)) ∧ V'.cell? ⟨b, o + k * 3 + 1, none⟩ = some (.string (str x.nd)) ∧ V'.cell? ⟨b, o + k * 3 + 2, none⟩ = some (.complex .f64 (FL.fB x.a1) (FL.fB x.a2)))) := fun V V' e l h r => by
            obtain ⟨q, b⟩ := HoldQ.of r (fin.out V h).1.size
            exact ⟨q, cont.out V' (h.1.out.trans (b.mono h.1.out.size))⟩
          have C1 : Hid (∀ V aa m cc, (Hid (Below wr.heap.size wr V) ∧ V.cell? ⟨w.heap.size, 1, none⟩ = some (.slice (some ⟨b, o, none⟩) n c) ∧ V.cell? ⟨b, o + k * 3, none⟩ = some (.string (str x.id)) ∧ V.cell? ⟨b, o + k * 3 + 1, none⟩ = some (.string (str x.nd)) ∧ V.cell? ⟨b, o + k * 3 + 2, none⟩ = some (.complex .f64 (FL.fB x.a1) (FL.fB x.a2))) → Hid (HoldQ w.heap.size V aa m cc Lk) → Calls Tryz.prog 86 #[.slice aa m cc, .string (str x.id)] V fun e w' => (∃ aa m cc, e = .returned (.slice aa m cc) ∧ Hid (HoldQ w.heap.size w' aa m cc L1)) ∧ (Hid (Below wr.heap.size wr w') ∧ w'.cell? ⟨w.heap.size, 1, none⟩ = some (.slice (some ⟨b, o, none⟩) n c) ∧ w'.cell? ⟨b, o + k * 3, none⟩ = some (.string (str x.id)) ∧ w'.cell? ⟨b, o + k * 3 + 1, none⟩ = some (.string (str x.nd)) ∧ w'.cell? ⟨b, o + k * 3 + 2, none⟩ = some (.complex .f64 (FL.fB x.a1) (FL.fB x.a2)))) := fun V aa m cc h hh => (rtext_w aa m cc Lk x.id V hh.out.1 hh.out.2.1.isB (by omega) (by have := hh.out.1; omega)).mono fun e w' r => by rw [hL1]; exact step.out V w' e _ h r
          have C2 : Hid (∀ V aa m cc, (Hid (Below wr.heap.size wr V) ∧ V.cell? ⟨w.heap.size, 1, none⟩ = some (.slice (some ⟨b, o, none⟩) n c) ∧ V.cell? ⟨b, o + k * 3, none⟩ = some (.string (str x.id)) ∧ V.cell? ⟨b, o + k * 3 + 1, none⟩ = some (.string (str x.nd)) ∧ V.cell? ⟨b, o + k * 3 + 2, none⟩ = some (.complex .f64 (FL.fB x.a1) (FL.fB x.a2))) → Hid (HoldQ w.heap.size V aa m cc L1) → Calls Tryz.prog 86 #[.slice aa m cc, .string (str x.nd)] V fun e w' => (∃ aa m cc, e = .returned (.slice aa m cc) ∧ Hid (HoldQ w.heap.size w' aa m cc L2)) ∧ (Hid (Below wr.heap.size wr w') ∧ w'.cell? ⟨w.heap.size, 1, none⟩ = some (.slice (some ⟨b, o, none⟩) n c) ∧ w'.cell? ⟨b, o + k * 3, none⟩ = some (.string (str x.id)) ∧ w'.cell? ⟨b, o + k * 3 + 1, none⟩ = some (.string (str x.nd)) ∧ w'.cell? ⟨b, o + k * 3 + 2, none⟩ = some (.complex .f64 (FL.fB x.a1) (FL.fB x.a2)))) := fun V aa m cc h hh => (rtext_w aa m cc L1 x.nd V hh.out.1 hh.out.2.1.isB (by omega) (by have := hh.out.1; omega)).mono fun e w' r => by rw [hL2]; exact step.out V w' e _ h r
          have C3 : Hid (∀ V aa m cc, (Hid (Below wr.heap.size wr V) ∧ V.cell? ⟨w.heap.size, 1, none⟩ = some (.slice (some ⟨b, o, none⟩) n c) ∧ V.cell? ⟨b, o + k * 3, none⟩ = some (.string (str x.id)) ∧ V.cell? ⟨b, o + k * 3 + 1, none⟩ = some (.string (str x.nd)) ∧ V.cell? ⟨b, o + k * 3 + 2, none⟩ = some (.complex .f64 (FL.fB x.a1) (FL.fB x.a2))) → Hid (HoldQ w.heap.size V aa m cc L2) → Calls Tryz.prog 85 #[.slice aa m cc, .complex .f64 (FL.fB x.a1) (FL.fB x.a2)] V fun e w' => (∃ aa m cc, e = .returned (.slice aa m cc) ∧ Hid (HoldQ w.heap.size w' aa m cc L3)) ∧ (Hid (Below wr.heap.size wr w') ∧ w'.cell? ⟨w.heap.size, 1, none⟩ = some (.slice (some ⟨b, o, none⟩) n c) ∧ w'.cell? ⟨b, o + k * 3, none⟩ = some (.string (str x.id)) ∧ w'.cell? ⟨b, o + k * 3 + 1, none⟩ = some (.string (str x.nd)) ∧ w'.cell? ⟨b, o + k * 3 + 2, none⟩ = some (.complex .f64 (FL.fB x.a1) (FL.fB x.a2)))) := fun V aa m cc h hh => (rputA_w aa m cc L2 x.a1 x.a2 V hh.out.1 hh.out.2.1.isB f3 f4 (by have := hh.out.1; omega)).mono fun e w' r => by rw [hL3]; exact step.out V w' e _ h r
          clear hx f1 f2 f3 f4 hnx hle hr hLk hkb hL1 hL2 hL3 e1 e2 hnext hMlt hBlt cont step X1
          go_wp2_with fail
          clear t0 t1 q0 q1 q2
          refine wp_region_noPanic ?_
          refine wp_region_held_drew (S := fun V => (Hid (Below wr.heap.size wr V) ∧ V.cell? ⟨w.heap.size, 1, none⟩ = some (.slice (some ⟨b, o, none⟩) n c) ∧ V.cell? ⟨b, o + k * 3, none⟩ = some (.string (str x.id)) ∧ V.cell? ⟨b, o + k * 3 + 1, none⟩ = some (.string (str x.nd)) ∧ V.cell? ⟨b, o + k * 3 + 2, none⟩ = some (.complex .f64 (FL.fB x.a1) (FL.fB x.a2)))) (by kernel_rfl) S0 (fun hHeld => ?_)
          refine rTk 0 ?_; try simp only [Act.put, rP1, rP2, rP3]
          refine rTk 1 ?_; try simp only [Act.put, rP1, rP2, rP3]
          refine rTk 2 ?_; try simp only [Act.put, rP1, rP2, rP3]
          refine rTk 3 ?_; try simp only [Act.put, rP1, rP2, rP3]
          refine rTk 4 ?_; try simp only [Act.put, rP1, rP2, rP3]
          refine rTk 5 ?_; try simp only [Act.put, rP1, rP2, rP3]
          refine rTk 6 ?_; try simp only [Act.put, rP1, rP2, rP3]
          refine rTk 8 ?_; try simp only [Act.put, rP1, rP2, rP3]
          refine rTk 9 ?_; try simp only [Act.put, rP1, rP2, rP3]
          refine rTk 10 ?_; try simp only [Act.put, rP1, rP2, rP3]
          refine rTk 11 ?_; try simp only [Act.put, rP1, rP2, rP3]
          refine rTk 12 ?_; try simp only [Act.put, rP1, rP2, rP3]
          refine rTk 13 ?_; try simp only [Act.put, rP1, rP2, rP3]
          refine rTk 15 ?_; try simp only [Act.put, rP1, rP2, rP3]
          refine rTk 16 ?_; try simp only [Act.put, rP1, rP2, rP3]
          refine rTk 17 ?_; try simp only [Act.put, rP1, rP2, rP3]
          refine rTk 18 ?_; try simp only [Act.put, rP1, rP2, rP3]
          refine rTk 19 ?_; try simp only [Act.put, rP1, rP2, rP3]
          refine rTk 20 ?_; try simp only [Act.put, rP1, rP2, rP3]
          refine rBr 7 fun K hK => ?_
          go_simp
          go_at_call 86
          refine (C1.out _ _ _ _ ?_ X3).mono ?_
          assumption
          rintro e v1 ⟨⟨a1, n1, c1, rfl, r1⟩, k1⟩
          clear C1 X3
          try (go_wp2_with fail)
          refine hK.out _ _ (by (try dsimp only); assumption) (fun hHeld => ?_)
          clear hK K
          try simp only [Act.put, rP1, rP2, rP3]
          refine rBr 14 fun K hK => ?_
          go_simp
          go_at_call 86
          refine (C2.out _ _ _ _ ?_ r1).mono ?_
          assumption
          rintro e v2 ⟨⟨a2, n2, c2, rfl, r2⟩, k2⟩
          clear C2 r1
          try (go_wp2_with fail)
          refine hK.out _ _ (by (try dsimp only); assumption) (fun hHeld => ?_)
          clear hK K
          try simp only [Act.put, rP1, rP2, rP3]
          refine rBr 21 fun K hK => ?_
          go_simp
          go_at_call 85
          refine (C3.out _ _ _ _ ?_ r2).mono ?_
          assumption
          rintro e v3 ⟨⟨a3, n3, c3, rfl, r3⟩, k3⟩
          clear C3 r2
          try (go_wp2_with fail)
          refine hK.out _ _ (by (try dsimp only); assumption) (fun hHeld => ?_)
          clear hK K
          try simp only [Act.put, rP1, rP2, rP3]
          refine rTk 22 ?_; try simp only [Act.put, rP1, rP2, rP3]
          refine wpAnyH_done (by kernel_rfl) ?_ _
          refine NoPanic.normal ?_
          have FX := Lib.hid (fin.out v3 k3)
          clear S0 k1 k2 k3 fin hHeld
          go_wp2
          exact ⟨⟨k + 1, a3, n3, c3, hlt, by simp, rfl, by rw [Hnext.out]; exact r3, Lib.hid FX.out.1, Lib.hid FX.out.2⟩, by simp [intOf]; omega⟩
        · obtain rfl : n = k := by omega
          have X7 : Hid (HoldQ w.heap.size wr a' n' c' (LC ++ QT.encL QT.encUs L)) := Lib.hid (by have := X1.out; rw [List.take_of_length_le (by have := l1.out; omega)] at this; exact this)
          clear X1
          go_wp2
          go_ret
          exact ⟨⟨a', n', c', rfl, X7.out⟩, Bv.out⟩
end Go.Proofs.YtkanjdijmdjbaaaGreatDoor
