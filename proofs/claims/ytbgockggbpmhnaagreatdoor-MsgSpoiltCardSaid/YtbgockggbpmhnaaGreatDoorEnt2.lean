/-
  The document's answer's Encode of an entry, by a contract.
  Conditions: the entry's bytes are at most 2^47 - 400 long.
-/
import Derived.Test.YtbgockggbpmhnaaGreatDoorEnt
namespace Go.Proofs.YtbgockggbpmhnaaGreatDoor
open Go Go.RowKit

/-- What a slice is that holds bytes of a call's own. -/
def HoldB (N : Nat) (w : World) (a : Option Addr) (n c : Nat) (l : List UInt8) : Prop :=
  l.length = n ∧ OwnB w (.slice a n c) l ∧ ∀ b, Value.ownBlock (.slice a n c) = some b → N ≤ b
theorem RW.hold {w w' : World} {e : Ending} {l : List UInt8} (h : RW w w' e l) : (∃ a n c, e = .returned (.slice a n c) ∧ Hid (HoldB w.heap.size w' a n c l)) ∧ Below w.heap.size w w' := by
  obtain ⟨⟨a, n, c, rfl, h1, h2, h3⟩, b⟩ := h
  exact ⟨⟨a, n, c, rfl, Lib.hid ⟨h1, h2, h3⟩⟩, b⟩

set_option maxRecDepth 100000 in
set_option maxHeartbeats 8000000 in
/-- Encode. -/
theorem rencE_any (x : PK.Ent) (a : Option Addr) (m c : Nat) (w : World) (hv : IsB w (.slice a m c) x.d) (hb : x.d.length + 400 ≤ roomB) :
    Calls Tryz.prog 50 #[.agg #[.int .i64 x.i, .int .i64 x.t, .int .i64 x.k, .slice a m c]] w fun e w' => RW w w' e (PK.encE x) := by
  obtain ⟨i, t, k, d⟩ := x
  simp only at hv hb ⊢
  have hm : m = d.length := by obtain ⟨_, _, e, _⟩ := hv; simp at e; exact e.2.1
  subst hm
  have w1 := wrap_u64_nat i
  have w2 := wrap_u64_nat t
  have w3 := wrap_u64_nat k
  obtain ⟨u1, h1⟩ : ∃ u, u = PK.u64 i := ⟨_, rfl⟩
  obtain ⟨u2, h2⟩ : ∃ u, u = PK.u64 t := ⟨_, rfl⟩
  obtain ⟨u3, h3⟩ : ∃ u, u = PK.u64 k := ⟨_, rfl⟩
  obtain ⟨L1, hL1⟩ : ∃ L, L = PK.uB u1 := ⟨_, rfl⟩
  obtain ⟨L2, hL2⟩ : ∃ L, L = L1 ++ PK.uB u2 := ⟨_, rfl⟩
  obtain ⟨L3, hL3⟩ : ∃ L, L = L2 ++ PK.uB u3 := ⟨_, rfl⟩
  obtain ⟨L4, hL4⟩ : ∃ L, L = L3 ++ PK.bB d := ⟨_, rfl⟩
  have hf : PK.encE ⟨i, t, k, d⟩ = L4 := by rw [hL4, hL3, hL2, hL1, h1, h2, h3]; rfl
  have l1 : u1 < 18446744073709551616 := by rw [h1]; exact PK.u64_lt _
  have l2 : u2 < 18446744073709551616 := by rw [h2]; exact PK.u64_lt _
  have l3 : u3 < 18446744073709551616 := by rw [h3]; exact PK.u64_lt _
  have b1 : L1.length ≤ 22 := by rw [hL1]; exact PK.uB_len _ l1
  have b2 : L2.length ≤ 44 := by rw [hL2, List.length_append]; have := PK.uB_len _ l2; omega
  have b3 : L3.length ≤ 66 := by rw [hL3, List.length_append]; have := PK.uB_len _ l3; omega
  rw [← h1] at w1
  rw [← h2] at w2
  rw [← h3] at w3
  rw [hf]
  have HU1 : Hid (∀ (W : World), Calls Tryz.prog 47 #[.slice none 0 0, .int .u64 u1] W fun e w' => RW W w' e L1) := fun W => by
    have := ruint_w none 0 0 [] u1 W rfl (IsB.nil W) l1 (by simp only [roomB]; omega)
    rw [hL1]; exact this
  have HU2 : Hid (∀ (W : World) (N : Nat) (a' : Option Addr) (n' c' : Nat), HoldB N W a' n' c' L1 → Calls Tryz.prog 47 #[.slice a' n' c', .int .u64 u2] W fun e w' => RW W w' e L2) := fun W N a' n' c' h => by
    have := ruint_w a' n' c' L1 u2 W h.1 h.2.1.isB l2 (by have := h.1; simp only [roomB]; omega)
    rw [hL2]; exact this
  have HU3 : Hid (∀ (W : World) (N : Nat) (a' : Option Addr) (n' c' : Nat), HoldB N W a' n' c' L2 → Calls Tryz.prog 47 #[.slice a' n' c', .int .u64 u3] W fun e w' => RW W w' e L3) := fun W N a' n' c' h => by
    have := ruint_w a' n' c' L2 u3 W h.1 h.2.1.isB l3 (by have := h.1; simp only [roomB]; omega)
    rw [hL3]; exact this
  have HB : Hid (∀ (W : World) (N : Nat) (a' : Option Addr) (n' c' : Nat), HoldB N W a' n' c' L3 → IsB W (.slice a d.length c) d → Calls Tryz.prog 48 #[.slice a' n' c', .slice a d.length c] W fun e w' => RW W w' e L4) := fun W N a' n' c' h hi => by
    have := rbytes_w a' n' c' L3 a d.length c d W h.1 rfl h.2.1.isB hi (by have := h.1; omega)
    rw [List.append_assoc] at this
    rw [hL4]; exact this
  have HV := Lib.hid hv
  clear hv hf hL1 hL2 hL3 hL4 h1 h2 h3 b1 b2 b3 l1 l2 l3 hb
  go_enter Tryz.func50, Tryz.ntmps50
  go_wp2_with fail
  obtain ⟨Wa, hWa⟩ : ∃ W, W = w.alloc (.cells #[.int .i64 i, .int .i64 t, .int .i64 k, .slice a d.length c] 71) := ⟨_, rfl⟩
  have q0 : Wa.cell? ⟨w.heap.size, 0, none⟩ = some (.int .i64 i) := by rw [hWa]; exact World.cell?_alloc_new _ _ _ 0
  have q1 : Wa.cell? ⟨w.heap.size, 1, none⟩ = some (.int .i64 t) := by rw [hWa]; exact World.cell?_alloc_new _ _ _ 1
  have q2 : Wa.cell? ⟨w.heap.size, 2, none⟩ = some (.int .i64 k) := by rw [hWa]; exact World.cell?_alloc_new _ _ _ 2
  have q3 : Wa.cell? ⟨w.heap.size, 3, none⟩ = some (.slice a d.length c) := by rw [hWa]; exact World.cell?_alloc_new _ _ _ 3
  have Ba : Below w.heap.size w Wa := by rw [hWa]; exact (Below.refl _ _).alloc (Nat.le_refl _) _
  have hsz : w.heap.size < Wa.heap.size := by rw [hWa]; simp
  rw [← hWa]
  clear hWa
  have Va := Lib.hid (HV.out.below Ba)
  have BA := Lib.hid Ba
  obtain ⟨M, hM⟩ : ∃ M, Wa.heap.size = M := ⟨_, rfl⟩
  have HM := Lib.hid hM
  have next : Hid (∀ W W' : World, (Hid (Below M Wa W) ∧ W.cell? ⟨w.heap.size, 0, none⟩ = some (.int .i64 i) ∧ W.cell? ⟨w.heap.size, 1, none⟩ = some (.int .i64 t) ∧ W.cell? ⟨w.heap.size, 2, none⟩ = some (.int .i64 k) ∧ W.cell? ⟨w.heap.size, 3, none⟩ = some (.slice a d.length c)) → Below W.heap.size W W' → (Hid (Below M Wa W') ∧ W'.cell? ⟨w.heap.size, 0, none⟩ = some (.int .i64 i) ∧ W'.cell? ⟨w.heap.size, 1, none⟩ = some (.int .i64 t) ∧ W'.cell? ⟨w.heap.size, 2, none⟩ = some (.int .i64 k) ∧ W'.cell? ⟨w.heap.size, 3, none⟩ = some (.slice a d.length c))) := by
    rintro W W' ⟨h, _⟩ b
    have bb : Below M Wa W' := h.out.trans (b.mono (by have := h.out.size; omega))
    have hb := bb.block _ (show w.heap.size < M by omega)
    exact ⟨Lib.hid bb, (World.cell?_of_block hb).trans q0, (World.cell?_of_block hb).trans q1, (World.cell?_of_block hb).trans q2, (World.cell?_of_block hb).trans q3⟩
  have S0 : (Hid (Below M Wa Wa.drew) ∧ Wa.drew.cell? ⟨w.heap.size, 0, none⟩ = some (.int .i64 i) ∧ Wa.drew.cell? ⟨w.heap.size, 1, none⟩ = some (.int .i64 t) ∧ Wa.drew.cell? ⟨w.heap.size, 2, none⟩ = some (.int .i64 k) ∧ Wa.drew.cell? ⟨w.heap.size, 3, none⟩ = some (.slice a d.length c)) := ⟨Lib.hid (Below.refl _ _).drew, q0, q1, q2, q3⟩
  have up : Hid (∀ (W w' : World) (a' : Option Addr) (n' c' : Nat) (l : List UInt8), Hid (Below M Wa W) → Hid (HoldB W.heap.size w' a' n' c' l) → Hid (HoldB w.heap.size w' a' n' c' l)) := by
    intro W w' a' n' c' l h hh
    exact Lib.hid ⟨hh.out.1, hh.out.2.1, fun b hb => by have := hh.out.2.2 b hb; have := h.out.size; omega⟩
  have C1 : Hid (∀ W : World, (Hid (Below M Wa W) ∧ W.cell? ⟨w.heap.size, 0, none⟩ = some (.int .i64 i) ∧ W.cell? ⟨w.heap.size, 1, none⟩ = some (.int .i64 t) ∧ W.cell? ⟨w.heap.size, 2, none⟩ = some (.int .i64 k) ∧ W.cell? ⟨w.heap.size, 3, none⟩ = some (.slice a d.length c)) → Calls Tryz.prog 47 #[.slice none 0 0, .int .u64 u1] W fun e w' => (∃ a' n' c', e = .returned (.slice a' n' c') ∧ Hid (HoldB w.heap.size w' a' n' c' L1)) ∧ (Hid (Below M Wa w') ∧ w'.cell? ⟨w.heap.size, 0, none⟩ = some (.int .i64 i) ∧ w'.cell? ⟨w.heap.size, 1, none⟩ = some (.int .i64 t) ∧ w'.cell? ⟨w.heap.size, 2, none⟩ = some (.int .i64 k) ∧ w'.cell? ⟨w.heap.size, 3, none⟩ = some (.slice a d.length c))) := fun W h =>
    (HU1.out W).mono fun e w' hw => by obtain ⟨⟨a', n', c', e1, e2⟩, b⟩ := hw.hold; exact ⟨⟨a', n', c', e1, up.out W w' a' n' c' _ h.1 e2⟩, next.out W w' h b⟩
  have C2 : Hid (∀ (W : World) (a' : Option Addr) (n' c' : Nat), (Hid (Below M Wa W) ∧ W.cell? ⟨w.heap.size, 0, none⟩ = some (.int .i64 i) ∧ W.cell? ⟨w.heap.size, 1, none⟩ = some (.int .i64 t) ∧ W.cell? ⟨w.heap.size, 2, none⟩ = some (.int .i64 k) ∧ W.cell? ⟨w.heap.size, 3, none⟩ = some (.slice a d.length c)) → Hid (HoldB w.heap.size W a' n' c' L1) → Calls Tryz.prog 47 #[.slice a' n' c', .int .u64 u2] W fun e w' => (∃ a' n' c', e = .returned (.slice a' n' c') ∧ Hid (HoldB w.heap.size w' a' n' c' L2)) ∧ (Hid (Below M Wa w') ∧ w'.cell? ⟨w.heap.size, 0, none⟩ = some (.int .i64 i) ∧ w'.cell? ⟨w.heap.size, 1, none⟩ = some (.int .i64 t) ∧ w'.cell? ⟨w.heap.size, 2, none⟩ = some (.int .i64 k) ∧ w'.cell? ⟨w.heap.size, 3, none⟩ = some (.slice a d.length c))) := fun W a1 n1 c1 h hh =>
    (HU2.out W _ a1 n1 c1 hh.out).mono fun e w' hw => by obtain ⟨⟨a', n', c', e1, e2⟩, b⟩ := hw.hold; exact ⟨⟨a', n', c', e1, up.out W w' a' n' c' _ h.1 e2⟩, next.out W w' h b⟩
  have C3 : Hid (∀ (W : World) (a' : Option Addr) (n' c' : Nat), (Hid (Below M Wa W) ∧ W.cell? ⟨w.heap.size, 0, none⟩ = some (.int .i64 i) ∧ W.cell? ⟨w.heap.size, 1, none⟩ = some (.int .i64 t) ∧ W.cell? ⟨w.heap.size, 2, none⟩ = some (.int .i64 k) ∧ W.cell? ⟨w.heap.size, 3, none⟩ = some (.slice a d.length c)) → Hid (HoldB w.heap.size W a' n' c' L2) → Calls Tryz.prog 47 #[.slice a' n' c', .int .u64 u3] W fun e w' => (∃ a' n' c', e = .returned (.slice a' n' c') ∧ Hid (HoldB w.heap.size w' a' n' c' L3)) ∧ (Hid (Below M Wa w') ∧ w'.cell? ⟨w.heap.size, 0, none⟩ = some (.int .i64 i) ∧ w'.cell? ⟨w.heap.size, 1, none⟩ = some (.int .i64 t) ∧ w'.cell? ⟨w.heap.size, 2, none⟩ = some (.int .i64 k) ∧ w'.cell? ⟨w.heap.size, 3, none⟩ = some (.slice a d.length c))) := fun W a1 n1 c1 h hh =>
    (HU3.out W _ a1 n1 c1 hh.out).mono fun e w' hw => by obtain ⟨⟨a', n', c', e1, e2⟩, b⟩ := hw.hold; exact ⟨⟨a', n', c', e1, up.out W w' a' n' c' _ h.1 e2⟩, next.out W w' h b⟩
  have C4 : Hid (∀ (W : World) (a' : Option Addr) (n' c' : Nat), (Hid (Below M Wa W) ∧ W.cell? ⟨w.heap.size, 0, none⟩ = some (.int .i64 i) ∧ W.cell? ⟨w.heap.size, 1, none⟩ = some (.int .i64 t) ∧ W.cell? ⟨w.heap.size, 2, none⟩ = some (.int .i64 k) ∧ W.cell? ⟨w.heap.size, 3, none⟩ = some (.slice a d.length c)) → Hid (HoldB w.heap.size W a' n' c' L3) → Calls Tryz.prog 48 #[.slice a' n' c', .slice a d.length c] W fun e w' => (∃ a' n' c', e = .returned (.slice a' n' c') ∧ Hid (HoldB w.heap.size w' a' n' c' L4)) ∧ (Hid (Below M Wa w') ∧ w'.cell? ⟨w.heap.size, 0, none⟩ = some (.int .i64 i) ∧ w'.cell? ⟨w.heap.size, 1, none⟩ = some (.int .i64 t) ∧ w'.cell? ⟨w.heap.size, 2, none⟩ = some (.int .i64 k) ∧ w'.cell? ⟨w.heap.size, 3, none⟩ = some (.slice a d.length c))) := fun W a1 n1 c1 h hh =>
    (HB.out W _ a1 n1 c1 hh.out (Va.out.below (by rw [HM.out]; exact h.1.out))).mono fun e w' hw => by obtain ⟨⟨a', n', c', e1, e2⟩, b⟩ := hw.hold; exact ⟨⟨a', n', c', e1, up.out W w' a' n' c' _ h.1 e2⟩, next.out W w' h b⟩
  have Hlt : Hid (w.heap.size < M) := by rw [← hM]; exact hsz
  clear Ba hsz hM next q0 q1 q2 q3 HU1 HU2 HU3 HB up
  refine wp_region_noPanic ?_
  refine wp_region_held_drew (S := fun W => (Hid (Below M Wa W) ∧ W.cell? ⟨w.heap.size, 0, none⟩ = some (.int .i64 i) ∧ W.cell? ⟨w.heap.size, 1, none⟩ = some (.int .i64 t) ∧ W.cell? ⟨w.heap.size, 2, none⟩ = some (.int .i64 k) ∧ W.cell? ⟨w.heap.size, 3, none⟩ = some (.slice a d.length c))) (by kernel_rfl) S0 (fun hHeld => ?_)
  refine wpAnyH_take (i := 0) (v := ?hv0) (List.getElem?_toArray.trans rfl) (by kernel_rfl) (by kernel_rfl) (by kernel_rfl) (fun _ _ _ h => h) (Or.inl ⟨by rfl, ?hy0⟩) (by assumption) ?hr0
  case hy0 => (intro wt hSw; (try dsimp only at hSw); go_simp; try (with_reducible rfl))
  try simp only [Act.put, List.setIfInBounds_toArray, List.set_cons_zero, List.set_cons_succ]
  refine wpAnyH_take (i := 1) (v := ?hv1) (List.getElem?_toArray.trans rfl) (by kernel_rfl) (by kernel_rfl) (by kernel_rfl) (fun _ _ _ h => h) (Or.inl ⟨by rfl, ?hy1⟩) (by assumption) ?hr1
  case hy1 => (intro wt hSw; (try dsimp only at hSw); go_simp; try (with_reducible rfl))
  try simp only [Act.put, List.setIfInBounds_toArray, List.set_cons_zero, List.set_cons_succ]
  refine wpAnyH_take (i := 2) (v := ?hv2) (List.getElem?_toArray.trans rfl) (by kernel_rfl) (by kernel_rfl) (by kernel_rfl) (fun _ _ _ h => h) (Or.inl ⟨by rfl, ?hy2⟩) (by assumption) ?hr2
  case hy2 => (intro wt hSw; (try dsimp only at hSw); go_simp; try (with_reducible rfl))
  try simp only [Act.put, List.setIfInBounds_toArray, List.set_cons_zero, List.set_cons_succ]
  refine wpAnyH_take (i := 4) (v := ?hv4) (List.getElem?_toArray.trans rfl) (by kernel_rfl) (by kernel_rfl) (by kernel_rfl) (fun _ _ _ h => h) (Or.inl ⟨by rfl, ?hy4⟩) (by assumption) ?hr4
  case hy4 => (intro wt hSw; (try dsimp only at hSw); go_simp; try (with_reducible rfl))
  try simp only [Act.put, List.setIfInBounds_toArray, List.set_cons_zero, List.set_cons_succ]
  refine wpAnyH_take (i := 5) (v := ?hv5) (List.getElem?_toArray.trans rfl) (by kernel_rfl) (by kernel_rfl) (by kernel_rfl) (fun _ _ _ h => h) (Or.inl ⟨by rfl, ?hy5⟩) (by assumption) ?hr5
  case hy5 => (intro wt hSw; (try dsimp only at hSw); go_simp; try (with_reducible rfl))
  try simp only [Act.put, List.setIfInBounds_toArray, List.set_cons_zero, List.set_cons_succ]
  refine wpAnyH_take (i := 6) (v := ?hv6) (List.getElem?_toArray.trans rfl) (by kernel_rfl) (by kernel_rfl) (by kernel_rfl) (fun _ _ _ h => h) (Or.inl ⟨by rfl, ?hy6⟩) (by assumption) ?hr6
  case hy6 => (intro wt hSw; (try dsimp only at hSw); go_simp; try (with_reducible rfl))
  try simp only [Act.put, List.setIfInBounds_toArray, List.set_cons_zero, List.set_cons_succ]
  refine wpAnyH_take (i := 8) (v := ?hv8) (List.getElem?_toArray.trans rfl) (by kernel_rfl) (by kernel_rfl) (by kernel_rfl) (fun _ _ _ h => h) (Or.inl ⟨by rfl, ?hy8⟩) (by assumption) ?hr8
  case hy8 => (intro wt hSw; (try dsimp only at hSw); go_simp; try (with_reducible rfl))
  try simp only [Act.put, List.setIfInBounds_toArray, List.set_cons_zero, List.set_cons_succ]
  refine wpAnyH_take (i := 9) (v := ?hv9) (List.getElem?_toArray.trans rfl) (by kernel_rfl) (by kernel_rfl) (by kernel_rfl) (fun _ _ _ h => h) (Or.inl ⟨by rfl, ?hy9⟩) (by assumption) ?hr9
  case hy9 => (intro wt hSw; (try dsimp only at hSw); go_simp; try (with_reducible rfl))
  try simp only [Act.put, List.setIfInBounds_toArray, List.set_cons_zero, List.set_cons_succ]
  refine wpAnyH_take (i := 10) (v := ?hv10) (List.getElem?_toArray.trans rfl) (by kernel_rfl) (by kernel_rfl) (by kernel_rfl) (fun _ _ _ h => h) (Or.inl ⟨by rfl, ?hy10⟩) (by assumption) ?hr10
  case hy10 => (intro wt hSw; (try dsimp only at hSw); go_simp; try (with_reducible rfl))
  try simp only [Act.put, List.setIfInBounds_toArray, List.set_cons_zero, List.set_cons_succ]
  refine wpAnyH_take (i := 12) (v := ?hv12) (List.getElem?_toArray.trans rfl) (by kernel_rfl) (by kernel_rfl) (by kernel_rfl) (fun _ _ _ h => h) (Or.inl ⟨by rfl, ?hy12⟩) (by assumption) ?hr12
  case hy12 => (intro wt hSw; (try dsimp only at hSw); go_simp; try (with_reducible rfl))
  try simp only [Act.put, List.setIfInBounds_toArray, List.set_cons_zero, List.set_cons_succ]
  refine wpAnyH_take (i := 13) (v := ?hv13) (List.getElem?_toArray.trans rfl) (by kernel_rfl) (by kernel_rfl) (by kernel_rfl) (fun _ _ _ h => h) (Or.inl ⟨by rfl, ?hy13⟩) (by assumption) ?hr13
  case hy13 => (intro wt hSw; (try dsimp only at hSw); go_simp; try (with_reducible rfl))
  try simp only [Act.put, List.setIfInBounds_toArray, List.set_cons_zero, List.set_cons_succ]
  refine wpAnyH_ready (rs := [3]) (by kernel_rfl) (by simp) ?_
  refine AllReadyH.cons (List.getElem?_toArray.trans rfl) (fun K hK => ?_) AllReadyH.nil
  go_simp
  go_at_call 47
  refine (C1.out _ ?_).mono ?_
  assumption
  rintro e v1 ⟨⟨a1, n1, c1, rfl, r1⟩, k1⟩
  clear C1
  try (go_wp2_with fail)
  refine hK.out _ _ ?_ (fun hHeld => ?_)
  · (try dsimp only)
    assumption
  clear hK K
  try simp only [Act.put, List.setIfInBounds_toArray, List.set_cons_zero, List.set_cons_succ]
  refine wpAnyH_ready (rs := [7]) (by kernel_rfl) (by simp) ?_
  refine AllReadyH.cons (List.getElem?_toArray.trans rfl) (fun K hK => ?_) AllReadyH.nil
  go_simp
  go_at_call 47
  refine (C2.out _ _ _ _ ?_ r1).mono ?_
  assumption
  rintro e v2 ⟨⟨a2, n2, c2, rfl, r2⟩, k2⟩
  clear C2 r1 k1
  try (go_wp2_with fail)
  refine hK.out _ _ ?_ (fun hHeld => ?_)
  · (try dsimp only)
    assumption
  clear hK K
  try simp only [Act.put, List.setIfInBounds_toArray, List.set_cons_zero, List.set_cons_succ]
  refine wpAnyH_ready (rs := [11]) (by kernel_rfl) (by simp) ?_
  refine AllReadyH.cons (List.getElem?_toArray.trans rfl) (fun K hK => ?_) AllReadyH.nil
  go_simp
  go_at_call 47
  refine (C3.out _ _ _ _ ?_ r2).mono ?_
  assumption
  rintro e v3 ⟨⟨a3, n3, c3, rfl, r3⟩, k3⟩
  clear C3 r2 k2
  try (go_wp2_with fail)
  refine hK.out _ _ ?_ (fun hHeld => ?_)
  · (try dsimp only)
    assumption
  clear hK K
  try simp only [Act.put, List.setIfInBounds_toArray, List.set_cons_zero, List.set_cons_succ]
  refine wpAnyH_ready (rs := [14]) (by kernel_rfl) (by simp) ?_
  refine AllReadyH.cons (List.getElem?_toArray.trans rfl) (fun K hK => ?_) AllReadyH.nil
  go_simp
  go_at_call 48
  refine (C4.out _ _ _ _ ?_ r3).mono ?_
  assumption
  rintro e v4 ⟨⟨a4, n4, c4, rfl, r4⟩, k4⟩
  clear C4 r3 k3
  try (go_wp2_with fail)
  refine hK.out _ _ ?_ (fun hHeld => ?_)
  · (try dsimp only)
    assumption
  clear hK K
  try simp only [Act.put, List.setIfInBounds_toArray, List.set_cons_zero, List.set_cons_succ]
  refine wpAnyH_take (i := 15) (v := ?hv15) (List.getElem?_toArray.trans rfl) (by kernel_rfl) (by kernel_rfl) (by kernel_rfl) (fun _ _ _ h => h) (Or.inl ⟨by rfl, ?hy15⟩) (by assumption) ?hr15
  case hy15 => (intro wt hSw; (try dsimp only at hSw); go_simp; try (with_reducible rfl))
  try simp only [Act.put, List.setIfInBounds_toArray, List.set_cons_zero, List.set_cons_succ]
  refine wpAnyH_done (by kernel_rfl) ?_ _
  refine NoPanic.normal ?_
  go_wp2
  go_ret
  exact ⟨⟨_, _, _, rfl, r4.out⟩, BA.out.trans (k4.1.out.mono (Nat.le_of_lt Hlt.out))⟩
end Go.Proofs.YtbgockggbpmhnaaGreatDoor
