/-
  entry.Encode and the document's answer, by contracts.
  Conditions: the listed variables read as listed ('Env'); the entry's bytes are at most 2^47 - 200 long.
-/
import Derived.Test.YtbgockggbpmhnaaGreatDoorEntP
import Derived.Test.YtbgockggbpmhnaaGreatDoorDig3
import Derived.Test.YtbgockggbpmhnaaGreatDoorWr2
namespace Go.Proofs.YtbgockggbpmhnaaGreatDoor
open Go Go.RowKit

theorem wrap_u64_nat (n : Int) : IntKind.u64.wrap n = ((PK.u64 n : Nat) : Int) := by
  rw [IntKind.wrap_u64]; unfold PK.u64; omega

set_option maxRecDepth 100000 in
set_option maxHeartbeats 8000000 in
/-- entry.Encode. -/
theorem encE_any (x : PK.Ent) (a : Option Addr) (m c : Nat) (w : World) (hE : Env w) (hv : IsB w (.slice a m c) x.d) (hb : x.d.length + 200 ≤ roomB) :
    Calls Tryz.prog 45 #[.agg #[.int .i64 x.i, .int .i64 x.t, .int .i64 x.k, .slice a m c]] w fun e w' => RW w w' e (PK.encE x) := by
  obtain ⟨i, t, k, d⟩ := x
  simp only at hv hb ⊢
  have hm : m = d.length := by obtain ⟨_, _, e, _⟩ := hv; simp at e; exact e.2.1
  subst hm
  have w1 := wrap_u64_nat i
  have w2 := wrap_u64_nat t
  have w3 := wrap_u64_nat k
  obtain ⟨u1, h1⟩ : ∃ u, u = PK.u64 i := ⟨_, rfl⟩
  obtain ⟨u2, h2⟩ : ∃ u, u = PK.u64 t := ⟨_, rfl⟩
  obtain ⟨u3, h3⟩ : ∃ u, u = PK.u64 k := ⟨_, rfl⟩
  obtain ⟨L1, hL1⟩ : ∃ L, L = PK.uB u1 := ⟨_, rfl⟩
  obtain ⟨L2, hL2⟩ : ∃ L, L = L1 ++ PK.uB u2 := ⟨_, rfl⟩
  obtain ⟨L3, hL3⟩ : ∃ L, L = L2 ++ PK.uB u3 := ⟨_, rfl⟩
  obtain ⟨L4, hL4⟩ : ∃ L, L = L3 ++ PK.bB d := ⟨_, rfl⟩
  have hf : PK.encE ⟨i, t, k, d⟩ = L4 := by rw [hL4, hL3, hL2, hL1, h1, h2, h3]; rfl
  have l1 : u1 < 18446744073709551616 := by rw [h1]; exact PK.u64_lt _
  have l2 : u2 < 18446744073709551616 := by rw [h2]; exact PK.u64_lt _
  have l3 : u3 < 18446744073709551616 := by rw [h3]; exact PK.u64_lt _
  have hdl := hv.len
  have b1 : L1.length ≤ 22 := by rw [hL1]; exact PK.uB_len _ l1
  have b2 : L2.length ≤ 44 := by rw [hL2, List.length_append]; have := PK.uB_len _ l2; omega
  have b3 : L3.length ≤ 66 := by rw [hL3, List.length_append]; have := PK.uB_len _ l3; omega
  have b4 : L4.length ≤ 88 + d.length := by rw [hL4, List.length_append]; have := PK.bB_len d (by simp only [maxLen] at hdl; omega); omega
  rw [← h1] at w1
  rw [← h2] at w2
  rw [← h3] at w3
  rw [hf]
  have HN : Hid (∀ W, Env W → Calls Tryz.prog 41 #[] W fun e w' => e = .returned (.pointer (some ⟨W.heap.size, 0, none⟩)) ∧ Wr w' W.heap.size W.heap.size [] ∧ Below W.heap.size W w') := fun W h => new_any W h
  have HU1 : Hid (∀ (W : World) (B : Nat), Env W → Wr W B B [] → Calls Tryz.prog 42 #[.pointer (some ⟨B, 0, none⟩), .int .u64 u1] W fun e w' => e = .returned (.pointer (some ⟨B, 0, none⟩)) ∧ Wr w' B B L1 ∧ Below B W w') := fun W B hE h => by
    have := wuint_any B B [] u1 W h l1 (by have := PK.dec_le u1 l1; simp only [roomB, List.length_nil]; omega) hE
    rw [hL1]; exact this
  have HU2 : Hid (∀ (W : World) (B : Nat), Env W → Wr W B B L1 → Calls Tryz.prog 42 #[.pointer (some ⟨B, 0, none⟩), .int .u64 u2] W fun e w' => e = .returned (.pointer (some ⟨B, 0, none⟩)) ∧ Wr w' B B L2 ∧ Below B W w') := fun W B hE h => by
    have := wuint_any B B L1 u2 W h l2 (by have := PK.dec_le u2 l2; simp only [roomB]; omega) hE
    rw [hL2]; exact this
  have HU3 : Hid (∀ (W : World) (B : Nat), Env W → Wr W B B L2 → Calls Tryz.prog 42 #[.pointer (some ⟨B, 0, none⟩), .int .u64 u3] W fun e w' => e = .returned (.pointer (some ⟨B, 0, none⟩)) ∧ Wr w' B B L3 ∧ Below B W w') := fun W B hE h => by
    have := wuint_any B B L2 u3 W h l3 (by have := PK.dec_le u3 l3; simp only [roomB]; omega) hE
    rw [hL3]; exact this
  have HB : Hid (∀ (W : World) (B : Nat), Env W → Wr W B B L3 → IsB W (.slice a d.length c) d → w.heap.size ≤ B → Calls Tryz.prog 44 #[.pointer (some ⟨B, 0, none⟩), .slice a d.length c] W fun e w' => e = .returned (.pointer (some ⟨B, 0, none⟩)) ∧ Wr w' B B L4 ∧ Below B W w') := fun W B hE h hi hB => by
    have := wbytes_any B B L3 a d.length c d W h hi (fun hn k hk => Nat.lt_of_lt_of_le (hv.own_lt hn k hk) hB) (by rw [Lib.itoa_nonneg]; have := PK.dec_le d.length (by simp only [maxLen] at hdl; omega); omega) hE
    rw [Lib.itoa_nonneg] at this
    rw [hL4, PK.bB, ← List.append_assoc]; exact this
  have HD : Hid (∀ (W : World) (B : Nat), Wr W B B L4 → Calls Tryz.prog 46 #[.pointer (some ⟨B, 0, none⟩)] W fun e w' => (∃ a' n' c', e = .returned (.slice a' n' c') ∧ Hid (L4.length = n' ∧ OwnB w' (.slice a' n' c') L4 ∧ ∀ b, Value.ownBlock (.slice a' n' c') = some b → W.heap.size ≤ b)) ∧ Below W.heap.size W w') := fun W B h =>
    (wdone_any B B L4 W h (by omega)).mono fun e w' ⟨⟨a', c', e1, e2, e3⟩, b'⟩ => ⟨⟨a', _, c', e1, Lib.hid ⟨rfl, e2, e3⟩⟩, b'⟩
  have HE := Lib.hid hE
  have HV := Lib.hid hv
  clear hE hv hf hL1 hL2 hL3 hL4 h1 h2 h3 b1 b2 b3 b4 l1 l2 l3 hdl hb
  go_enter Tryz.func45, Tryz.ntmps45
  go_wp2_with fail
  obtain ⟨Wa, hWa⟩ : ∃ W, W = w.alloc (.cells #[.int .i64 i, .int .i64 t, .int .i64 k, .slice a d.length c] 57) := ⟨_, rfl⟩
  have q0 : Wa.cell? ⟨w.heap.size, 0, none⟩ = some (.int .i64 i) := by rw [hWa]; exact World.cell?_alloc_new _ _ _ 0
  have q1 : Wa.cell? ⟨w.heap.size, 1, none⟩ = some (.int .i64 t) := by rw [hWa]; exact World.cell?_alloc_new _ _ _ 1
  have q2 : Wa.cell? ⟨w.heap.size, 2, none⟩ = some (.int .i64 k) := by rw [hWa]; exact World.cell?_alloc_new _ _ _ 2
  have q3 : Wa.cell? ⟨w.heap.size, 3, none⟩ = some (.slice a d.length c) := by rw [hWa]; exact World.cell?_alloc_new _ _ _ 3
  have Ba : Below w.heap.size w Wa := by rw [hWa]; exact (Below.refl _ _).alloc (Nat.le_refl _) _
  have hsz : w.heap.size < Wa.heap.size := by rw [hWa]; simp
  rw [← hWa]
  clear hWa
  have Ea := Lib.hid (HE.out.below Ba)
  have Va := Lib.hid (HV.out.below Ba)
  have BA := Lib.hid Ba
  obtain ⟨M, hM⟩ : ∃ M, Wa.heap.size = M := ⟨_, rfl⟩
  have HM := Lib.hid hM
  have next : Hid (∀ W W' : World, (Hid (Below M Wa W) ∧ W.cell? ⟨w.heap.size, 0, none⟩ = some (.int .i64 i) ∧ W.cell? ⟨w.heap.size, 1, none⟩ = some (.int .i64 t) ∧ W.cell? ⟨w.heap.size, 2, none⟩ = some (.int .i64 k) ∧ W.cell? ⟨w.heap.size, 3, none⟩ = some (.slice a d.length c)) → Below M W W' → (Hid (Below M Wa W') ∧ W'.cell? ⟨w.heap.size, 0, none⟩ = some (.int .i64 i) ∧ W'.cell? ⟨w.heap.size, 1, none⟩ = some (.int .i64 t) ∧ W'.cell? ⟨w.heap.size, 2, none⟩ = some (.int .i64 k) ∧ W'.cell? ⟨w.heap.size, 3, none⟩ = some (.slice a d.length c))) := by
    rintro W W' ⟨h, _⟩ b
    have bb : Below M Wa W' := h.out.trans b
    have hb := bb.block _ (show w.heap.size < M by omega)
    exact ⟨Lib.hid bb, (World.cell?_of_block hb).trans q0, (World.cell?_of_block hb).trans q1, (World.cell?_of_block hb).trans q2, (World.cell?_of_block hb).trans q3⟩
  have S0 : Hid (Below M Wa Wa.drew) ∧ Wa.drew.cell? ⟨w.heap.size, 0, none⟩ = some (.int .i64 i) ∧ Wa.drew.cell? ⟨w.heap.size, 1, none⟩ = some (.int .i64 t) ∧ Wa.drew.cell? ⟨w.heap.size, 2, none⟩ = some (.int .i64 k) ∧ Wa.drew.cell? ⟨w.heap.size, 3, none⟩ = some (.slice a d.length c) := ⟨Lib.hid (Below.refl _ _).drew, q0, q1, q2, q3⟩
  have C0 : Hid (Calls Tryz.prog 41 #[] Wa.drew fun e w' => e = .returned (.pointer (some ⟨M, 0, none⟩)) ∧ (Hid (Below M Wa w') ∧ w'.cell? ⟨w.heap.size, 0, none⟩ = some (.int .i64 i) ∧ w'.cell? ⟨w.heap.size, 1, none⟩ = some (.int .i64 t) ∧ w'.cell? ⟨w.heap.size, 2, none⟩ = some (.int .i64 k) ∧ w'.cell? ⟨w.heap.size, 3, none⟩ = some (.slice a d.length c)) ∧ Hid (Wr w' M M [])) := by
    refine (HN.out Wa.drew (Ea.out.below (Below.refl _ _).drew)).mono ?_
    rintro e w' ⟨rfl, h, b⟩
    have hs : Wa.drew.heap.size = M := hM
    rw [hs] at h b ⊢
    exact ⟨rfl, next.out _ _ S0 b, h⟩
  have EW : Hid (∀ W, Hid (Below M Wa W) → Env W) := fun W h => Ea.out.below (by rw [HM.out]; exact h.out)
  have C1 : Hid (∀ W : World, (Hid (Below M Wa W) ∧ W.cell? ⟨w.heap.size, 0, none⟩ = some (.int .i64 i) ∧ W.cell? ⟨w.heap.size, 1, none⟩ = some (.int .i64 t) ∧ W.cell? ⟨w.heap.size, 2, none⟩ = some (.int .i64 k) ∧ W.cell? ⟨w.heap.size, 3, none⟩ = some (.slice a d.length c)) → Hid (Wr W M M []) → Calls Tryz.prog 42 #[.pointer (some ⟨M, 0, none⟩), .int .u64 u1] W fun e w' =>
      e = .returned (.pointer (some ⟨M, 0, none⟩)) ∧ (Hid (Below M Wa w') ∧ w'.cell? ⟨w.heap.size, 0, none⟩ = some (.int .i64 i) ∧ w'.cell? ⟨w.heap.size, 1, none⟩ = some (.int .i64 t) ∧ w'.cell? ⟨w.heap.size, 2, none⟩ = some (.int .i64 k) ∧ w'.cell? ⟨w.heap.size, 3, none⟩ = some (.slice a d.length c)) ∧ Hid (Wr w' M M L1)) := fun W h hw =>
    (HU1.out W M (EW.out W h.1) hw.out).mono fun e w' ⟨e1, e2, e3⟩ => ⟨e1, next.out _ _ h e3, e2⟩
  have C2 : Hid (∀ W : World, (Hid (Below M Wa W) ∧ W.cell? ⟨w.heap.size, 0, none⟩ = some (.int .i64 i) ∧ W.cell? ⟨w.heap.size, 1, none⟩ = some (.int .i64 t) ∧ W.cell? ⟨w.heap.size, 2, none⟩ = some (.int .i64 k) ∧ W.cell? ⟨w.heap.size, 3, none⟩ = some (.slice a d.length c)) → Hid (Wr W M M L1) → Calls Tryz.prog 42 #[.pointer (some ⟨M, 0, none⟩), .int .u64 u2] W fun e w' =>
      e = .returned (.pointer (some ⟨M, 0, none⟩)) ∧ (Hid (Below M Wa w') ∧ w'.cell? ⟨w.heap.size, 0, none⟩ = some (.int .i64 i) ∧ w'.cell? ⟨w.heap.size, 1, none⟩ = some (.int .i64 t) ∧ w'.cell? ⟨w.heap.size, 2, none⟩ = some (.int .i64 k) ∧ w'.cell? ⟨w.heap.size, 3, none⟩ = some (.slice a d.length c)) ∧ Hid (Wr w' M M L2)) := fun W h hw =>
    (HU2.out W M (EW.out W h.1) hw.out).mono fun e w' ⟨e1, e2, e3⟩ => ⟨e1, next.out _ _ h e3, e2⟩
  have C3 : Hid (∀ W : World, (Hid (Below M Wa W) ∧ W.cell? ⟨w.heap.size, 0, none⟩ = some (.int .i64 i) ∧ W.cell? ⟨w.heap.size, 1, none⟩ = some (.int .i64 t) ∧ W.cell? ⟨w.heap.size, 2, none⟩ = some (.int .i64 k) ∧ W.cell? ⟨w.heap.size, 3, none⟩ = some (.slice a d.length c)) → Hid (Wr W M M L2) → Calls Tryz.prog 42 #[.pointer (some ⟨M, 0, none⟩), .int .u64 u3] W fun e w' =>
      e = .returned (.pointer (some ⟨M, 0, none⟩)) ∧ (Hid (Below M Wa w') ∧ w'.cell? ⟨w.heap.size, 0, none⟩ = some (.int .i64 i) ∧ w'.cell? ⟨w.heap.size, 1, none⟩ = some (.int .i64 t) ∧ w'.cell? ⟨w.heap.size, 2, none⟩ = some (.int .i64 k) ∧ w'.cell? ⟨w.heap.size, 3, none⟩ = some (.slice a d.length c)) ∧ Hid (Wr w' M M L3)) := fun W h hw =>
    (HU3.out W M (EW.out W h.1) hw.out).mono fun e w' ⟨e1, e2, e3⟩ => ⟨e1, next.out _ _ h e3, e2⟩
  have C4 : Hid (∀ W : World, (Hid (Below M Wa W) ∧ W.cell? ⟨w.heap.size, 0, none⟩ = some (.int .i64 i) ∧ W.cell? ⟨w.heap.size, 1, none⟩ = some (.int .i64 t) ∧ W.cell? ⟨w.heap.size, 2, none⟩ = some (.int .i64 k) ∧ W.cell? ⟨w.heap.size, 3, none⟩ = some (.slice a d.length c)) → Hid (Wr W M M L3) → Calls Tryz.prog 44 #[.pointer (some ⟨M, 0, none⟩), .slice a d.length c] W fun e w' =>
      e = .returned (.pointer (some ⟨M, 0, none⟩)) ∧ (Hid (Below M Wa w') ∧ w'.cell? ⟨w.heap.size, 0, none⟩ = some (.int .i64 i) ∧ w'.cell? ⟨w.heap.size, 1, none⟩ = some (.int .i64 t) ∧ w'.cell? ⟨w.heap.size, 2, none⟩ = some (.int .i64 k) ∧ w'.cell? ⟨w.heap.size, 3, none⟩ = some (.slice a d.length c)) ∧ Hid (Wr w' M M L4)) := fun W h hw =>
    (HB.out W M (EW.out W h.1) hw.out (Va.out.below (by rw [HM.out]; exact h.1.out)) (by omega)).mono fun e w' ⟨e1, e2, e3⟩ => ⟨e1, next.out _ _ h e3, e2⟩
  have C5 : Hid (∀ W : World, (Hid (Below M Wa W) ∧ W.cell? ⟨w.heap.size, 0, none⟩ = some (.int .i64 i) ∧ W.cell? ⟨w.heap.size, 1, none⟩ = some (.int .i64 t) ∧ W.cell? ⟨w.heap.size, 2, none⟩ = some (.int .i64 k) ∧ W.cell? ⟨w.heap.size, 3, none⟩ = some (.slice a d.length c)) → Hid (Wr W M M L4) → Calls Tryz.prog 46 #[.pointer (some ⟨M, 0, none⟩)] W fun e w' =>
      (∃ a' n' c', e = .returned (.slice a' n' c') ∧ Hid (L4.length = n' ∧ OwnB w' (.slice a' n' c') L4 ∧ ∀ b, Value.ownBlock (.slice a' n' c') = some b → w.heap.size ≤ b)) ∧ (Hid (Below M Wa w') ∧ w'.cell? ⟨w.heap.size, 0, none⟩ = some (.int .i64 i) ∧ w'.cell? ⟨w.heap.size, 1, none⟩ = some (.int .i64 t) ∧ w'.cell? ⟨w.heap.size, 2, none⟩ = some (.int .i64 k) ∧ w'.cell? ⟨w.heap.size, 3, none⟩ = some (.slice a d.length c))) := fun W h hw =>
    (HD.out W M hw.out).mono fun e w' ⟨⟨a', n', c', e1, e2⟩, e3⟩ => ⟨⟨a', n', c', e1, Lib.hid ⟨e2.out.1, e2.out.2.1, fun b hb => by have := e2.out.2.2 b hb; have := hw.out.lt; omega⟩⟩, next.out _ _ h (e3.mono (Nat.le_of_lt hw.out.lt))⟩
  have Hlt : Hid (w.heap.size < M) := by rw [← hM]; exact hsz
  clear Ba hsz hM next q0 q1 q2 q3 HN HU1 HU2 HU3 HB HD EW
  go_region_held3 (fun W => Hid (Below M Wa W) ∧ W.cell? ⟨w.heap.size, 0, none⟩ = some (.int .i64 i) ∧ W.cell? ⟨w.heap.size, 1, none⟩ = some (.int .i64 t) ∧ W.cell? ⟨w.heap.size, 2, none⟩ = some (.int .i64 k) ∧ W.cell? ⟨w.heap.size, 3, none⟩ = some (.slice a d.length c)) (assumption)
    (first
      | (go_at_call 41; refine C0.out.mono ?_; rintro e v0 ⟨rfl, k0, r0⟩)
      | (go_at_call 42; refine (C1.out _ ?_ ?_).mono ?_; assumption; assumption; rintro e v1 ⟨rfl, k1, r1⟩)
      | (go_at_call 42; refine (C2.out _ ?_ ?_).mono ?_; assumption; assumption; rintro e v2 ⟨rfl, k2, r2⟩)
      | (go_at_call 42; refine (C3.out _ ?_ ?_).mono ?_; assumption; assumption; rintro e v3 ⟨rfl, k3, r3⟩)
      | (go_at_call 44; refine (C4.out _ ?_ ?_).mono ?_; assumption; assumption; rintro e v4 ⟨rfl, k4, r4⟩)
      | (go_at_call 46; refine (C5.out _ ?_ ?_).mono ?_; assumption; assumption; rintro e v5 ⟨⟨a5, n5, c5, rfl, r5⟩, k5⟩))
  go_wp2
  go_ret
  exact ⟨⟨_, _, _, rfl, r5.out⟩, BA.out.trans (k5.1.out.mono (Nat.le_of_lt Hlt.out))⟩
end Go.Proofs.YtbgockggbpmhnaaGreatDoor
