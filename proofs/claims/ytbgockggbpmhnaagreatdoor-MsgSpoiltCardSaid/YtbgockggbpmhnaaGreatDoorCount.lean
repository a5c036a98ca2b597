/-
  pack.Reader's Count up to 64 by a contract.
  Conditions: the listed variables read as listed ('Env').
-/
import Derived.Test.YtbgockggbpmhnaaGreatDoorRd8
namespace Go.Proofs.YtbgockggbpmhnaaGreatDoor
open Go Go.RowKit

theorem PK.count_cases (l : List UInt8) (k : Nat) : (∃ e, PK.bndP 64 l k = (0, 0, false, e + 1) ∧ PK.countP 64 l k = (0, l, e + 1)) ∨
    (∃ n e, PK.bndP 64 l k = (n, e, true, 0) ∧ k = 0 ∧ n ≤ 64 ∧ e ≤ l.length ∧ PK.countP 64 l k = if l.length - e < n then (0, l, 2) else (n, l.drop e, 0)) := by
  have h64 : (64 : Int).toNat = 64 := rfl
  rcases PK.numP_cases 110 59 1 l k with ⟨e, he, _⟩ | ⟨h1, h2, h3, h4⟩
  · have hb : PK.bndP 64 l k = (0, 0, false, e + 1) := by unfold PK.bndP; rw [if_neg (by rw [he]; simp), he]
    have hu : PK.uintP 64 l k = (0, l, e + 1) := by unfold PK.uintP; rw [he]; simp
    refine .inl ⟨e, hb, ?_⟩
    unfold PK.countP
    rw [h64, hu]
    simp
  · have hok := PK.numP_ok (lc := 110) (s := 59) (f := 1) (l := l) (k := k) (by rw [h4])
    rw [h4] at hok
    obtain ⟨_, _, _, hle, _⟩ := hok
    generalize (PK.digs 59 (l.drop 1)).1 = n at *
    generalize 1 + (PK.digs 59 (l.drop 1)).2.1 + 1 = e at *
    by_cases hg : 64 < n
    · have hb : PK.bndP 64 l k = (0, 0, false, 4) := by unfold PK.bndP; rw [h4, if_pos ⟨rfl, hg⟩]
      have hu : PK.uintP 64 l k = (0, l, 4) := by unfold PK.uintP; rw [h4]; simp [hg]
      refine .inl ⟨3, hb, ?_⟩
      unfold PK.countP
      rw [h64, hu]
      simp
    · have hb : PK.bndP 64 l k = (n, e, true, 0) := by unfold PK.bndP; rw [h4, if_neg (by simp; omega)]
      have hu : PK.uintP 64 l k = (n, l.drop e, 0) := by unfold PK.uintP; rw [h4]; simp [hg]
      refine .inr ⟨n, e, hb, h1, by omega, hle, ?_⟩
      unfold PK.countP
      rw [h64, hu]
      simp

set_option maxHeartbeats 2000000 in
theorem count_any (N : Nat) (l : List UInt8) (k : Nat) (w : World) (hE : Env w) (h : Rd w N l k) :
    Calls Tryz.prog 29 #[.pointer (some ⟨N, 0, none⟩), .int .i64 64] w fun v w' => v = .returned (.int .i64 ((PK.countP 64 l k).1 : Nat)) ∧ Rd w' N (PK.countP 64 l k).2.1 (PK.countP 64 l k).2.2 ∧ Fr (fun i => i = N) w w' := by
  have HC := Lib.hid (bounded_any N 64 l k w hE h)
  have HL := Lib.hid h.lenBound
  clear hE h
  rcases PK.count_cases l k with ⟨e, hb, hc⟩ | ⟨n, e, hb, rfl, hn, he, hc⟩
  · rw [hb] at HC
    rw [hc]
    unfold numV at HC
    clear hb hc
    go_enter Tryz.func29, Tryz.ntmps29
    go_wp2_with fail
    refine HC.out.mono ?_
    rintro v w1 ⟨rfl, r1, f1⟩
    have R1 := Lib.hid r1
    have F1 := Lib.hid f1
    clear r1 f1 HC
    go_wp2
    go_ret
    exact ⟨rfl, R1.out, F1.out⟩
  · rw [hb] at HC
    rw [hc]
    unfold numV at HC
    have hl63 : (l.length : Int) ≤ 9223372036854775807 := by have := HL.out; simp only [maxLen] at this; omega
    have hw2 : IntKind.i64.wrap ((l.length : Int) - (e : Int)) = (l.length : Int) - e := by rw [IntKind.wrap_i64]; omega
    have hw3 : IntKind.u64.wrap ((l.length : Int) - (e : Int)) = (l.length : Int) - e := by rw [IntKind.wrap_u64]; omega
    have Hel : Hid (e ≤ l.length) := he
    by_cases hg : l.length - e < n
    · rw [if_pos hg]
      have hg2 : (l.length : Int) - e < (n : Int) := by omega
      clear hb hc hg hn he
      go_enter Tryz.func29, Tryz.ntmps29
      go_wp2_with fail
      refine HC.out.mono ?_
      rintro v w1 ⟨rfl, r1, f1⟩
      have F1 := Lib.hid f1
      have HF := Lib.hid (fails_yes N l 0 2 1 w1 r1 (by simp))
      obtain ⟨_, a1, c1, hh, _⟩ := r1
      obtain ⟨p0, p1, _, _⟩ := cells2 hh
      clear f1 HC hh
      go_wp2_with fail
      refine HF.out.mono ?_
      rintro v w2 ⟨rfl, r2, f2⟩
      have R2 := Lib.hid r2
      have F2 := Lib.hid f2
      clear r2 f2
      go_wp2
      go_ret
      exact ⟨rfl, R2.out, F1.out.trans F2.out⟩
    · rw [if_neg hg]
      have hg2 : ¬ ((l.length : Int) - e < (n : Int)) := by omega
      have hn0 : (n : Int) ≤ 64 := by omega
      clear hb hc hg hn he
      go_enter Tryz.func29, Tryz.ntmps29
      go_wp2_with fail
      refine HC.out.mono ?_
      rintro v w1 ⟨rfl, r1, f1⟩
      have F1 := Lib.hid f1
      obtain ⟨_, a, c, hh, hv⟩ := id r1
      obtain ⟨p0, p1, p2, p3⟩ := cells2 hh
      obtain ⟨hsl, hv2⟩ := rest_from hv e Hel.out
      obtain ⟨R3, F3⟩ := r1.setRest (cutAt a e c) (l.length - e) (c - e) (by simp) hv2
      have HR := Lib.hid R3
      have HF3 := Lib.hid F3
      clear r1 f1 hh hv hv2 R3 F3 HC
      go_wp2
      go_ret
      exact ⟨rfl, HR.out, F1.out.trans HF3.out⟩
end Go.Proofs.YtbgockggbpmhnaaGreatDoor
