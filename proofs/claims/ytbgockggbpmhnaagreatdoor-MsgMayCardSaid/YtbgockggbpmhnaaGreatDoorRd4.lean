/-
  pack.Reader: Uint, Int, Bool, Kind.
  Conditions: the listed variables read as listed ('Env').
-/
import Derived.Test.YtbgockggbpmhnaaGreatDoorRd3
namespace Go.Proofs.YtbgockggbpmhnaaGreatDoor
open Go Go.RowKit

/-- What is left from a place on. -/
theorem rest_from {w : World} {a : Option Addr} {c : Nat} {l : List UInt8} (hv : IsB w (.slice a l.length c) l) (e : Nat) (he : e ≤ l.length) :
    (∀ W : World, (Instr.sliceAt 22 (.slice a l.length c) (some (.int .i64 (e : Int))) none none).run Tryz.prog W = .ok (.slice (cutAt a e c) (l.length - e) (c - e)) W) ∧ IsB w (.slice (cutAt a e c) (l.length - e) (c - e)) (l.drop e) := by
  refine ⟨fun W => ?_, ?_⟩
  · have := run_sliceAt_l T22 a l.length c (e : Int) (by omega) (by omega) W
    rw [this, Int.toNat_natCast]
  · have := (isB_cut hv e l.length he (Nat.le_refl _)).1
    rwa [List.take_length] at this

set_option maxHeartbeats 1000000 in
theorem bounded_any (N most : Nat) (l : List UInt8) (k : Nat) (w : World) (hE : Env w) (h : Rd w N l k) :
    Calls Tryz.prog 57 #[.pointer (some ⟨N, 0, none⟩), .int .u64 most] w fun v w' => v = .returned (numV (PK.bndP most l k)) ∧ Rd w' N l (PK.bndP most l k).2.2.2 ∧ Fr (fun i => i = N) w w' := by
  have HC := Lib.hid (number_any N 1 l k ⟨#[110]⟩ 110 59 59 w hE h rfl rfl (fun h => List.length_pos_iff.2 h))
  clear hE h
  rcases PK.numP_cases 110 59 1 l k with ⟨e, he, _⟩ | ⟨h1, h2, h3, h4⟩
  · rw [he] at HC
    have hb : PK.bndP most l k = (0, 0, false, e + 1) := by unfold PK.bndP; rw [if_neg (by rw [he]; simp), he]
    have Hb := Lib.hid hb
    clear hb he
    unfold numV at HC
    go_enter Tryz.func57, Tryz.ntmps57
    go_wp2_with fail
    refine HC.out.mono ?_
    rintro v w1 ⟨rfl, r1, f1⟩
    have R1 := Lib.hid r1
    have F1 := Lib.hid f1
    clear r1 f1
    go_wp2
    go_ret3
    rw [Hb.out]
    exact ⟨by simp [numV], R1.out, F1.out⟩
  · rw [h4] at HC
    generalize hn : (PK.digs 59 (l.drop 1)).1 = n at *
    generalize he : 1 + (PK.digs 59 (l.drop 1)).2.1 + 1 = e at *
    unfold numV at HC
    by_cases hg : most < n
    · have hb : PK.bndP most l k = (0, 0, false, 4) := by unfold PK.bndP; rw [h4, if_pos ⟨rfl, hg⟩]
      have Hb := Lib.hid hb
      clear hb h1 h2 h3 h4 hn he
      go_enter Tryz.func57, Tryz.ntmps57
      go_wp2_with fail
      refine HC.out.mono ?_
      rintro v w1 ⟨rfl, r1, f1⟩
      have R1 := Lib.hid r1
      have F1 := Lib.hid f1
      clear r1 f1
      have HF := Lib.hid (fails_yes N l 0 4 3 w1 R1.out (by simp))
      go_wp2_with fail
      refine HF.out.mono ?_
      rintro v w2 ⟨rfl, r2, f2⟩
      have R2 := Lib.hid r2
      have F2 := Lib.hid f2
      clear r2 f2
      go_wp2
      go_ret3
      rw [Hb.out]
      exact ⟨by simp [numV], R2.out, F1.out.trans F2.out⟩
    · have hb : PK.bndP most l k = (n, e, true, 0) := by unfold PK.bndP; rw [h4, if_neg (by simp; omega)]
      have Hb := Lib.hid hb
      clear hb h1 h2 h3 h4 hn he
      go_enter Tryz.func57, Tryz.ntmps57
      go_wp2_with fail
      refine HC.out.mono ?_
      rintro v w1 ⟨rfl, r1, f1⟩
      have R1 := Lib.hid r1
      have F1 := Lib.hid f1
      clear r1 f1
      go_wp2
      go_ret3
      rw [Hb.out]
      exact ⟨by simp [numV], R1.out, F1.out⟩

set_option maxHeartbeats 1000000 in
/-- Uint. -/
theorem uint_any (N most : Nat) (l : List UInt8) (k : Nat) (w : World) (hE : Env w) (h : Rd w N l k) :
    Calls Tryz.prog 26 #[.pointer (some ⟨N, 0, none⟩), .int .u64 most] w fun v w' => v = .returned (.int .u64 (PK.uintP most l k).1) ∧ Rd w' N (PK.uintP most l k).2.1 (PK.uintP most l k).2.2 ∧ Fr (fun i => i = N) w w' := by
  have HC := Lib.hid (bounded_any N most l k w hE h)
  clear hE h
  rcases PK.numP_cases 110 59 1 l k with ⟨e, he, _⟩ | ⟨h1, h2, h3, h4⟩
  · have hb : PK.bndP most l k = (0, 0, false, e + 1) := by unfold PK.bndP; rw [if_neg (by rw [he]; simp), he]
    have hu : PK.uintP most l k = (0, l, e + 1) := by unfold PK.uintP; rw [if_pos (by rw [he]), he]
    rw [hb] at HC
    have Hu := Lib.hid hu
    clear hb he hu
    unfold numV at HC
    go_enter Tryz.func26, Tryz.ntmps26
    go_wp2_with fail
    refine HC.out.mono ?_
    rintro v w1 ⟨rfl, r1, f1⟩
    have R1 := Lib.hid r1
    have F1 := Lib.hid f1
    clear r1 f1
    go_wp2
    go_ret
    rw [Hu.out]
    exact ⟨by simp, R1.out, F1.out⟩
  · obtain ⟨_, _, b1, b2, _⟩ := PK.numP_ok (lc := 110) (s := 59) (f := 1) (l := l) (k := k) (by rw [h4])
    rw [h4] at b1 b2
    simp only [] at b1 b2
    generalize hn : (PK.digs 59 (l.drop 1)).1 = n at *
    generalize he : 1 + (PK.digs 59 (l.drop 1)).2.1 + 1 = e at *
    by_cases hg : most < n
    · have hb : PK.bndP most l k = (0, 0, false, 4) := by unfold PK.bndP; rw [h4, if_pos ⟨rfl, hg⟩]
      have hu : PK.uintP most l k = (0, l, 4) := by unfold PK.uintP; rw [if_neg (by rw [h4]; simp), if_pos (by rw [h4]; exact hg)]
      rw [hb] at HC
      have Hu := Lib.hid hu
      clear hb h1 h2 h3 h4 hn he hu b1 b2
      unfold numV at HC
      go_enter Tryz.func26, Tryz.ntmps26
      go_wp2_with fail
      refine HC.out.mono ?_
      rintro v w1 ⟨rfl, r1, f1⟩
      have R1 := Lib.hid r1
      have F1 := Lib.hid f1
      clear r1 f1
      go_wp2
      go_ret
      rw [Hu.out]
      exact ⟨by simp, R1.out, F1.out⟩
    · have hb : PK.bndP most l k = (n, e, true, 0) := by unfold PK.bndP; rw [h4, if_neg (by simp; omega)]
      have hu : PK.uintP most l k = (n, l.drop e, 0) := by unfold PK.uintP; rw [if_neg (by rw [h4]; simp), if_neg (by rw [h4]; simpa using hg), h4]
      rw [hb] at HC
      have Hu := Lib.hid hu
      have Hb2 := Lib.hid b2
      clear hb h1 h2 h3 h4 hn he hu b1 b2 hg
      unfold numV at HC
      go_enter Tryz.func26, Tryz.ntmps26
      go_wp2_with fail
      refine HC.out.mono ?_
      rintro v w1 ⟨rfl, r1, f1⟩
      have R1 := Lib.hid r1
      have F1 := Lib.hid f1
      clear r1 f1
      obtain ⟨_, a, c, hh, hv⟩ := R1.out
      obtain ⟨c0, _, z0, _⟩ := cells2 hh
      obtain ⟨hsl, hv2⟩ := rest_from hv e Hb2.out
      have HS := Lib.hid (R1.out.setRest (cutAt a e c) (l.length - e) (c - e) (m := l.drop e) (by simp) hv2)
      clear hh hv hv2
      go_wp2
      go_ret
      rw [Hu.out]
      exact ⟨by simp, HS.out.1, F1.out.trans HS.out.2⟩
end Go.Proofs.YtbgockggbpmhnaaGreatDoor
