/-
  pack.Reader: a number of a letter, Uint, and what stands on it.
  Conditions: the listed variables read as listed ('Env').
-/
import Derived.Test.YtbgockggbpmhnaaGreatDoorRd2
namespace Go.Proofs.YtbgockggbpmhnaaGreatDoor
open Go Go.RowKit

theorem fails_yes (N : Nat) (l : List UInt8) (k j e : Nat) (w : World) (h : Rd w N l k) (he : (if k = 0 then j else k) = e + 1) :
    Calls Tryz.prog 58 #[.pointer (some ⟨N, 0, none⟩), errV j] w fun v w' => v = .returned (.bool true) ∧ Rd w' N l (e + 1) ∧ Fr (fun i => i = N) w w' := by
  refine (fails_any N l k j w h).mono ?_
  rintro v w' ⟨rfl, h1, h2⟩
  rw [he] at h1 ⊢
  exact ⟨by simp, h1, h2⟩
theorem fails_no (N : Nat) (l : List UInt8) (w : World) (h : Rd w N l 0) :
    Calls Tryz.prog 58 #[.pointer (some ⟨N, 0, none⟩), errV 0] w fun v w' => v = .returned (.bool false) ∧ Rd w' N l 0 ∧ Fr (fun i => i = N) w w' := by
  refine (fails_any N l 0 0 w h).mono ?_
  rintro v w' ⟨rfl, h1, h2⟩
  exact ⟨by simp, by simpa using h1, h2⟩

theorem Rd.lenBound {w : World} {N : Nat} {l : List UInt8} {k : Nat} (h : Rd w N l k) : l.length ≤ maxLen := by
  obtain ⟨_, a, c, _, hv⟩ := h; exact hv.len

/-- What number answers. -/
def numV (x : Nat × Nat × Bool × Nat) : Value := .tuple #[.int .u64 x.1, .int .i64 x.2.1, .bool x.2.2.1]

set_option maxHeartbeats 1000000 in
theorem number_any (N f : Nat) (l : List UInt8) (k : Nat) (t : ByteArray) (lc s : UInt8) (sg : Int) (w : World) (hE : Env w) (h : Rd w N l k) (ht : t.data.toList = [lc]) (hsg : sg = (s.toNat : Int)) (hf : l ≠ [] → f ≤ l.length) :
    Calls Tryz.prog 81 #[.pointer (some ⟨N, 0, none⟩), .string t, .int .u8 sg, .int .i64 f] w fun v w' => v = .returned (numV (PK.numP lc s f l k)) ∧ Rd w' N l (PK.numP lc s f l k).2.2.2 ∧ Fr (fun i => i = N) w w' := by
  have ht1 : t.size = 1 := (Array.length_toList (xs := t.data)).symm.trans (by rw [ht]; rfl)
  have HB := Lib.hid (begin_any N l k t w h (by omega))
  rw [ht] at HB
  have HE := Lib.hid hE
  have H := Lib.hid h
  have Hf := Lib.hid hf
  have Hsg := Lib.hid hsg
  have hN := h.glob
  have HN := Lib.hid hN
  clear hE h hf hsg ht ht1 hN
  by_cases hk : k = 0
  · subst hk
    by_cases hb : PK.begP [lc] l = 0
    · have hln : l ≠ [] := by rintro rfl; simp [PK.begP] at hb
      have Hb0 := Lib.hid hb
      rw [hb] at HB
      clear hb
      by_cases hd : (PK.digs s (l.drop f)).2.2 = 0
      · -- a number
        have hdv : digV s f l = .tuple #[.int .u64 (PK.digs s (l.drop f)).1, .int .i64 ((f : Int) + (PK.digs s (l.drop f)).2.1 + 1), errV 0] := by
          unfold digV; rw [hd, if_pos rfl]
        have hnp : PK.numP lc s f l 0 = ((PK.digs s (l.drop f)).1, f + (PK.digs s (l.drop f)).2.1 + 1, true, 0) := by
          unfold PK.numP; rw [if_neg (by simp), if_neg (by simp [Hb0.out]), if_neg (by simp [hd])]
        have Hdv := Lib.hid hdv
        have Hnp := Lib.hid hnp
        have Hln := Lib.hid hln
        clear hd hdv hnp hln Hb0
        generalize (PK.digs s (l.drop f)).1 = n1 at *
        generalize (PK.digs s (l.drop f)).2.1 = n2 at *
        go_enter Tryz.func81, Tryz.ntmps81
        go_wp2_with fail
        refine HB.out.mono ?_
        rintro v w1 ⟨rfl, b1⟩
        have B1 := Lib.hid b1
        clear b1
        have HF := Lib.hid (fails_no N l w1 (H.out.below B1.out))
        go_wp2_with fail
        refine HF.out.mono ?_
        rintro v w2 ⟨rfl, r2, f2⟩
        have R2 := Lib.hid r2
        have F2 := Lib.hid f2
        clear r2 f2
        obtain ⟨_, a, c, hh, hv⟩ := R2.out
        obtain ⟨c0, _, _, _⟩ := cells2 hh
        have HE2 : Hid (Env w2) := (HE.out.below B1.out).rd F2.out HN.out
        have HD := Lib.hid (digits_any a c f l s sg w2 HE2.out hv (Hf.out Hln.out) Hsg.out)
        rw [Hdv.out] at HD
        clear hh hv
        go_wp2_with fail
        refine HD.out.mono ?_
        rintro v w3 ⟨rfl, b3⟩
        have B3 := Lib.hid b3
        clear b3
        have HF2 := Lib.hid (fails_no N l w3 (R2.out.below B3.out))
        go_wp2_with fail
        refine HF2.out.mono ?_
        rintro v w4 ⟨rfl, r4, f4⟩
        have R4 := Lib.hid r4
        have F4 := Lib.hid f4
        clear r4 f4
        go_wp2
        go_ret3
        rw [Hnp.out]
        exact ⟨by simp [numV], R4.out, (((Fr.of_below B1.out).trans F2.out).trans (Fr.of_below B3.out)).trans F4.out⟩
      · -- the digits' error
        obtain ⟨e, he⟩ : ∃ e, (PK.digs s (l.drop f)).2.2 = e + 1 := ⟨(PK.digs s (l.drop f)).2.2 - 1, by omega⟩
        have hdv : digV s f l = .tuple #[.int .u64 (0 : Nat), .int .i64 0, errV (e + 1)] := by
          unfold digV; rw [if_neg hd, (PK.digs_zero s _ hd).1, he]
        have hnp : PK.numP lc s f l 0 = (0, 0, false, e + 1) := by
          unfold PK.numP; rw [if_neg (by simp), if_neg (by simp [Hb0.out]), if_pos hd, he]
        have Hdv := Lib.hid hdv
        have Hnp := Lib.hid hnp
        have Hln := Lib.hid hln
        clear hd hdv hnp hln Hb0 he
        go_enter Tryz.func81, Tryz.ntmps81
        go_wp2_with fail
        refine HB.out.mono ?_
        rintro v w1 ⟨rfl, b1⟩
        have B1 := Lib.hid b1
        clear b1
        have HF := Lib.hid (fails_no N l w1 (H.out.below B1.out))
        go_wp2_with fail
        refine HF.out.mono ?_
        rintro v w2 ⟨rfl, r2, f2⟩
        have R2 := Lib.hid r2
        have F2 := Lib.hid f2
        clear r2 f2
        obtain ⟨_, a, c, hh, hv⟩ := R2.out
        obtain ⟨c0, _, _, _⟩ := cells2 hh
        have HE2 : Hid (Env w2) := (HE.out.below B1.out).rd F2.out HN.out
        have HD := Lib.hid (digits_any a c f l s sg w2 HE2.out hv (Hf.out Hln.out) Hsg.out)
        rw [Hdv.out] at HD
        clear hh hv
        go_wp2_with fail
        refine HD.out.mono ?_
        rintro v w3 ⟨rfl, b3⟩
        have B3 := Lib.hid b3
        clear b3
        have HF2 := Lib.hid (fails_yes N l 0 (e + 1) e w3 (R2.out.below B3.out) (by simp))
        go_wp2_with fail
        refine HF2.out.mono ?_
        rintro v w4 ⟨rfl, r4, f4⟩
        have R4 := Lib.hid r4
        have F4 := Lib.hid f4
        clear r4 f4
        go_wp2
        go_ret3
        rw [Hnp.out]
        exact ⟨by simp [numV], R4.out, (((Fr.of_below B1.out).trans F2.out).trans (Fr.of_below B3.out)).trans F4.out⟩
    · -- another letter, or none
      obtain ⟨e, he⟩ : ∃ e, PK.begP [lc] l = e + 1 := ⟨PK.begP [lc] l - 1, by omega⟩
      have hnp : PK.numP lc s f l 0 = (0, 0, false, e + 1) := by
        unfold PK.numP; rw [if_neg (by simp), if_pos hb, he]
      have Hnp := Lib.hid hnp
      have He := Lib.hid he
      clear hb hnp he
      go_enter Tryz.func81, Tryz.ntmps81
      go_wp2_with fail
      refine HB.out.mono ?_
      rintro v w1 ⟨rfl, b1⟩
      have B1 := Lib.hid b1
      clear b1
      have HF := Lib.hid (fails_yes N l 0 (PK.begP [lc] l) e w1 (H.out.below B1.out) (by simpa using He.out))
      go_wp2_with fail
      refine HF.out.mono ?_
      rintro v w2 ⟨rfl, r2, f2⟩
      have R2 := Lib.hid r2
      have F2 := Lib.hid f2
      clear r2 f2
      go_wp2
      go_ret3
      rw [Hnp.out]
      exact ⟨by simp [numV], R2.out, (Fr.of_below B1.out).trans F2.out⟩
  · -- an error before
    obtain ⟨e, rfl⟩ : ∃ e, k = e + 1 := ⟨k - 1, by omega⟩
    have hnp : PK.numP lc s f l (e + 1) = (0, 0, false, e + 1) := by
      unfold PK.numP; rw [if_pos (by omega)]
    have Hnp := Lib.hid hnp
    clear hk hnp
    go_enter Tryz.func81, Tryz.ntmps81
    go_wp2_with fail
    refine HB.out.mono ?_
    rintro v w1 ⟨rfl, b1⟩
    have B1 := Lib.hid b1
    clear b1
    have HF := Lib.hid (fails_yes N l (e + 1) (PK.begP [lc] l) e w1 (H.out.below B1.out) (by simp))
    go_wp2_with fail
    refine HF.out.mono ?_
    rintro v w2 ⟨rfl, r2, f2⟩
    have R2 := Lib.hid r2
    have F2 := Lib.hid f2
    clear r2 f2
    go_wp2
    go_ret3
    rw [Hnp.out]
    exact ⟨by simp [numV], R2.out, (Fr.of_below B1.out).trans F2.out⟩
end Go.Proofs.YtbgockggbpmhnaaGreatDoor
