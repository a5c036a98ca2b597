/-
  pack.Reader: a number of a letter, Uint, and what stands on it.
  Conditions: the listed variables read as listed ('Env').
  pack.Reader: Uint, Int, Bool, Kind.
  Conditions: the listed variables read as listed ('Env').
  pack.Reader's Bool by a contract.
  Conditions: none but the reader's block.
  pack.Reader's run by a contract (Text and Bytes read by it).
  Conditions: the listed variables read as listed ('Env'); what is read is at most 2^47 bytes long.
-/
import Derived.Test.YtflghelhdalhiaaGreatDoorRd2
namespace Go.Proofs.YtflghelhdalhiaaGreatDoor
open Go Go.RowKit

theorem fails_yes (N : Nat) (l : List UInt8) (k j e : Nat) (w : World) (h : Rd w N l k) (he : (if k = 0 then j else k) = e + 1) :
    Calls Tryz.prog 45 #[.pointer (some ⟨N, 0, none⟩), errV j] w fun v w' => v = .returned (.bool true) ∧ Rd w' N l (e + 1) ∧ Fr (fun i => i = N) w w' := by
  refine (fails_any N l k j w h).mono ?_
  rintro v w' ⟨rfl, h1, h2⟩
  rw [he] at h1 ⊢
  exact ⟨by simp, h1, h2⟩
theorem fails_no (N : Nat) (l : List UInt8) (w : World) (h : Rd w N l 0) :
    Calls Tryz.prog 45 #[.pointer (some ⟨N, 0, none⟩), errV 0] w fun v w' => v = .returned (.bool false) ∧ Rd w' N l 0 ∧ Fr (fun i => i = N) w w' := by
  refine (fails_any N l 0 0 w h).mono ?_
  rintro v w' ⟨rfl, h1, h2⟩
  exact ⟨by simp, by simpa using h1, h2⟩

theorem Rd.lenBound {w : World} {N : Nat} {l : List UInt8} {k : Nat} (h : Rd w N l k) : l.length ≤ maxLen := by
  obtain ⟨_, a, c, _, hv⟩ := h; exact hv.len

/-- What number answers. -/
def numV (x : Nat × Nat × Bool × Nat) : Value := .tuple #[.int .u64 x.1, .int .i64 x.2.1, .bool x.2.2.1]

set_option maxHeartbeats 1000000 in
theorem number_any (N f : Nat) (l : List UInt8) (k : Nat) (t : ByteArray) (lc s : UInt8) (sg : Int) (w : World) (hE : Env w) (h : Rd w N l k) (ht : t.data.toList = [lc]) (hsg : sg = (s.toNat : Int)) (hf : l ≠ [] → f ≤ l.length) :
    Calls Tryz.prog 76 #[.pointer (some ⟨N, 0, none⟩), .string t, .int .u8 sg, .int .i64 f] w fun v w' => v = .returned (numV (PK.numP lc s f l k)) ∧ Rd w' N l (PK.numP lc s f l k).2.2.2 ∧ Fr (fun i => i = N) w w' := by
  have ht1 : t.size = 1 := (Array.length_toList (xs := t.data)).symm.trans (by rw [ht]; rfl)
  have HB := Lib.hid (begin_any N l k t w h (by omega))
  rw [ht] at HB
  have HE := Lib.hid hE
  have H := Lib.hid h
  have Hf := Lib.hid hf
  have Hsg := Lib.hid hsg
  have hN := h.glob
  have HN := Lib.hid hN
  clear hE h hf hsg ht ht1 hN
  by_cases hk : k = 0
  · subst hk
    by_cases hb : PK.begP [lc] l = 0
    · have hln : l ≠ [] := by rintro rfl; simp [PK.begP] at hb
      have Hb0 := Lib.hid hb
      rw [hb] at HB
      clear hb
      by_cases hd : (PK.digs s (l.drop f)).2.2 = 0
      · -- a number
        have hdv : digV s f l = .tuple #[.int .u64 (PK.digs s (l.drop f)).1, .int .i64 ((f : Int) + (PK.digs s (l.drop f)).2.1 + 1), errV 0] := by
          unfold digV; rw [hd, if_pos rfl]
        have hnp : PK.numP lc s f l 0 = ((PK.digs s (l.drop f)).1, f + (PK.digs s (l.drop f)).2.1 + 1, true, 0) := by
          unfold PK.numP; rw [if_neg (by simp), if_neg (by simp [Hb0.out]), if_neg (by simp [hd])]
        have Hdv := Lib.hid hdv
        have Hnp := Lib.hid hnp
        have Hln := Lib.hid hln
        clear hd hdv hnp hln Hb0
        generalize (PK.digs s (l.drop f)).1 = n1 at *
        generalize (PK.digs s (l.drop f)).2.1 = n2 at *
        go_enter Tryz.func76, Tryz.ntmps76
        go_wp2_with fail
        refine HB.out.mono ?_
        rintro v w1 ⟨rfl, b1⟩
        have B1 := Lib.hid b1
        clear b1
        have HF := Lib.hid (fails_no N l w1 (H.out.below B1.out))
        go_wp2_with fail
        refine HF.out.mono ?_
        rintro v w2 ⟨rfl, r2, f2⟩
        have R2 := Lib.hid r2
        have F2 := Lib.hid f2
        clear r2 f2
        obtain ⟨_, a, c, hh, hv⟩ := R2.out
        obtain ⟨c0, _, _, _⟩ := cells2 hh
        have HE2 : Hid (Env w2) := (HE.out.below B1.out).rd F2.out HN.out
        have HD := Lib.hid (digits_any a c f l s sg w2 HE2.out hv (Hf.out Hln.out) Hsg.out)
        rw [Hdv.out] at HD
        clear hh hv
        go_wp2_with fail
        refine HD.out.mono ?_
        rintro v w3 ⟨rfl, b3⟩
        have B3 := Lib.hid b3
        clear b3
        have HF2 := Lib.hid (fails_no N l w3 (R2.out.below B3.out))
        go_wp2_with fail
        refine HF2.out.mono ?_
        rintro v w4 ⟨rfl, r4, f4⟩
        have R4 := Lib.hid r4
        have F4 := Lib.hid f4
        clear r4 f4
        go_wp2
        go_ret3
        rw [Hnp.out]
        exact ⟨by simp [numV], R4.out, (((Fr.of_below B1.out).trans F2.out).trans (Fr.of_below B3.out)).trans F4.out⟩
      · -- the digits' error
        obtain ⟨e, he⟩ : ∃ e, (PK.digs s (l.drop f)).2.2 = e + 1 := ⟨(PK.digs s (l.drop f)).2.2 - 1, by omega⟩
        have hdv : digV s f l = .tuple #[.int .u64 (0 : Nat), .int .i64 0, errV (e + 1)] := by
          unfold digV; rw [if_neg hd, (PK.digs_zero s _ hd).1, he]
        have hnp : PK.numP lc s f l 0 = (0, 0, false, e + 1) := by
          unfold PK.numP; rw [if_neg (by simp), if_neg (by simp [Hb0.out]), if_pos hd, he]
        have Hdv := Lib.hid hdv
        have Hnp := Lib.hid hnp
        have Hln := Lib.hid hln
        clear hd hdv hnp hln Hb0 he
        go_enter Tryz.func76, Tryz.ntmps76
        go_wp2_with fail
        refine HB.out.mono ?_
        rintro v w1 ⟨rfl, b1⟩
        have B1 := Lib.hid b1
        clear b1
        have HF := Lib.hid (fails_no N l w1 (H.out.below B1.out))
        go_wp2_with fail
        refine HF.out.mono ?_
        rintro v w2 ⟨rfl, r2, f2⟩
        have R2 := Lib.hid r2
        have F2 := Lib.hid f2
        clear r2 f2
        obtain ⟨_, a, c, hh, hv⟩ := R2.out
        obtain ⟨c0, _, _, _⟩ := cells2 hh
        have HE2 : Hid (Env w2) := (HE.out.below B1.out).rd F2.out HN.out
        have HD := Lib.hid (digits_any a c f l s sg w2 HE2.out hv (Hf.out Hln.out) Hsg.out)
        rw [Hdv.out] at HD
        clear hh hv
        go_wp2_with fail
        refine HD.out.mono ?_
        rintro v w3 ⟨rfl, b3⟩
        have B3 := Lib.hid b3
        clear b3
        have HF2 := Lib.hid (fails_yes N l 0 (e + 1) e w3 (R2.out.below B3.out) (by simp))
        go_wp2_with fail
        refine HF2.out.mono ?_
        rintro v w4 ⟨rfl, r4, f4⟩
        have R4 := Lib.hid r4
        have F4 := Lib.hid f4
        clear r4 f4
        go_wp2
        go_ret3
        rw [Hnp.out]
        exact ⟨by simp [numV], R4.out, (((Fr.of_below B1.out).trans F2.out).trans (Fr.of_below B3.out)).trans F4.out⟩
    · -- another letter, or none
      obtain ⟨e, he⟩ : ∃ e, PK.begP [lc] l = e + 1 := ⟨PK.begP [lc] l - 1, by omega⟩
      have hnp : PK.numP lc s f l 0 = (0, 0, false, e + 1) := by
        unfold PK.numP; rw [if_neg (by simp), if_pos hb, he]
      have Hnp := Lib.hid hnp
      have He := Lib.hid he
      clear hb hnp he
      go_enter Tryz.func76, Tryz.ntmps76
      go_wp2_with fail
      refine HB.out.mono ?_
      rintro v w1 ⟨rfl, b1⟩
      have B1 := Lib.hid b1
      clear b1
      have HF := Lib.hid (fails_yes N l 0 (PK.begP [lc] l) e w1 (H.out.below B1.out) (by simpa using He.out))
      go_wp2_with fail
      refine HF.out.mono ?_
      rintro v w2 ⟨rfl, r2, f2⟩
      have R2 := Lib.hid r2
      have F2 := Lib.hid f2
      clear r2 f2
      go_wp2
      go_ret3
      rw [Hnp.out]
      exact ⟨by simp [numV], R2.out, (Fr.of_below B1.out).trans F2.out⟩
  · -- an error before
    obtain ⟨e, rfl⟩ : ∃ e, k = e + 1 := ⟨k - 1, by omega⟩
    have hnp : PK.numP lc s f l (e + 1) = (0, 0, false, e + 1) := by
      unfold PK.numP; rw [if_pos (by omega)]
    have Hnp := Lib.hid hnp
    clear hk hnp
    go_enter Tryz.func76, Tryz.ntmps76
    go_wp2_with fail
    refine HB.out.mono ?_
    rintro v w1 ⟨rfl, b1⟩
    have B1 := Lib.hid b1
    clear b1
    have HF := Lib.hid (fails_yes N l (e + 1) (PK.begP [lc] l) e w1 (H.out.below B1.out) (by simp))
    go_wp2_with fail
    refine HF.out.mono ?_
    rintro v w2 ⟨rfl, r2, f2⟩
    have R2 := Lib.hid r2
    have F2 := Lib.hid f2
    clear r2 f2
    go_wp2
    go_ret3
    rw [Hnp.out]
    exact ⟨by simp [numV], R2.out, (Fr.of_below B1.out).trans F2.out⟩
end Go.Proofs.YtflghelhdalhiaaGreatDoor

namespace Go.Proofs.YtflghelhdalhiaaGreatDoor
open Go Go.RowKit

/-- What is left from a place on. -/
theorem rest_from {w : World} {a : Option Addr} {c : Nat} {l : List UInt8} (hv : IsB w (.slice a l.length c) l) (e : Nat) (he : e ≤ l.length) :
    (∀ W : World, (Instr.sliceAt 22 (.slice a l.length c) (some (.int .i64 (e : Int))) none none).run Tryz.prog W = .ok (.slice (cutAt a e c) (l.length - e) (c - e)) W) ∧ IsB w (.slice (cutAt a e c) (l.length - e) (c - e)) (l.drop e) := by
  refine ⟨fun W => ?_, ?_⟩
  · have := run_sliceAt_l T22 a l.length c (e : Int) (by omega) (by omega) W
    rw [this, Int.toNat_natCast]
  · have := (isB_cut hv e l.length he (Nat.le_refl _)).1
    rwa [List.take_length] at this

set_option maxHeartbeats 1000000 in
theorem bounded_any (N most : Nat) (l : List UInt8) (k : Nat) (w : World) (hE : Env w) (h : Rd w N l k) :
    Calls Tryz.prog 44 #[.pointer (some ⟨N, 0, none⟩), .int .u64 most] w fun v w' => v = .returned (numV (PK.bndP most l k)) ∧ Rd w' N l (PK.bndP most l k).2.2.2 ∧ Fr (fun i => i = N) w w' := by
  have HC := Lib.hid (number_any N 1 l k ⟨#[110]⟩ 110 59 59 w hE h rfl rfl (fun h => List.length_pos_iff.2 h))
  clear hE h
  rcases PK.numP_cases 110 59 1 l k with ⟨e, he, _⟩ | ⟨h1, h2, h3, h4⟩
  · rw [he] at HC
    have hb : PK.bndP most l k = (0, 0, false, e + 1) := by unfold PK.bndP; rw [if_neg (by rw [he]; simp), he]
    have Hb := Lib.hid hb
    clear hb he
    unfold numV at HC
    go_enter Tryz.func44, Tryz.ntmps44
    go_wp2_with fail
    refine HC.out.mono ?_
    rintro v w1 ⟨rfl, r1, f1⟩
    have R1 := Lib.hid r1
    have F1 := Lib.hid f1
    clear r1 f1
    go_wp2
    go_ret3
    rw [Hb.out]
    exact ⟨by simp [numV], R1.out, F1.out⟩
  · rw [h4] at HC
    generalize hn : (PK.digs 59 (l.drop 1)).1 = n at *
    generalize he : 1 + (PK.digs 59 (l.drop 1)).2.1 + 1 = e at *
    unfold numV at HC
    by_cases hg : most < n
    · have hb : PK.bndP most l k = (0, 0, false, 4) := by unfold PK.bndP; rw [h4, if_pos ⟨rfl, hg⟩]
      have Hb := Lib.hid hb
      clear hb h1 h2 h3 h4 hn he
      go_enter Tryz.func44, Tryz.ntmps44
      go_wp2_with fail
      refine HC.out.mono ?_
      rintro v w1 ⟨rfl, r1, f1⟩
      have R1 := Lib.hid r1
      have F1 := Lib.hid f1
      clear r1 f1
      have HF := Lib.hid (fails_yes N l 0 4 3 w1 R1.out (by simp))
      go_wp2_with fail
      refine HF.out.mono ?_
      rintro v w2 ⟨rfl, r2, f2⟩
      have R2 := Lib.hid r2
      have F2 := Lib.hid f2
      clear r2 f2
      go_wp2
      go_ret3
      rw [Hb.out]
      exact ⟨by simp [numV], R2.out, F1.out.trans F2.out⟩
    · have hb : PK.bndP most l k = (n, e, true, 0) := by unfold PK.bndP; rw [h4, if_neg (by simp; omega)]
      have Hb := Lib.hid hb
      clear hb h1 h2 h3 h4 hn he
      go_enter Tryz.func44, Tryz.ntmps44
      go_wp2_with fail
      refine HC.out.mono ?_
      rintro v w1 ⟨rfl, r1, f1⟩
      have R1 := Lib.hid r1
      have F1 := Lib.hid f1
      clear r1 f1
      go_wp2
      go_ret3
      rw [Hb.out]
      exact ⟨by simp [numV], R1.out, F1.out⟩

set_option maxHeartbeats 1000000 in
/-- Uint. -/
theorem uint_any (N most : Nat) (l : List UInt8) (k : Nat) (w : World) (hE : Env w) (h : Rd w N l k) :
    Calls Tryz.prog 16 #[.pointer (some ⟨N, 0, none⟩), .int .u64 most] w fun v w' => v = .returned (.int .u64 (PK.uintP most l k).1) ∧ Rd w' N (PK.uintP most l k).2.1 (PK.uintP most l k).2.2 ∧ Fr (fun i => i = N) w w' := by
  have HC := Lib.hid (bounded_any N most l k w hE h)
  clear hE h
  rcases PK.numP_cases 110 59 1 l k with ⟨e, he, _⟩ | ⟨h1, h2, h3, h4⟩
  · have hb : PK.bndP most l k = (0, 0, false, e + 1) := by unfold PK.bndP; rw [if_neg (by rw [he]; simp), he]
    have hu : PK.uintP most l k = (0, l, e + 1) := by unfold PK.uintP; rw [if_pos (by rw [he]), he]
    rw [hb] at HC
    have Hu := Lib.hid hu
    clear hb he hu
    unfold numV at HC
    go_enter Tryz.func16, Tryz.ntmps16
    go_wp2_with fail
    refine HC.out.mono ?_
    rintro v w1 ⟨rfl, r1, f1⟩
    have R1 := Lib.hid r1
    have F1 := Lib.hid f1
    clear r1 f1
    go_wp2
    go_ret
    rw [Hu.out]
    exact ⟨by simp, R1.out, F1.out⟩
  · obtain ⟨_, _, b1, b2, _⟩ := PK.numP_ok (lc := 110) (s := 59) (f := 1) (l := l) (k := k) (by rw [h4])
    rw [h4] at b1 b2
    simp only [] at b1 b2
    generalize hn : (PK.digs 59 (l.drop 1)).1 = n at *
    generalize he : 1 + (PK.digs 59 (l.drop 1)).2.1 + 1 = e at *
    by_cases hg : most < n
    · have hb : PK.bndP most l k = (0, 0, false, 4) := by unfold PK.bndP; rw [h4, if_pos ⟨rfl, hg⟩]
      have hu : PK.uintP most l k = (0, l, 4) := by unfold PK.uintP; rw [if_neg (by rw [h4]; simp), if_pos (by rw [h4]; exact hg)]
      rw [hb] at HC
      have Hu := Lib.hid hu
      clear hb h1 h2 h3 h4 hn he hu b1 b2
      unfold numV at HC
      go_enter Tryz.func16, Tryz.ntmps16
      go_wp2_with fail
      refine HC.out.mono ?_
      rintro v w1 ⟨rfl, r1, f1⟩
      have R1 := Lib.hid r1
      have F1 := Lib.hid f1
      clear r1 f1
      go_wp2
      go_ret
      rw [Hu.out]
      exact ⟨by simp, R1.out, F1.out⟩
    · have hb : PK.bndP most l k = (n, e, true, 0) := by unfold PK.bndP; rw [h4, if_neg (by simp; omega)]
      have hu : PK.uintP most l k = (n, l.drop e, 0) := by unfold PK.uintP; rw [if_neg (by rw [h4]; simp), if_neg (by rw [h4]; simpa using hg), h4]
      rw [hb] at HC
      have Hu := Lib.hid hu
      have Hb2 := Lib.hid b2
      clear hb h1 h2 h3 h4 hn he hu b1 b2 hg
      unfold numV at HC
      go_enter Tryz.func16, Tryz.ntmps16
      go_wp2_with fail
      refine HC.out.mono ?_
      rintro v w1 ⟨rfl, r1, f1⟩
      have R1 := Lib.hid r1
      have F1 := Lib.hid f1
      clear r1 f1
      obtain ⟨_, a, c, hh, hv⟩ := R1.out
      obtain ⟨c0, _, z0, _⟩ := cells2 hh
      obtain ⟨hsl, hv2⟩ := rest_from hv e Hb2.out
      have HS := Lib.hid (R1.out.setRest (cutAt a e c) (l.length - e) (c - e) (m := l.drop e) (by simp) hv2)
      clear hh hv hv2
      go_wp2
      go_ret
      rw [Hu.out]
      exact ⟨by simp, HS.out.1, F1.out.trans HS.out.2⟩
end Go.Proofs.YtflghelhdalhiaaGreatDoor

namespace Go.Proofs.YtflghelhdalhiaaGreatDoor
open Go Go.RowKit

end Go.Proofs.YtflghelhdalhiaaGreatDoor

namespace Go.Proofs.YtflghelhdalhiaaGreatDoor
open Go Go.RowKit

/-- What run answers. -/
def RunR (N : Nat) (w w' : World) (v : Ending) (r : List UInt8 × List UInt8 × Nat) : Prop :=
  (∃ a n c, v = .returned (.slice a n c) ∧ r.1.length = n ∧ OwnB w' (.slice a n c) r.1) ∧ Rd w' N r.2.1 r.2.2 ∧ Fr (fun i => i = N) w w'

set_option maxRecDepth 100000 in
set_option maxHeartbeats 2000000 in
/-- run, where a number cannot be read. -/
theorem run_bad (N : Nat) (l : List UInt8) (k e : Nat) (t : ByteArray) (lc : UInt8) (most : Int) (w : World) (hE : Env w) (h : Rd w N l k) (ht : t.data.toList = [lc]) (hk : ¬ (k = 0 ∧ most < 0)) (he : PK.numP lc 58 1 l k = (0, 0, false, e)) :
    Calls Tryz.prog 46 #[.pointer (some ⟨N, 0, none⟩), .string t, .int .i64 most] w fun v w' => RunR N w w' v ([], l, e) := by
  have HC := Lib.hid (number_any N 1 l k t lc 58 58 w hE h ht rfl (fun h => List.length_pos_iff.2 h))
  rw [he] at HC
  unfold numV at HC
  obtain ⟨_, a, c, hh, _⟩ := h
  obtain ⟨p0, p1, _, _⟩ := cells2 hh
  clear hE ht he hh
  rcases Nat.eq_zero_or_pos k with rfl | hk0
  · have hm : 0 ≤ most := by omega
    replace p1 : w.cell? ⟨N, 1, none⟩ = some .nilIface := p1
    have hm1 : ¬ (most < 0) := by omega
    clear hk
    go_enter Tryz.func46, Tryz.ntmps46
    go_wp2_with fail
    refine HC.out.mono ?_
    rintro v w1 ⟨rfl, r1, f1⟩
    have R1 := Lib.hid r1
    have F1 := Lib.hid f1
    clear r1 f1
    go_wp2
    go_ret
    exact ⟨⟨none, 0, 0, rfl, rfl, OwnB.nil _⟩, R1.out, F1.out⟩
  · obtain ⟨j, rfl⟩ : ∃ j, k = j + 1 := ⟨k - 1, by omega⟩
    clear hk hk0
    go_enter Tryz.func46, Tryz.ntmps46
    unfold errV at p1
    go_wp2_with fail
    refine HC.out.mono ?_
    rintro v w1 ⟨rfl, r1, f1⟩
    have R1 := Lib.hid r1
    have F1 := Lib.hid f1
    clear r1 f1
    go_wp2
    go_ret
    exact ⟨⟨none, 0, 0, rfl, rfl, OwnB.nil _⟩, R1.out, F1.out⟩

set_option maxRecDepth 100000 in
set_option maxHeartbeats 2000000 in
/-- run, with a bound below 0. -/
theorem run_neg (N : Nat) (l : List UInt8) (t : ByteArray) (lc : UInt8) (most : Int) (w : World) (hE : Env w) (h : Rd w N l 0) (ht : t.data.toList = [lc]) (hk : most < 0) :
    Calls Tryz.prog 46 #[.pointer (some ⟨N, 0, none⟩), .string t, .int .i64 most] w fun v w' => RunR N w w' v ([], l, 1) := by
  have HF := Lib.hid (fails_yes N l 0 1 0 w h (by simp))
  have HC : Hid (∀ w1, Rd w1 N l 1 → Fr (fun i => i = N) w w1 → Calls Tryz.prog 76 #[.pointer (some ⟨N, 0, none⟩), .string t, .int .u8 58, .int .i64 (1 : Nat)] w1 fun v w' => v = .returned (numV (0, 0, false, 1)) ∧ Rd w' N l 1 ∧ Fr (fun i => i = N) w w') := by
    intro w1 r1 f1
    have := number_any N 1 l 1 t lc 58 58 w1 (hE.rd f1 h.glob) r1 ht rfl (fun h => List.length_pos_iff.2 h)
    rw [show PK.numP lc 58 1 l 1 = (0, 0, false, 1) from by unfold PK.numP; rw [if_pos (by simp)]] at this
    exact this.mono fun e w' hh => ⟨hh.1, hh.2.1, f1.trans hh.2.2⟩
  obtain ⟨_, a, c, hh, _⟩ := h
  obtain ⟨p0, p1, _, _⟩ := cells2 hh
  replace p1 : w.cell? ⟨N, 1, none⟩ = some .nilIface := p1
  unfold numV at HC
  clear hE ht hh
  go_enter Tryz.func46, Tryz.ntmps46
  go_wp2_with fail
  refine HF.out.mono ?_
  rintro v w1 ⟨rfl, r1, f1⟩
  have H1 := Lib.hid (HC.out w1 r1 f1)
  clear HF HC r1 f1 p0 p1
  go_wp2_with fail
  refine H1.out.mono ?_
  rintro v w2 ⟨rfl, r2, f2⟩
  have R2 := Lib.hid r2
  have F2 := Lib.hid f2
  clear r2 f2
  go_wp2
  go_ret
  exact ⟨⟨none, 0, 0, rfl, rfl, OwnB.nil _⟩, R2.out, F2.out⟩

set_option maxRecDepth 100000 in
set_option maxHeartbeats 4000000 in
/-- run, where a number is read. -/
theorem run_ok (N : Nat) (l : List UInt8) (n e : Nat) (t : ByteArray) (lc : UInt8) (most : Int) (w : World) (hE : Env w) (h : Rd w N l 0) (ht : t.data.toList = [lc]) (hm : 0 ≤ most) (hm2 : most ≤ 9223372036854775807) (hn : n < 18446744073709551616) (hel : e ≤ l.length) (hl47 : l.length ≤ roomB)
    (he : PK.numP lc 58 1 l 0 = (n, e, true, 0)) :
    Calls Tryz.prog 46 #[.pointer (some ⟨N, 0, none⟩), .string t, .int .i64 most] w fun v w' => RunR N w w' v
      (if most < (n : Int) then ([], l, 2) else if l.length - e < n then ([], l, 12) else ((l.drop e).take n, l.drop (e + n), 0)) := by
  have HC := Lib.hid (number_any N 1 l 0 t lc 58 58 w hE h ht rfl (fun h => List.length_pos_iff.2 h))
  rw [he] at HC
  unfold numV at HC
  obtain ⟨_, a, c, hh, _⟩ := h
  obtain ⟨p0, p1, _, _⟩ := cells2 hh
  replace p1 : w.cell? ⟨N, 1, none⟩ = some .nilIface := p1
  have hm1 : ¬ (most < 0) := by omega
  have hwm : IntKind.u64.wrap most = most := by rw [IntKind.wrap_u64]; omega
  clear hE ht he hh
  by_cases hg : most < (n : Int)
  · rw [if_pos hg]
    clear hn hel hl47 hm2
    go_enter Tryz.func46, Tryz.ntmps46
    go_wp2_with fail
    refine HC.out.mono ?_
    rintro v w1 ⟨rfl, r1, f1⟩
    have F1 := Lib.hid f1
    have HF := Lib.hid (fails_yes N l 0 2 1 w1 r1 (by simp))
    clear r1 f1 p0 p1 HC
    go_wp2_with fail
    refine HF.out.mono ?_
    rintro v w2 ⟨rfl, r2, f2⟩
    have R2 := Lib.hid r2
    have F2 := Lib.hid f2
    clear r2 f2
    go_wp2
    go_ret
    exact ⟨⟨none, 0, 0, rfl, rfl, OwnB.nil _⟩, R2.out, F1.out.trans F2.out⟩
  · rw [if_neg hg]
    have hw2 : IntKind.i64.wrap ((l.length : Int) - (e : Int)) = (l.length : Int) - e := by simp only [roomB] at hl47; rw [IntKind.wrap_i64]; omega
    have hw3 : IntKind.u64.wrap ((l.length : Int) - (e : Int)) = (l.length : Int) - e := by simp only [roomB] at hl47; rw [IntKind.wrap_u64]; omega
    by_cases hr : l.length - e < n
    · rw [if_pos hr]
      have hr2 : (l.length : Int) - e < n := by omega
      clear hn hel hl47 hm2 hr
      go_enter Tryz.func46, Tryz.ntmps46
      go_wp2_with fail
      refine HC.out.mono ?_
      rintro v w1 ⟨rfl, r1, f1⟩
      have F1 := Lib.hid f1
      have HF := Lib.hid (fails_yes N l 0 12 11 w1 r1 (by simp))
      obtain ⟨_, a1, c1, hh, _⟩ := r1
      obtain ⟨p0, p1, _, _⟩ := cells2 hh
      clear f1 HC hh
      go_wp2_with fail
      refine HF.out.mono ?_
      rintro v w2 ⟨rfl, r2, f2⟩
      have R2 := Lib.hid r2
      have F2 := Lib.hid f2
      clear r2 f2
      go_wp2
      go_ret
      exact ⟨⟨none, 0, 0, rfl, rfl, OwnB.nil _⟩, R2.out, F1.out.trans F2.out⟩
    · rw [if_neg hr]
      have hr2 : ¬ ((l.length : Int) - e < n) := by omega
      have hw4 : IntKind.i64.wrap (n : Int) = n := by simp only [roomB] at hl47; rw [IntKind.wrap_i64]; omega
      have hw5 : IntKind.i64.wrap ((e : Int) + (n : Int)) = (e : Int) + n := by simp only [roomB] at hl47; rw [IntKind.wrap_i64]; omega
      have Hen : Hid (e + n ≤ l.length) := Lib.hid (by omega)
      have Hl := Lib.hid hl47
      clear hn hel hl47 hm2 hr
      go_enter Tryz.func46, Tryz.ntmps46
      go_wp2_with fail
      refine HC.out.mono ?_
      rintro v w1 ⟨rfl, r1, f1⟩
      have F1 := Lib.hid f1
      have R1 := Lib.hid r1
      obtain ⟨_, a1, c1, hh, hv⟩ := r1
      obtain ⟨q0, q1, _, _⟩ := cells2 hh
      have hcut := isB_cut hv e (e + n) (by omega) Hen.out
      have hs1 : ∀ W : World, (Instr.sliceAt 22 (.slice a1 l.length c1) (some (.int .i64 (e : Int))) (some (.int .i64 ((e : Int) + n))) none).run Tryz.prog W = .ok (.slice (cutAt a1 e c1) n (c1 - e)) W := by
        intro W
        have hcl : l.length ≤ c1 := by obtain ⟨_, cap', he', h1, _⟩ := hv; simp at he'; omega
        have hle := Hen.out
        have := run_sliceAt_lh T22 a1 l.length c1 (e : Int) ((e : Int) + n) (by omega) (by omega) (by omega) W
        rw [this]
        congr 2
        · congr 1
          omega
      have HK : Hid (Calls Tryz.prog 70 #[.slice (cutAt a1 e c1) n (c1 - e)] w1 fun e' w' => (∃ a' c', e' = .returned (.slice a' n c') ∧ OwnB w' (.slice a' n c') ((l.drop e).take n) ∧ ∀ b, Value.ownBlock (.slice a' n c') = some b → w1.heap.size ≤ b) ∧ Below w1.heap.size w1 w') := by
        have hlist : (l.take (e + n)).drop e = (l.drop e).take n := by rw [List.drop_take]; congr 1; omega
        have hlen : ((l.drop e).take n).length = n := by have := Hen.out; simp; omega
        have h2 := hcut.1
        rw [hlist, show e + n - e = n from by omega] at h2
        refine (clone_any _ _ w1 h2 (by rw [hlen]; have := Hen.out; have := Hl.out; omega)).mono ?_
        rintro e' w' ⟨⟨a', c', rfl, o, o2⟩, b⟩
        rw [hlen] at o o2 ⊢
        exact ⟨⟨a', c', rfl, o, o2⟩, b⟩
      clear f1 HC hh hv hcut p0 p1
      go_wp2_with fail
      refine HK.out.mono ?_
      rintro v w2 ⟨⟨a2, c2, rfl, o2, ob2⟩, b2⟩
      have R2 := Lib.hid (R1.out.below b2)
      have hN : N < w1.heap.size := R1.out.lt
      obtain ⟨_, a3, c3, hh3, hv3⟩ := R2.out
      obtain ⟨s0, _, z0, _⟩ := cells2 hh3
      obtain ⟨hsl, hv4⟩ := rest_from hv3 (e + n) Hen.out
      rw [show ((e + n : Nat) : Int) = (e : Int) + n from by simp] at hsl
      obtain ⟨R4, F4⟩ := R2.out.setRest (cutAt a3 (e + n) c3) (l.length - (e + n)) (c3 - (e + n)) (by simp) hv4
      have O4 := Lib.hid (o2.kept F4 (fun b hb e' => by have := ob2 b hb; omega))
      have HR4 := Lib.hid R4
      have FF : Hid (Fr (fun i => i = N) w (w2.setCell ⟨N, 0, none⟩ (.slice (cutAt a3 (e + n) c3) (l.length - (e + n)) (c3 - (e + n))))) := F1.out.trans ((Fr.of_below b2).trans F4)
      have HlenN : Hid (((l.drop e).take n).length = n) := Lib.hid (by have := Hen.out; simp; omega)
      clear hh3 hv3 hv4 R4 F4 o2 ob2 b2 hN HK q0 q1 hs1
      go_wp2
      go_ret
      exact ⟨⟨a2, n, c2, rfl, HlenN.out, O4.out⟩, HR4.out, FF.out⟩
end Go.Proofs.YtflghelhdalhiaaGreatDoor
