/-
  pack.Reader: a number of a letter, Uint, and what stands on it.
  Conditions: the listed variables read as listed ('Env').
  pack.Reader: Uint, Int, Bool, Kind.
  The document's answer of layer 1: ReadUint, ReadInt.
  Conditions: what the reader holds reads as bytes.
  pack.Reader's Bool by a contract.
  Conditions: none but the reader's block.
-/
import Derived.Test.YtkanjdijmdjbaaaGreatDoorG9
namespace Go.Proofs.YtkanjdijmdjbaaaGreatDoor
open Go Go.RowKit

theorem fails_yes (N : Nat) (l : List UInt8) (k j e : Nat) (w : World) (h : Rd w N l k) (he : (if k = 0 then j else k) = e + 1) :
    Calls Tryz.prog 55 #[.pointer (some ⟨N, 0, none⟩), errV j] w fun v w' => v = .returned (.bool true) ∧ Rd w' N l (e + 1) ∧ Fr (fun i => i = N) w w' := by
  refine (fails_any N l k j w h).mono ?_
  rintro v w' ⟨rfl, h1, h2⟩
  rw [he] at h1 ⊢
  exact ⟨by simp, h1, h2⟩
theorem fails_no (N : Nat) (l : List UInt8) (w : World) (h : Rd w N l 0) :
    Calls Tryz.prog 55 #[.pointer (some ⟨N, 0, none⟩), errV 0] w fun v w' => v = .returned (.bool false) ∧ Rd w' N l 0 ∧ Fr (fun i => i = N) w w' := by
  refine (fails_any N l 0 0 w h).mono ?_
  rintro v w' ⟨rfl, h1, h2⟩
  exact ⟨by simp, by simpa using h1, h2⟩

theorem Rd.lenBound {w : World} {N : Nat} {l : List UInt8} {k : Nat} (h : Rd w N l k) : l.length ≤ maxLen := by
  obtain ⟨_, a, c, _, hv⟩ := h; exact hv.len

/-- What number answers. -/
def numV (x : Nat × Nat × Bool × Nat) : Value := .tuple #[.int .u64 x.1, .int .i64 x.2.1, .bool x.2.2.1]

set_option maxHeartbeats 1000000 in
theorem number_any (N f : Nat) (l : List UInt8) (k : Nat) (t : ByteArray) (lc s : UInt8) (sg : Int) (w : World) (hE : Env w) (h : Rd w N l k) (ht : t.data.toList = [lc]) (hsg : sg = (s.toNat : Int)) (hf : l ≠ [] → f ≤ l.length) :
    Calls Tryz.prog 101 #[.pointer (some ⟨N, 0, none⟩), .string t, .int .u8 sg, .int .i64 f] w fun v w' => v = .returned (numV (PK.numP lc s f l k)) ∧ Rd w' N l (PK.numP lc s f l k).2.2.2 ∧ Fr (fun i => i = N) w w' := by
  have ht1 : t.size = 1 := (Array.length_toList (xs := t.data)).symm.trans (by rw [ht]; rfl)
  have HB := Lib.hid (begin_any N l k t w h (by omega))
  rw [ht] at HB
  have HE := Lib.hid hE
  have H := Lib.hid h
  have Hf := Lib.hid hf
  have Hsg := Lib.hid hsg
  have hN := h.glob
  have HN := Lib.hid hN
  clear hE h hf hsg ht ht1 hN
  by_cases hk : k = 0
  · subst hk
    by_cases hb : PK.begP [lc] l = 0
    · have hln : l ≠ [] := by rintro rfl; simp [PK.begP] at hb
      have Hb0 := Lib.hid hb
      rw [hb] at HB
      clear hb
      by_cases hd : (PK.digs s (l.drop f)).2.2 = 0
      · -- a number
        have hdv : digV s f l = .tuple #[.int .u64 (PK.digs s (l.drop f)).1, .int .i64 ((f : Int) + (PK.digs s (l.drop f)).2.1 + 1), errV 0] := by
          unfold digV; rw [hd, if_pos rfl]
        have hnp : PK.numP lc s f l 0 = ((PK.digs s (l.drop f)).1, f + (PK.digs s (l.drop f)).2.1 + 1, true, 0) := by
          unfold PK.numP; rw [if_neg (by simp), if_neg (by simp [Hb0.out]), if_neg (by simp [hd])]
        have Hdv := Lib.hid hdv
        have Hnp := Lib.hid hnp
        have Hln := Lib.hid hln
        clear hd hdv hnp hln Hb0
        generalize (PK.digs s (l.drop f)).1 = n1 at *
        generalize (PK.digs s (l.drop f)).2.1 = n2 at *
        go_enter Tryz.func101, Tryz.ntmps101
        go_wp2_with fail
        refine HB.out.mono ?_
        rintro v w1 ⟨rfl, b1⟩
        have B1 := Lib.hid b1
        clear b1
        have HF := Lib.hid (fails_no N l w1 (H.out.below B1.out))
        go_wp2_with fail
        refine HF.out.mono ?_
        rintro v w2 ⟨rfl, r2, f2⟩
        have R2 := Lib.hid r2
        have F2 := Lib.hid f2
        clear r2 f2
        obtain ⟨_, a, c, hh, hv⟩ := R2.out
        obtain ⟨c0, _, _, _⟩ := cells2 hh
        have HE2 : Hid (Env w2) := (HE.out.below B1.out).rd F2.out HN.out
        have HD := Lib.hid (digits_any a c f l s sg w2 HE2.out hv (Hf.out Hln.out) Hsg.out)
        rw [Hdv.out] at HD
        clear hh hv
        go_wp2_with fail
        refine HD.out.mono ?_
        rintro v w3 ⟨rfl, b3⟩
        have B3 := Lib.hid b3
        clear b3
        have HF2 := Lib.hid (fails_no N l w3 (R2.out.below B3.out))
        go_wp2_with fail
        refine HF2.out.mono ?_
        rintro v w4 ⟨rfl, r4, f4⟩
        have R4 := Lib.hid r4
        have F4 := Lib.hid f4
        clear r4 f4
        go_wp2
        go_ret3
        rw [Hnp.out]
        exact ⟨by simp [numV], R4.out, (((Fr.of_below B1.out).trans F2.out).trans (Fr.of_below B3.out)).trans F4.out⟩
      · -- the digits' error
        obtain ⟨e, he⟩ : ∃ e, (PK.digs s (l.drop f)).2.2 = e + 1 := ⟨(PK.digs s (l.drop f)).2.2 - 1, by omega⟩
        have hdv : digV s f l = .tuple #[.int .u64 (0 : Nat), .int .i64 0, errV (e + 1)] := by
          unfold digV; rw [if_neg hd, (PK.digs_zero s _ hd).1, he]
        have hnp : PK.numP lc s f l 0 = (0, 0, false, e + 1) := by
          unfold PK.numP; rw [if_neg (by simp), if_neg (by simp [Hb0.out]), if_pos hd, he]
        have Hdv := Lib.hid hdv
        have Hnp := Lib.hid hnp
        have Hln := Lib.hid hln
        clear hd hdv hnp hln Hb0 he
        go_enter Tryz.func101, Tryz.ntmps101
        go_wp2_with fail
        refine HB.out.mono ?_
        rintro v w1 ⟨rfl, b1⟩
        have B1 := Lib.hid b1
        clear b1
        have HF := Lib.hid (fails_no N l w1 (H.out.below B1.out))
        go_wp2_with fail
        refine HF.out.mono ?_
        rintro v w2 ⟨rfl, r2, f2⟩
        have R2 := Lib.hid r2
        have F2 := Lib.hid f2
        clear r2 f2
        obtain ⟨_, a, c, hh, hv⟩ := R2.out
        obtain ⟨c0, _, _, _⟩ := cells2 hh
        have HE2 : Hid (Env w2) := (HE.out.below B1.out).rd F2.out HN.out
        have HD := Lib.hid (digits_any a c f l s sg w2 HE2.out hv (Hf.out Hln.out) Hsg.out)
        rw [Hdv.out] at HD
        clear hh hv
        go_wp2_with fail
        refine HD.out.mono ?_
        rintro v w3 ⟨rfl, b3⟩
        have B3 := Lib.hid b3
        clear b3
        have HF2 := Lib.hid (fails_yes N l 0 (e + 1) e w3 (R2.out.below B3.out) (by simp))
        go_wp2_with fail
        refine HF2.out.mono ?_
        rintro v w4 ⟨rfl, r4, f4⟩
        have R4 := Lib.hid r4
        have F4 := Lib.hid f4
        clear r4 f4
        go_wp2
        go_ret3
        rw [Hnp.out]
        exact ⟨by simp [numV], R4.out, (((Fr.of_below B1.out).trans F2.out).trans (Fr.of_below B3.out)).trans F4.out⟩
    · -- another letter, or none
      obtain ⟨e, he⟩ : ∃ e, PK.begP [lc] l = e + 1 := ⟨PK.begP [lc] l - 1, by omega⟩
      have hnp : PK.numP lc s f l 0 = (0, 0, false, e + 1) := by
        unfold PK.numP; rw [if_neg (by simp), if_pos hb, he]
      have Hnp := Lib.hid hnp
      have He := Lib.hid he
      clear hb hnp he
      go_enter Tryz.func101, Tryz.ntmps101
      go_wp2_with fail
      refine HB.out.mono ?_
      rintro v w1 ⟨rfl, b1⟩
      have B1 := Lib.hid b1
      clear b1
      have HF := Lib.hid (fails_yes N l 0 (PK.begP [lc] l) e w1 (H.out.below B1.out) (by simpa using He.out))
      go_wp2_with fail
      refine HF.out.mono ?_
      rintro v w2 ⟨rfl, r2, f2⟩
      have R2 := Lib.hid r2
      have F2 := Lib.hid f2
      clear r2 f2
      go_wp2
      go_ret3
      rw [Hnp.out]
      exact ⟨by simp [numV], R2.out, (Fr.of_below B1.out).trans F2.out⟩
  · -- an error before
    obtain ⟨e, rfl⟩ : ∃ e, k = e + 1 := ⟨k - 1, by omega⟩
    have hnp : PK.numP lc s f l (e + 1) = (0, 0, false, e + 1) := by
      unfold PK.numP; rw [if_pos (by omega)]
    have Hnp := Lib.hid hnp
    clear hk hnp
    go_enter Tryz.func101, Tryz.ntmps101
    go_wp2_with fail
    refine HB.out.mono ?_
    rintro v w1 ⟨rfl, b1⟩
    have B1 := Lib.hid b1
    clear b1
    have HF := Lib.hid (fails_yes N l (e + 1) (PK.begP [lc] l) e w1 (H.out.below B1.out) (by simp))
    go_wp2_with fail
    refine HF.out.mono ?_
    rintro v w2 ⟨rfl, r2, f2⟩
    have R2 := Lib.hid r2
    have F2 := Lib.hid f2
    clear r2 f2
    go_wp2
    go_ret3
    rw [Hnp.out]
    exact ⟨by simp [numV], R2.out, (Fr.of_below B1.out).trans F2.out⟩
/-- What is left from a place on. -/
theorem rest_from {w : World} {a : Option Addr} {c : Nat} {l : List UInt8} (hv : IsB w (.slice a l.length c) l) (e : Nat) (he : e ≤ l.length) :
    (∀ W : World, (Instr.sliceAt 22 (.slice a l.length c) (some (.int .i64 (e : Int))) none none).run Tryz.prog W = .ok (.slice (cutAt a e c) (l.length - e) (c - e)) W) ∧ IsB w (.slice (cutAt a e c) (l.length - e) (c - e)) (l.drop e) := by
  refine ⟨fun W => ?_, ?_⟩
  · have := run_sliceAt_l T22 a l.length c (e : Int) (by omega) (by omega) W
    rw [this, Int.toNat_natCast]
  · have := (isB_cut hv e l.length he (Nat.le_refl _)).1
    rwa [List.take_length] at this

set_option maxHeartbeats 1000000 in
theorem bounded_any (N most : Nat) (l : List UInt8) (k : Nat) (w : World) (hE : Env w) (h : Rd w N l k) :
    Calls Tryz.prog 54 #[.pointer (some ⟨N, 0, none⟩), .int .u64 most] w fun v w' => v = .returned (numV (PK.bndP most l k)) ∧ Rd w' N l (PK.bndP most l k).2.2.2 ∧ Fr (fun i => i = N) w w' := by
  have HC := Lib.hid (number_any N 1 l k ⟨#[110]⟩ 110 59 59 w hE h rfl rfl (fun h => List.length_pos_iff.2 h))
  clear hE h
  rcases PK.numP_cases 110 59 1 l k with ⟨e, he, _⟩ | ⟨h1, h2, h3, h4⟩
  · rw [he] at HC
    have hb : PK.bndP most l k = (0, 0, false, e + 1) := by unfold PK.bndP; rw [if_neg (by rw [he]; simp), he]
    have Hb := Lib.hid hb
    clear hb he
    unfold numV at HC
    go_enter Tryz.func54, Tryz.ntmps54
    go_wp2_with fail
    refine HC.out.mono ?_
    rintro v w1 ⟨rfl, r1, f1⟩
    have R1 := Lib.hid r1
    have F1 := Lib.hid f1
    clear r1 f1
    go_wp2
    go_ret3
    rw [Hb.out]
    exact ⟨by simp [numV], R1.out, F1.out⟩
  · rw [h4] at HC
    generalize hn : (PK.digs 59 (l.drop 1)).1 = n at *
    generalize he : 1 + (PK.digs 59 (l.drop 1)).2.1 + 1 = e at *
    unfold numV at HC
    by_cases hg : most < n
    · have hb : PK.bndP most l k = (0, 0, false, 4) := by unfold PK.bndP; rw [h4, if_pos ⟨rfl, hg⟩]
      have Hb := Lib.hid hb
      clear hb h1 h2 h3 h4 hn he
      go_enter Tryz.func54, Tryz.ntmps54
      go_wp2_with fail
      refine HC.out.mono ?_
      rintro v w1 ⟨rfl, r1, f1⟩
      have R1 := Lib.hid r1
      have F1 := Lib.hid f1
      clear r1 f1
      have HF := Lib.hid (fails_yes N l 0 4 3 w1 R1.out (by simp))
      go_wp2_with fail
      refine HF.out.mono ?_
      rintro v w2 ⟨rfl, r2, f2⟩
      have R2 := Lib.hid r2
      have F2 := Lib.hid f2
      clear r2 f2
      go_wp2
      go_ret3
      rw [Hb.out]
      exact ⟨by simp [numV], R2.out, F1.out.trans F2.out⟩
    · have hb : PK.bndP most l k = (n, e, true, 0) := by unfold PK.bndP; rw [h4, if_neg (by simp; omega)]
      have Hb := Lib.hid hb
      clear hb h1 h2 h3 h4 hn he
      go_enter Tryz.func54, Tryz.ntmps54
      go_wp2_with fail
      refine HC.out.mono ?_
      rintro v w1 ⟨rfl, r1, f1⟩
      have R1 := Lib.hid r1
      have F1 := Lib.hid f1
      clear r1 f1
      go_wp2
      go_ret3
      rw [Hb.out]
      exact ⟨by simp [numV], R1.out, F1.out⟩

set_option maxHeartbeats 1000000 in
/-- Uint. -/
theorem uint_any (N most : Nat) (l : List UInt8) (k : Nat) (w : World) (hE : Env w) (h : Rd w N l k) :
    Calls Tryz.prog 19 #[.pointer (some ⟨N, 0, none⟩), .int .u64 most] w fun v w' => v = .returned (.int .u64 (PK.uintP most l k).1) ∧ Rd w' N (PK.uintP most l k).2.1 (PK.uintP most l k).2.2 ∧ Fr (fun i => i = N) w w' := by
  have HC := Lib.hid (bounded_any N most l k w hE h)
  clear hE h
  rcases PK.numP_cases 110 59 1 l k with ⟨e, he, _⟩ | ⟨h1, h2, h3, h4⟩
  · have hb : PK.bndP most l k = (0, 0, false, e + 1) := by unfold PK.bndP; rw [if_neg (by rw [he]; simp), he]
    have hu : PK.uintP most l k = (0, l, e + 1) := by unfold PK.uintP; rw [if_pos (by rw [he]), he]
    rw [hb] at HC
    have Hu := Lib.hid hu
    clear hb he hu
    unfold numV at HC
    go_enter Tryz.func19, Tryz.ntmps19
    go_wp2_with fail
    refine HC.out.mono ?_
    rintro v w1 ⟨rfl, r1, f1⟩
    have R1 := Lib.hid r1
    have F1 := Lib.hid f1
    clear r1 f1
    go_wp2
    go_ret
    rw [Hu.out]
    exact ⟨by simp, R1.out, F1.out⟩
  · obtain ⟨_, _, b1, b2, _⟩ := PK.numP_ok (lc := 110) (s := 59) (f := 1) (l := l) (k := k) (by rw [h4])
    rw [h4] at b1 b2
    simp only [] at b1 b2
    generalize hn : (PK.digs 59 (l.drop 1)).1 = n at *
    generalize he : 1 + (PK.digs 59 (l.drop 1)).2.1 + 1 = e at *
    by_cases hg : most < n
    · have hb : PK.bndP most l k = (0, 0, false, 4) := by unfold PK.bndP; rw [h4, if_pos ⟨rfl, hg⟩]
      have hu : PK.uintP most l k = (0, l, 4) := by unfold PK.uintP; rw [if_neg (by rw [h4]; simp), if_pos (by rw [h4]; exact hg)]
      rw [hb] at HC
      have Hu := Lib.hid hu
      clear hb h1 h2 h3 h4 hn he hu b1 b2
      unfold numV at HC
      go_enter Tryz.func19, Tryz.ntmps19
      go_wp2_with fail
      refine HC.out.mono ?_
      rintro v w1 ⟨rfl, r1, f1⟩
      have R1 := Lib.hid r1
      have F1 := Lib.hid f1
      clear r1 f1
      go_wp2
      go_ret
      rw [Hu.out]
      exact ⟨by simp, R1.out, F1.out⟩
    · have hb : PK.bndP most l k = (n, e, true, 0) := by unfold PK.bndP; rw [h4, if_neg (by simp; omega)]
      have hu : PK.uintP most l k = (n, l.drop e, 0) := by unfold PK.uintP; rw [if_neg (by rw [h4]; simp), if_neg (by rw [h4]; simpa using hg), h4]
      rw [hb] at HC
      have Hu := Lib.hid hu
      have Hb2 := Lib.hid b2
      clear hb h1 h2 h3 h4 hn he hu b1 b2 hg
      unfold numV at HC
      go_enter Tryz.func19, Tryz.ntmps19
      go_wp2_with fail
      refine HC.out.mono ?_
      rintro v w1 ⟨rfl, r1, f1⟩
      have R1 := Lib.hid r1
      have F1 := Lib.hid f1
      clear r1 f1
      obtain ⟨_, a, c, hh, hv⟩ := R1.out
      obtain ⟨c0, _, z0, _⟩ := cells2 hh
      obtain ⟨hsl, hv2⟩ := rest_from hv e Hb2.out
      have HS := Lib.hid (R1.out.setRest (cutAt a e c) (l.length - e) (c - e) (m := l.drop e) (by simp) hv2)
      clear hh hv hv2
      go_wp2
      go_ret
      rw [Hu.out]
      exact ⟨by simp, HS.out.1, F1.out.trans HS.out.2⟩
theorem numP_head {lc s : UInt8} {f : Nat} {l : List UInt8} {k : Nat} (h : headP lc l k ≠ 0) : PK.numP lc s f l k = (0, 0, false, headP lc l k) := by
  unfold headP at h ⊢
  unfold PK.numP
  by_cases hk : k = 0
  · rw [if_pos hk] at h ⊢
    rw [if_neg (by omega), if_pos h]
  · rw [if_neg hk, if_pos hk]
theorem headP_zero {lc : UInt8} {l : List UInt8} {k : Nat} (h : headP lc l k = 0) : k = 0 ∧ PK.begP [lc] l = 0 ∧ l ≠ [] := by
  unfold headP at h
  by_cases hk : k = 0
  · rw [if_pos hk] at h
    exact ⟨hk, h, by rintro rfl; simp [PK.begP] at h⟩
  · rw [if_neg hk] at h; exact absurd h hk
/-- Stores into a block of the call's own, behind what it made. -/
theorem two_stores {w w1 : World} {M : Nat} (b : Below w.heap.size w w1) (hM : w.heap.size ≤ M) (x y : Value) : Below w.heap.size w ((w1.setCell ⟨M, 0, none⟩ x).setCell ⟨M, 1, none⟩ y) := (b.setCell hM _).setCell hM _
theorem stored2_other {w : World} {M K : Nat} (x y : Value) (h : K ≠ M) : ((w.setCell ⟨M, 0, none⟩ x).setCell ⟨M, 1, none⟩ y).heap[K]? = w.heap[K]? := by
  rw [Below.heap_setCell _ _ _ _ h, Below.heap_setCell _ _ _ _ h]
theorem stored1 {w : World} {M : Nat} {x0 y0 : Value} {t : TypeId} (h : w.heap[M]? = some (.cells #[x0, y0] t)) (x : Value) : (w.setCell ⟨M, 0, none⟩ x).heap[M]? = some (.cells #[x, y0] t) := by
  simp only [World.setCell, Array.getElem?_modify, if_true, h, Option.map_some]
  simp

set_option maxRecDepth 100000 in
set_option maxHeartbeats 2000000 in
/-- ReadUint. -/
theorem rreadUint_any (a : Option Addr) (c k most : Nat) (l : List UInt8) (w : World) (hv : IsB w (.slice a l.length c) l) :
    Calls Tryz.prog 25 #[.agg #[.slice a l.length c, .int .i64 k], .int .u64 most] w fun v w' =>
      (∃ a' c', v = .returned (.tuple #[.agg #[.slice a' (PK.uintP most l k).2.1.length c', .int .i64 (PK.uintP most l k).2.2], .int .u64 (PK.uintP most l k).1]) ∧ IsB w' (.slice a' (PK.uintP most l k).2.1.length c') (PK.uintP most l k).2.1) ∧ Below w.heap.size w w' := by
  have Hv := Lib.hid hv
  have HH := Lib.hid (fun W (h : IsB W (.slice a l.length c) l) => head_any a c k l 110 110 W h rfl)
  clear hv
  by_cases hh : headP 110 l k = 0
  · obtain ⟨rfl, hb0, hln⟩ := headP_zero hh
    rw [hh] at HH
    have Hlp : Hid (1 ≤ l.length) := List.length_pos_iff.2 hln
    have hcase := PK.numP_cases 110 59 1 l 0
    have Hcase := Lib.hid hcase
    have Hb0 := Lib.hid hb0
    clear hh hb0 hln hcase
    go_enter Tryz.func25, Tryz.ntmps25
    go_wp2_with fail
    refine (HH.out _ ((Hv.out.alloc _).alloc _)).mono ?_
    rintro v w1 ⟨rfl, b1⟩
    obtain ⟨g1, g2, bb⟩ := own2 b1
    obtain ⟨d0, d1, z0, z1⟩ := cells2 g1
    have H1 := Lib.hid (stored2 g1 (.slice a l.length c) (.int .i64 0))
    have H2 := Lib.hid ((stored2_other (w := w1) (M := w.heap.size) (.slice a l.length c) (.int .i64 0) (K := w.heap.size + 1) (by omega)).trans g2)
    have BB2 := Lib.hid (two_stores bb (Nat.le_refl _) (.slice a l.length c) (.int .i64 0))
    clear b1 g1 g2 bb HH
    go_wp2_with fail
    generalize (w1.setCell ⟨w.heap.size, 0, none⟩ (.slice a l.length c)).setCell ⟨w.heap.size, 1, none⟩ (.int .i64 0) = W2 at *
    clear d0 d1 z0 z1
    have HD := Lib.hid (rdigits_any a c 1 l 59 59 W2 (Hv.out.below BB2.out) Hlp.out rfl)
    obtain ⟨d0, d1, z0, z1⟩ := cells2 H1.out
    by_cases hd : (PK.digs 59 (l.drop 1)).2.2 = 0
    · have hnp : PK.numP 110 59 1 l 0 = ((PK.digs 59 (l.drop 1)).1, 1 + (PK.digs 59 (l.drop 1)).2.1 + 1, true, 0) := by
        rcases Hcase.out with ⟨e, he, _⟩ | ⟨_, _, _, h4⟩
        · exfalso
          unfold PK.numP at he
          rw [if_neg (by simp), if_neg (fun q => q Hb0.out), if_neg (fun q => q hd)] at he
          simp at he
        · exact h4
      obtain ⟨_, _, b1, b2, _⟩ := PK.numP_ok (lc := 110) (s := 59) (f := 1) (l := l) (k := 0) (by rw [hnp])
      rw [hnp] at b1 b2
      simp only [] at b1 b2
      have hdv : rdigV 59 1 l = .tuple #[.int .u64 (PK.digs 59 (l.drop 1)).1, .int .i64 ((1 + (PK.digs 59 (l.drop 1)).2.1 + 1 : Nat) : Int), .int .i64 0] := by
        unfold rdigV; rw [hd, if_pos rfl]; simp
      rw [hdv] at HD
      have Hnp := Lib.hid hnp
      clear hd hnp hdv Hcase Hb0
      generalize (PK.digs 59 (l.drop 1)).1 = n at *
      generalize 1 + (PK.digs 59 (l.drop 1)).2.1 + 1 = e at *
      refine HD.out.mono ?_
      rintro v w2 ⟨rfl, rfl⟩
      by_cases hg : most < n
      · have hu : PK.uintP most l 0 = (0, l, 4) := by unfold PK.uintP; rw [Hnp.out]; simp [hg]
        have Hu := Lib.hid hu
        clear hu HD Hnp b1 b2
        have HF := Lib.hid (fun W => fail_any a l.length c 0 4 W)
        simp only [if_true] at HF
        go_wp2_with fail
        refine (HF.out _).mono ?_
        rintro v w3 ⟨rfl, b3⟩
        have g3 := (b3.block (w.heap.size + 1) (Array.getElem?_eq_some_iff.1 H2.out).1).trans H2.out
        obtain ⟨p0, p1, q0, q1⟩ := cells2 g3
        have h3 := stored2 g3 (.slice a l.length c) (.int .i64 (4 : Nat))
        obtain ⟨e0, e1, _, _⟩ := cells2 h3
        have E0 := Lib.hid e0
        have E1 := Lib.hid e1
        have BB := Lib.hid (two_stores (BB2.out.trans (b3.mono BB2.out.size)) (M := w.heap.size + 1) (by omega) (.slice a l.length c) (.int .i64 (4 : Nat)))
        clear b3 g3 h3 e0 e1 HF d0 d1 z0 z1
        go_wp2
        generalize ((w3.setCell ⟨w.heap.size + 1, 0, none⟩ (.slice a l.length c)).setCell ⟨w.heap.size + 1, 1, none⟩ (.int .i64 4)) = W at *
        refine bodyPost_ret (v := .tuple #[.agg #[.slice a l.length c, .int .i64 (4 : Nat)], .int .u64 0]) (by simp [results, Tryz.results25, go_sem, E0.out, E1.out]) rfl ?_
        rw [Hu.out]
        exact ⟨⟨a, c, rfl, Hv.out.below BB.out⟩, BB.out⟩
      · have hu : PK.uintP most l 0 = (n, l.drop e, 0) := by unfold PK.uintP; rw [Hnp.out]; simp [hg]
        have Hu := Lib.hid hu
        obtain ⟨hsl, hv4⟩ := rest_from (Hv.out.below BB2.out) e b2
        have HV4 := Lib.hid hv4
        have h1 := stored1 H1.out (.slice (cutAt a e c) (l.length - e) (c - e))
        have h2 : (W2.setCell ⟨w.heap.size, 0, none⟩ (.slice (cutAt a e c) (l.length - e) (c - e))).heap[w.heap.size + 1]? = some (.cells #[.slice none 0 0, .int .i64 0] 80) := (Below.heap_setCell _ _ _ _ (by simp)).trans H2.out
        obtain ⟨p0, p1, q0, q1⟩ := cells2 H2.out
        have h3 := stored2 h2 (.slice (cutAt a e c) (l.length - e) (c - e)) (.int .i64 0)
        obtain ⟨e0, e1, _, _⟩ := cells2 h3
        obtain ⟨x0, _, _, _⟩ := cells2 h1
        have E0 := Lib.hid e0
        have E1 := Lib.hid e1
        have B4 := Lib.hid (two_stores (BB2.out.setCell (p := ⟨w.heap.size, 0, none⟩) (Nat.le_refl _) (.slice (cutAt a e c) (l.length - e) (c - e))) (M := w.heap.size + 1) (by omega) (.slice (cutAt a e c) (l.length - e) (c - e)) (.int .i64 0))
        have HV5 : Hid (IsB (((W2.setCell ⟨w.heap.size, 0, none⟩ (.slice (cutAt a e c) (l.length - e) (c - e))).setCell ⟨w.heap.size + 1, 0, none⟩ (.slice (cutAt a e c) (l.length - e) (c - e))).setCell ⟨w.heap.size + 1, 1, none⟩ (.int .i64 0)) (.slice (cutAt a e c) (l.length - e) (c - e)) (l.drop e)) :=
          (rest_from Hv.out e b2).2.below B4.out
        have hg2 : n ≤ most := by omega
        clear hu HD Hnp hv4 h1 h2 h3 e0 e1 hg
        go_wp2
        generalize ((W2.setCell ⟨w.heap.size, 0, none⟩ (.slice (cutAt a e c) (l.length - e) (c - e))).setCell ⟨w.heap.size + 1, 0, none⟩ (.slice (cutAt a e c) (l.length - e) (c - e))).setCell ⟨w.heap.size + 1, 1, none⟩ (.int .i64 0) = W at *
        refine bodyPost_ret (v := .tuple #[.agg #[.slice (cutAt a e c) (l.length - e) (c - e), .int .i64 0], .int .u64 n]) (by simp [results, Tryz.results25, go_sem, E0.out, E1.out]) rfl ?_
        rw [Hu.out]
        exact ⟨⟨cutAt a e c, c - e, by simp, by simpa using HV5.out⟩, B4.out⟩
    · obtain ⟨e, he⟩ : ∃ e, (PK.digs 59 (l.drop 1)).2.2 = e := ⟨_, rfl⟩
      have he0 : ((e : Int) == 0) = false := by simp; omega
      have he1 : ((e : Int) != 0) = true := by simp; omega
      have hnp : PK.numP 110 59 1 l 0 = (0, 0, false, e) := by
        unfold PK.numP
        rw [if_neg (by simp), if_neg (by simp [Hb0.out]), if_pos hd, he]
      have hdv : rdigV 59 1 l = .tuple #[.int .u64 (0 : Nat), .int .i64 0, .int .i64 e] := by
        unfold rdigV; rw [if_neg hd, (PK.digs_zero 59 _ hd).1, he]
      rw [hdv] at HD
      have hu : PK.uintP most l 0 = (0, l, e) := by unfold PK.uintP; rw [hnp]; simp
      have Hu := Lib.hid hu
      clear hd hnp hdv Hcase Hb0 he hu
      refine HD.out.mono ?_
      rintro v w2 ⟨rfl, rfl⟩
      clear HD
      have HF := Lib.hid (fun W => fail_any a l.length c 0 e W)
      simp only [if_true] at HF
      go_wp2_with fail
      refine (HF.out _).mono ?_
      rintro v w3 ⟨rfl, b3⟩
      have g3 := (b3.block (w.heap.size + 1) (Array.getElem?_eq_some_iff.1 H2.out).1).trans H2.out
      obtain ⟨p0, p1, q0, q1⟩ := cells2 g3
      have h3 := stored2 g3 (.slice a l.length c) (.int .i64 (e : Nat))
      obtain ⟨e0, e1, _, _⟩ := cells2 h3
      have E0 := Lib.hid e0
      have E1 := Lib.hid e1
      have BB := Lib.hid (two_stores (BB2.out.trans (b3.mono BB2.out.size)) (M := w.heap.size + 1) (by omega) (.slice a l.length c) (.int .i64 (e : Nat)))
      clear b3 g3 h3 e0 e1 HF d0 d1 z0 z1
      go_wp2
      generalize ((w3.setCell ⟨w.heap.size + 1, 0, none⟩ (.slice a l.length c)).setCell ⟨w.heap.size + 1, 1, none⟩ (.int .i64 (e : Nat))) = W at *
      refine bodyPost_ret (v := .tuple #[.agg #[.slice a l.length c, .int .i64 (e : Nat)], .int .u64 0]) (by simp [results, Tryz.results25, go_sem, E0.out, E1.out]) rfl ?_
      rw [Hu.out]
      exact ⟨⟨a, c, rfl, Hv.out.below BB.out⟩, BB.out⟩
  · have hh1 : ((headP 110 l k : Int) != 0) = true := by simp; omega
    have hu : PK.uintP most l k = (0, l, headP 110 l k) := by
      unfold PK.uintP
      rw [numP_head hh]
      simp
    have Hu := Lib.hid hu
    clear hu hh
    generalize headP 110 l k = j at *
    go_enter Tryz.func25, Tryz.ntmps25
    go_wp2_with fail
    refine (HH.out _ ((Hv.out.alloc _).alloc _)).mono ?_
    rintro v w1 ⟨rfl, b1⟩
    obtain ⟨g1, g2, bb⟩ := own2 b1
    obtain ⟨d0, d1, z0, z1⟩ := cells2 g1
    obtain ⟨p0, p1, q0, q1⟩ := cells2 g2
    have h1 := stored2 g1 (.slice a l.length c) (.int .i64 j)
    have h2 := (stored2_other (w := w1) (M := w.heap.size) (.slice a l.length c) (.int .i64 j) (K := w.heap.size + 1) (by omega)).trans g2
    have h3 := stored2 h2 (.slice a l.length c) (.int .i64 j)
    obtain ⟨e0, e1, _, _⟩ := cells2 h3
    have E0 := Lib.hid e0
    have E1 := Lib.hid e1
    have BB := Lib.hid (two_stores (two_stores bb (Nat.le_refl _) (.slice a l.length c) (.int .i64 j)) (M := w.heap.size + 1) (by omega) (.slice a l.length c) (.int .i64 j))
    clear b1 g1 g2 bb HH h1 h2 h3 e0 e1
    go_wp2
    generalize ((((w1.setCell ⟨w.heap.size, 0, none⟩ (.slice a l.length c)).setCell ⟨w.heap.size, 1, none⟩ (.int .i64 j)).setCell ⟨w.heap.size + 1, 0, none⟩ (.slice a l.length c)).setCell ⟨w.heap.size + 1, 1, none⟩ (.int .i64 j)) = W at *
    refine bodyPost_ret (v := .tuple #[.agg #[.slice a l.length c, .int .i64 j], .int .u64 0]) (by simp [results, Tryz.results25, go_sem, E0.out, E1.out]) rfl ?_
    rw [Hu.out]
    exact ⟨⟨a, c, rfl, Hv.out.below BB.out⟩, BB.out⟩
end Go.Proofs.YtkanjdijmdjbaaaGreatDoor
