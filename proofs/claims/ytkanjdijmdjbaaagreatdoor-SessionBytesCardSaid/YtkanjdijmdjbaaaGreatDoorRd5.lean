/-
  pack.Reader: Int.
  Conditions: the listed variables read as listed ('Env').
-/
import Derived.Test.YtkanjdijmdjbaaaGreatDoorG10
import Derived.Test.YtkanjdijmdjbaaaGreatDoorG5
namespace Go.Proofs.YtkanjdijmdjbaaaGreatDoor
open Go Go.RowKit

theorem fromP_cases (l : List UInt8) : (PK.fromP l = 2 ∧ 1 < l.length ∧ at8 l 1 = 45 ∧ l[1]? = some 45) ∨ (PK.fromP l = 1 ∧ (1 < l.length → at8 l 1 ≠ 45)) := by
  unfold PK.fromP
  by_cases h : l[1]? = some 45
  · rw [if_pos h]
    obtain ⟨h1, h2⟩ := List.getElem?_eq_some_iff.1 h
    exact .inl ⟨rfl, h1, by rw [at8_get l 1 h1, h2]; rfl, h⟩
  · rw [if_neg h]
    refine .inr ⟨rfl, fun h1 h2 => h ?_⟩
    rw [at8_get l 1 h1] at h2
    rw [List.getElem?_eq_getElem h1, show l[1] = (45 : UInt8) from at8_inj (by rw [h2]; rfl)]

/-- Behind the letter: from where the digits begin. -/
def intTail (f : Nat) (l : List UInt8) : Int × List UInt8 × Nat :=
  if (PK.numP 105 59 f l 0).2.2.1 = false then (0, l, (PK.numP 105 59 f l 0).2.2.2) else
  if f = 2 then
    if (PK.numP 105 59 f l 0).1 = 0 then (0, l, 3) else
    if 9223372036854775808 < (PK.numP 105 59 f l 0).1 then (0, l, 4) else (-((PK.numP 105 59 f l 0).1 : Int), l.drop (PK.numP 105 59 f l 0).2.1, 0)
  else
    if 9223372036854775807 < (PK.numP 105 59 f l 0).1 then (0, l, 4) else (((PK.numP 105 59 f l 0).1 : Int), l.drop (PK.numP 105 59 f l 0).2.1, 0)

set_option maxHeartbeats 4000000 in
set_option maxRecDepth 100000 in
/-- Int. -/
theorem int_any (N : Nat) (l : List UInt8) (k : Nat) (w : World) (hE : Env w) (h : Rd w N l k) :
    Calls Tryz.prog 56 #[.pointer (some ⟨N, 0, none⟩)] w fun v w' => v = .returned (.int .i64 (PK.intP l k).1) ∧ Rd w' N (PK.intP l k).2.1 (PK.intP l k).2.2 ∧ Fr (fun i => i = N) w w' := by
  have HB := Lib.hid (begin_any N l k ⟨#[105]⟩ w h (by decide))
  have HE := Lib.hid hE
  have H := Lib.hid h
  have HN := Lib.hid h.glob
  have hbe : (⟨#[105]⟩ : ByteArray).data.toList = [105] := rfl
  rw [hbe] at HB
  clear hE h hbe
  by_cases hy : k ≠ 0 ∨ PK.begP [105] l ≠ 0
  · -- no letter i, or an error before
    obtain ⟨e, he, hi⟩ : ∃ e, (if k = 0 then PK.begP [105] l else k) = e + 1 ∧ PK.intP l k = (0, l, e + 1) := by
      by_cases hk : k = 0
      · subst hk
        have hb : PK.begP [105] l ≠ 0 := by simpa using hy
        refine ⟨PK.begP [105] l - 1, by rw [if_pos rfl]; omega, ?_⟩
        have : PK.numP 105 59 (PK.fromP l) l 0 = (0, 0, false, PK.begP [105] l) := by unfold PK.numP; rw [if_neg (by simp), if_pos hb]
        unfold PK.intP
        rw [if_pos (by rw [this]), this]
        simp only []
        rw [show PK.begP [105] l - 1 + 1 = PK.begP [105] l from by omega]
      · refine ⟨k - 1, by rw [if_neg hk]; omega, ?_⟩
        have : PK.numP 105 59 (PK.fromP l) l k = (0, 0, false, k) := by unfold PK.numP; rw [if_pos hk]
        unfold PK.intP
        rw [if_pos (by rw [this]), this]
        simp only []
        rw [show k - 1 + 1 = k from by omega]
    have He := Lib.hid he
    have Hi := Lib.hid hi
    clear hy he hi
    go_enter Tryz.func56, Tryz.ntmps56
    go_wp2_with fail
    refine HB.out.mono ?_
    rintro v w1 ⟨rfl, b1⟩
    have B1 := Lib.hid b1
    clear b1
    have HF := Lib.hid (fails_yes N l k (PK.begP [105] l) e w1 (H.out.below B1.out) He.out)
    go_wp2_with fail
    refine HF.out.mono ?_
    rintro v w2 ⟨rfl, r2, f2⟩
    have R2 := Lib.hid r2
    have F2 := Lib.hid f2
    clear r2 f2
    go_wp2
    go_ret
    rw [Hi.out]
    exact ⟨by simp, R2.out, (Fr.of_below B1.out).trans F2.out⟩
  · -- the letter is there
    have hk : k = 0 := by omega
    subst hk
    have hb : PK.begP [105] l = 0 := by omega
    have hln : l ≠ [] := by rintro rfl; simp [PK.begP] at hb
    have hlp : 0 < l.length := List.length_pos_iff.2 hln
    rw [hb] at HB
    have hint : PK.intP l 0 = intTail (PK.fromP l) l := rfl
    have Hint := Lib.hid hint
    have Hlp := Lib.hid hlp
    clear hy hb hln hint hlp
    rcases fromP_cases l with ⟨hf, h1l, h45, hg⟩ | ⟨hf, h45⟩
    · have Hfe := Lib.hid hf
      have H45 := Lib.hid hg
      have Hf : Hid (2 ≤ l.length) := h1l
      have H8 := Lib.hid h45
      clear hf hg h45
      go_enter Tryz.func56, Tryz.ntmps56
      go_wp2_with fail
      refine HB.out.mono ?_
      rintro v w1 ⟨rfl, b1⟩
      have B1 := Lib.hid b1
      clear b1
      have HF := Lib.hid (fails_no N l w1 (H.out.below B1.out))
      go_wp2_with fail
      refine HF.out.mono ?_
      rintro v w2 ⟨rfl, r2, f2⟩
      have R2 := Lib.hid r2
      have F2 := Lib.hid f2
      clear r2 f2
      obtain ⟨_, a, c, hh, hv⟩ := R2.out
      obtain ⟨c0, _, _, _⟩ := cells2 hh
      have HE2 : Hid (Env w2) := (HE.out.below B1.out).rd F2.out HN.out
      obtain ⟨_, _, _, b, o, rfl, hc⟩ := hv.open_cons (by intro e; have := Hlp.out; rw [e] at this; simp at this)
      have hc1 := hc 1 h1l
      rw [H8.out] at hc1
      clear hc
      have HC := Lib.hid (number_any N 2 l 0 ⟨#[105]⟩ 105 59 59 w2 HE2.out R2.out rfl rfl (fun _ => Hf.out))
      clear hh hv
      go_wp2_with fail
      refine HC.out.mono ?_
      rintro v w3 ⟨rfl, r3, f3⟩
      have R3 := Lib.hid r3
      have F3 := Lib.hid f3
      clear r3 f3
      have FA := Lib.hid (((Fr.of_below B1.out).trans F2.out).trans F3.out)
      have HE3 : Hid (Env w3) := HE2.out.rd F3.out HN.out
      clear HB HF H c0 HE2 R2 F2 F3 B1 HC HE
      rcases PK.numP_cases 105 59 2 l 0 with ⟨e, he, _⟩ | ⟨h1, h2, h3, h4⟩
      · have hi : intTail 2 l = (0, l, e + 1) := by unfold intTail; rw [if_pos (by rw [he]), he]
        have Hi := Lib.hid hi
        rw [he] at R3 ⊢
        clear he hi
        unfold numV
        go_wp2
        go_ret
        rw [Hint.out, Hfe.out, Hi.out]
        exact ⟨by simp, R3.out, FA.out⟩
      · obtain ⟨_, _, b1, b2, b3, _, b5, b6, b7⟩ := PK.numP_ok (lc := 105) (s := 59) (f := 2) (l := l) (k := 0) (by rw [h4])
        have hit : intTail 2 l = (if (PK.digs 59 (l.drop 2)).1 = 0 then ((0 : Int), l, 3) else if 9223372036854775808 < (PK.digs 59 (l.drop 2)).1 then (0, l, 4) else (-((PK.digs 59 (l.drop 2)).1 : Int), l.drop (2 + (PK.digs 59 (l.drop 2)).2.1 + 1), 0)) := by unfold intTail; rw [if_neg (by rw [h4]; simp)]; simp only [if_true]; rw [h4]
        rw [h4] at R3 b1 b2 b3 b5 b6 b7 ⊢
        simp only [] at R3 b1 b2 b3 b5 b6 b7 ⊢
        generalize hn : (PK.digs 59 (l.drop 2)).1 = n at *
        generalize hee : 2 + (PK.digs 59 (l.drop 2)).2.1 + 1 = e at *
        have Hit := Lib.hid hit
        clear h1 h2 h3 h4 hn hee hit
        unfold numV
        by_cases hz : n = 0
        · have Hi : Hid (intTail 2 l = (0, l, 3)) := by have := Hit.out; rw [if_pos hz] at this; exact this
          have HF := Lib.hid (fails_yes N l 0 3 2 w3 R3.out (by simp))
          subst hz
          clear b1 b2 b3 b5 b6 b7 Hit
          go_wp2_with fail
          refine HF.out.mono ?_
          rintro v w4 ⟨rfl, r4, f4⟩
          have R4 := Lib.hid r4
          have F4 := Lib.hid f4
          clear r4 f4
          go_wp2
          go_ret
          rw [Hint.out, Hfe.out, Hi.out]
          exact ⟨by simp, R4.out, FA.out.trans F4.out⟩
        · have hz1 : ((n : Int) == 0) = false := by simp; omega
          have hlen : ((l.drop 2).take (e - 2 - 1)).length = e - 2 - 1 := by simp; omega
          have htx : (l.take (e - 1)).drop 1 = 45 :: (l.drop 2).take (e - 2 - 1) := by rw [show l.take (e - 1) = l.take (2 + (e - 2 - 1)) from by congr 1; omega]; exact PK.int_text2 l _ H45.out
          have hat := PK.atoi_neg ((l.drop 2).take (e - 2 - 1)) b6 (by intro h; rw [h] at hlen; simp at hlen; omega) (by rw [← b5]; exact b3)
          rw [← b5, ← htx] at hat
          obtain ⟨_, a3, c3, hh3, hv3⟩ := R3.out
          obtain ⟨d0, _, z0, _⟩ := cells2 hh3
          have hcap : l.length ≤ c3 := by obtain ⟨_, _, he, q1, _⟩ := hv3; simp only [Value.slice.injEq] at he; omega
          have hsl1 : ∀ W : World, (Instr.sliceAt 22 (.slice a3 l.length c3) (some (.int .i64 1)) (some (.int .i64 ((e : Int) - 1))) none).run Tryz.prog W = .ok (.slice (cutAt a3 1 c3) (e - 1 - 1) (c3 - 1)) W := fun W => by
            have := run_sliceAt_lh T22 a3 l.length c3 1 ((e : Int) - 1) (by omega) (by omega) (by omega) W
            rw [this, show ((e : Int) - 1).toNat = e - 1 from by omega, show (1 : Int).toNat = 1 from rfl]
          have hcut := (isB_cut hv3 1 (e - 1) (by omega) (by omega)).1
          have hcv := run_toStr T22 U9 hcut
          have htl : ((l.take (e - 1)).drop 1).length ≤ 1000 := by simp; omega
          have hel : e ≤ 9223372036854775807 := by have := R3.out.lenBound; unfold maxLen at this; omega
          obtain ⟨hsl, hv4⟩ := rest_from hv3 e b2
          have HS := Lib.hid hv4
          have Hhh := Lib.hid hh3
          clear hh3 hv3 hv4 hcut hlen htx hcap b5 b6
          generalize (l.take (e - 1)).drop 1 = tx at *
          by_cases hbig : 9223372036854775808 < n
          · have HP := Lib.hid (atoi_no tx w3 HE3.out (by omega) (fun v => by rw [hat, if_pos hbig]; simp))
            have Hi : Hid (intTail 2 l = (0, l, 4)) := by have := Hit.out; rw [if_neg hz, if_pos hbig] at this; exact this
            clear hat hbig htl Hit hz b2 b3 b7
            generalize str tx = st at *
            go_wp2_with fail
            refine HP.out.mono ?_
            rintro v w4 ⟨⟨u, t, y, rfl⟩, b4⟩
            have B4 := Lib.hid b4
            clear b4
            have HF := Lib.hid (fails_yes N l 0 4 3 w4 (R3.out.below B4.out) (by simp))
            go_wp2_with fail
            refine HF.out.mono ?_
            rintro v w5 ⟨rfl, r5, f5⟩
            have R5 := Lib.hid r5
            have F5 := Lib.hid f5
            clear r5 f5
            go_wp2
            go_ret
            rw [Hint.out, Hfe.out, Hi.out]
            exact ⟨by simp, R5.out, (FA.out.trans (Fr.of_below B4.out)).trans F5.out⟩
          · rw [if_neg hbig] at hat
            have HP := Lib.hid (atoi_ok tx w3 _ htl hat)
            have Hi : Hid (intTail 2 l = (-(n : Int), l.drop e, 0)) := by have := Hit.out; rw [if_neg hz, if_neg hbig] at this; exact this
            have HN3 : N < w3.heap.size := R3.out.lt
            clear hat hbig htl Hit hz b2 b3 b7
            generalize str tx = st at *
            go_wp2_with fail
            refine HP.out.mono ?_
            rintro v w4 ⟨rfl, b4⟩
            have R4 := Lib.hid (R3.out.below b4)
            have HS4 := Lib.hid (HS.out.below b4)
            have hhh4 : w4.heap[N]? = some (.cells #[.slice a3 l.length c3, errV 0] 123) := (b4.block N HN3).trans Hhh.out
            obtain ⟨d4, _, z4, _⟩ := cells2 hhh4
            have B4 := Lib.hid b4
            clear b4 hhh4 d0 z0 Hhh
            have HT := Lib.hid (R4.out.setRest (cutAt a3 e c3) (l.length - e) (c3 - e) (m := l.drop e) (by simp) HS4.out)
            go_wp2
            go_ret
            rw [Hint.out, Hfe.out, Hi.out]
            exact ⟨by simp, HT.out.1, (FA.out.trans (Fr.of_below B4.out)).trans HT.out.2⟩
    · have Hfe := Lib.hid hf
      have Hf : Hid (1 ≤ l.length) := Hlp.out
      clear hf
      by_cases h1l : 1 < l.length
      · have hb1 : (at8 l 1 == 45) = false := by simpa using h45 h1l
        clear h45
        go_enter Tryz.func56, Tryz.ntmps56
        go_wp2_with fail
        refine HB.out.mono ?_
        rintro v w1 ⟨rfl, b1⟩
        have B1 := Lib.hid b1
        clear b1
        have HF := Lib.hid (fails_no N l w1 (H.out.below B1.out))
        go_wp2_with fail
        refine HF.out.mono ?_
        rintro v w2 ⟨rfl, r2, f2⟩
        have R2 := Lib.hid r2
        have F2 := Lib.hid f2
        clear r2 f2
        obtain ⟨_, a, c, hh, hv⟩ := R2.out
        obtain ⟨c0, _, _, _⟩ := cells2 hh
        have HE2 : Hid (Env w2) := (HE.out.below B1.out).rd F2.out HN.out
        obtain ⟨_, _, _, b, o, rfl, hc⟩ := hv.open_cons (by intro e; have := Hlp.out; rw [e] at this; simp at this)
        have hc1 := hc 1 h1l
        generalize at8 l 1 = x1 at *
        clear hc
        have HC := Lib.hid (number_any N 1 l 0 ⟨#[105]⟩ 105 59 59 w2 HE2.out R2.out rfl rfl (fun _ => Hf.out))
        clear hh hv
        go_wp2_with fail
        refine HC.out.mono ?_
        rintro v w3 ⟨rfl, r3, f3⟩
        have R3 := Lib.hid r3
        have F3 := Lib.hid f3
        clear r3 f3
        have FA := Lib.hid (((Fr.of_below B1.out).trans F2.out).trans F3.out)
        have HE3 : Hid (Env w3) := HE2.out.rd F3.out HN.out
        clear HB HF H c0 HE2 R2 F2 F3 B1 HC HE
        rcases PK.numP_cases 105 59 1 l 0 with ⟨e, he, _⟩ | ⟨h1, h2, h3, h4⟩
        · have hi : intTail 1 l = (0, l, e + 1) := by unfold intTail; rw [if_pos (by rw [he]), he]
          have Hi := Lib.hid hi
          rw [he] at R3 ⊢
          clear he hi
          unfold numV
          go_wp2
          go_ret
          rw [Hint.out, Hfe.out, Hi.out]
          exact ⟨by simp, R3.out, FA.out⟩
        · obtain ⟨_, _, b1, b2, b3, _, b5, b6, b7⟩ := PK.numP_ok (lc := 105) (s := 59) (f := 1) (l := l) (k := 0) (by rw [h4])
          have hit : intTail 1 l = (if 9223372036854775807 < (PK.digs 59 (l.drop 1)).1 then ((0 : Int), l, 4) else (((PK.digs 59 (l.drop 1)).1 : Int), l.drop (1 + (PK.digs 59 (l.drop 1)).2.1 + 1), 0)) := by unfold intTail; rw [if_neg (by rw [h4]; simp)]; simp only [show ¬ ((1 : Nat) = 2) from by omega, if_false]; rw [h4]
          rw [h4] at R3 b1 b2 b3 b5 b6 b7 ⊢
          simp only [] at R3 b1 b2 b3 b5 b6 b7 ⊢
          generalize hn : (PK.digs 59 (l.drop 1)).1 = n at *
          generalize hee : 1 + (PK.digs 59 (l.drop 1)).2.1 + 1 = e at *
          have Hit := Lib.hid hit
          clear h1 h2 h3 h4 hn hee hit
          unfold numV
          have hlen : ((l.drop 1).take (e - 1 - 1)).length = e - 1 - 1 := by simp; omega
          have htx : (l.take (e - 1)).drop 1 = (l.drop 1).take (e - 1 - 1) := by rw [show l.take (e - 1) = l.take (1 + (e - 1 - 1)) from by congr 1; omega]; exact PK.int_text1 l _
          have hat := PK.atoi_pos ((l.drop 1).take (e - 1 - 1)) b6 (by intro h; rw [h] at hlen; simp at hlen; omega) (by rw [← b5]; exact b3)
          rw [← b5, ← htx] at hat
          obtain ⟨_, a3, c3, hh3, hv3⟩ := R3.out
          obtain ⟨d0, _, z0, _⟩ := cells2 hh3
          have hcap : l.length ≤ c3 := by obtain ⟨_, _, he, q1, _⟩ := hv3; simp only [Value.slice.injEq] at he; omega
          have hsl1 : ∀ W : World, (Instr.sliceAt 22 (.slice a3 l.length c3) (some (.int .i64 1)) (some (.int .i64 ((e : Int) - 1))) none).run Tryz.prog W = .ok (.slice (cutAt a3 1 c3) (e - 1 - 1) (c3 - 1)) W := fun W => by
            have := run_sliceAt_lh T22 a3 l.length c3 1 ((e : Int) - 1) (by omega) (by omega) (by omega) W
            rw [this, show ((e : Int) - 1).toNat = e - 1 from by omega, show (1 : Int).toNat = 1 from rfl]
          have hcut := (isB_cut hv3 1 (e - 1) (by omega) (by omega)).1
          have hcv := run_toStr T22 U9 hcut
          have htl : ((l.take (e - 1)).drop 1).length ≤ 1000 := by simp; omega
          have hel : e ≤ 9223372036854775807 := by have := R3.out.lenBound; unfold maxLen at this; omega
          obtain ⟨hsl, hv4⟩ := rest_from hv3 e b2
          have HS := Lib.hid hv4
          have Hhh := Lib.hid hh3
          clear hh3 hv3 hv4 hcut hlen htx hcap b5 b6
          generalize (l.take (e - 1)).drop 1 = tx at *
          by_cases hbig : 9223372036854775807 < n
          · have HP := Lib.hid (atoi_no tx w3 HE3.out (by omega) (fun v => by rw [hat, if_pos hbig]; simp))
            have Hi : Hid (intTail 1 l = (0, l, 4)) := by have := Hit.out; rw [if_pos hbig] at this; exact this
            clear hat hbig htl Hit b2 b3 b7
            generalize str tx = st at *
            go_wp2_with fail
            refine HP.out.mono ?_
            rintro v w4 ⟨⟨u, t, y, rfl⟩, b4⟩
            have B4 := Lib.hid b4
            clear b4
            have HF := Lib.hid (fails_yes N l 0 4 3 w4 (R3.out.below B4.out) (by simp))
            go_wp2_with fail
            refine HF.out.mono ?_
            rintro v w5 ⟨rfl, r5, f5⟩
            have R5 := Lib.hid r5
            have F5 := Lib.hid f5
            clear r5 f5
            go_wp2
            go_ret
            rw [Hint.out, Hfe.out, Hi.out]
            exact ⟨by simp, R5.out, (FA.out.trans (Fr.of_below B4.out)).trans F5.out⟩
          · rw [if_neg hbig] at hat
            have HP := Lib.hid (atoi_ok tx w3 _ htl hat)
            have Hi : Hid (intTail 1 l = ((n : Int), l.drop e, 0)) := by have := Hit.out; rw [if_neg hbig] at this; exact this
            have HN3 : N < w3.heap.size := R3.out.lt
            clear hat hbig htl Hit b2 b3 b7
            generalize str tx = st at *
            go_wp2_with fail
            refine HP.out.mono ?_
            rintro v w4 ⟨rfl, b4⟩
            have R4 := Lib.hid (R3.out.below b4)
            have HS4 := Lib.hid (HS.out.below b4)
            have hhh4 : w4.heap[N]? = some (.cells #[.slice a3 l.length c3, errV 0] 123) := (b4.block N HN3).trans Hhh.out
            obtain ⟨d4, _, z4, _⟩ := cells2 hhh4
            have B4 := Lib.hid b4
            clear b4 hhh4 d0 z0 Hhh
            have HT := Lib.hid (R4.out.setRest (cutAt a3 e c3) (l.length - e) (c3 - e) (m := l.drop e) (by simp) HS4.out)
            go_wp2
            go_ret
            rw [Hint.out, Hfe.out, Hi.out]
            exact ⟨by simp, HT.out.1, (FA.out.trans (Fr.of_below B4.out)).trans HT.out.2⟩
      · clear h45
        go_enter Tryz.func56, Tryz.ntmps56
        go_wp2_with fail
        refine HB.out.mono ?_
        rintro v w1 ⟨rfl, b1⟩
        have B1 := Lib.hid b1
        clear b1
        have HF := Lib.hid (fails_no N l w1 (H.out.below B1.out))
        go_wp2_with fail
        refine HF.out.mono ?_
        rintro v w2 ⟨rfl, r2, f2⟩
        have R2 := Lib.hid r2
        have F2 := Lib.hid f2
        clear r2 f2
        obtain ⟨_, a, c, hh, hv⟩ := R2.out
        obtain ⟨c0, _, _, _⟩ := cells2 hh
        have HE2 : Hid (Env w2) := (HE.out.below B1.out).rd F2.out HN.out
        have HC := Lib.hid (number_any N 1 l 0 ⟨#[105]⟩ 105 59 59 w2 HE2.out R2.out rfl rfl (fun _ => Hf.out))
        clear hh hv
        go_wp2_with fail
        refine HC.out.mono ?_
        rintro v w3 ⟨rfl, r3, f3⟩
        have R3 := Lib.hid r3
        have F3 := Lib.hid f3
        clear r3 f3
        have FA := Lib.hid (((Fr.of_below B1.out).trans F2.out).trans F3.out)
        have HE3 : Hid (Env w3) := HE2.out.rd F3.out HN.out
        clear HB HF H c0 HE2 R2 F2 F3 B1 HC HE
        rcases PK.numP_cases 105 59 1 l 0 with ⟨e, he, _⟩ | ⟨h1, h2, h3, h4⟩
        · have hi : intTail 1 l = (0, l, e + 1) := by unfold intTail; rw [if_pos (by rw [he]), he]
          have Hi := Lib.hid hi
          rw [he] at R3 ⊢
          clear he hi
          unfold numV
          go_wp2
          go_ret
          rw [Hint.out, Hfe.out, Hi.out]
          exact ⟨by simp, R3.out, FA.out⟩
        · obtain ⟨_, _, b1, b2, b3, _, b5, b6, b7⟩ := PK.numP_ok (lc := 105) (s := 59) (f := 1) (l := l) (k := 0) (by rw [h4])
          have hit : intTail 1 l = (if 9223372036854775807 < (PK.digs 59 (l.drop 1)).1 then ((0 : Int), l, 4) else (((PK.digs 59 (l.drop 1)).1 : Int), l.drop (1 + (PK.digs 59 (l.drop 1)).2.1 + 1), 0)) := by unfold intTail; rw [if_neg (by rw [h4]; simp)]; simp only [show ¬ ((1 : Nat) = 2) from by omega, if_false]; rw [h4]
          rw [h4] at R3 b1 b2 b3 b5 b6 b7 ⊢
          simp only [] at R3 b1 b2 b3 b5 b6 b7 ⊢
          generalize hn : (PK.digs 59 (l.drop 1)).1 = n at *
          generalize hee : 1 + (PK.digs 59 (l.drop 1)).2.1 + 1 = e at *
          have Hit := Lib.hid hit
          clear h1 h2 h3 h4 hn hee hit
          unfold numV
          have hlen : ((l.drop 1).take (e - 1 - 1)).length = e - 1 - 1 := by simp; omega
          have htx : (l.take (e - 1)).drop 1 = (l.drop 1).take (e - 1 - 1) := by rw [show l.take (e - 1) = l.take (1 + (e - 1 - 1)) from by congr 1; omega]; exact PK.int_text1 l _
          have hat := PK.atoi_pos ((l.drop 1).take (e - 1 - 1)) b6 (by intro h; rw [h] at hlen; simp at hlen; omega) (by rw [← b5]; exact b3)
          rw [← b5, ← htx] at hat
          obtain ⟨_, a3, c3, hh3, hv3⟩ := R3.out
          obtain ⟨d0, _, z0, _⟩ := cells2 hh3
          have hcap : l.length ≤ c3 := by obtain ⟨_, _, he, q1, _⟩ := hv3; simp only [Value.slice.injEq] at he; omega
          have hsl1 : ∀ W : World, (Instr.sliceAt 22 (.slice a3 l.length c3) (some (.int .i64 1)) (some (.int .i64 ((e : Int) - 1))) none).run Tryz.prog W = .ok (.slice (cutAt a3 1 c3) (e - 1 - 1) (c3 - 1)) W := fun W => by
            have := run_sliceAt_lh T22 a3 l.length c3 1 ((e : Int) - 1) (by omega) (by omega) (by omega) W
            rw [this, show ((e : Int) - 1).toNat = e - 1 from by omega, show (1 : Int).toNat = 1 from rfl]
          have hcut := (isB_cut hv3 1 (e - 1) (by omega) (by omega)).1
          have hcv := run_toStr T22 U9 hcut
          have htl : ((l.take (e - 1)).drop 1).length ≤ 1000 := by simp; omega
          have hel : e ≤ 9223372036854775807 := by have := R3.out.lenBound; unfold maxLen at this; omega
          obtain ⟨hsl, hv4⟩ := rest_from hv3 e b2
          have HS := Lib.hid hv4
          have Hhh := Lib.hid hh3
          clear hh3 hv3 hv4 hcut hlen htx hcap b5 b6
          generalize (l.take (e - 1)).drop 1 = tx at *
          by_cases hbig : 9223372036854775807 < n
          · have HP := Lib.hid (atoi_no tx w3 HE3.out (by omega) (fun v => by rw [hat, if_pos hbig]; simp))
            have Hi : Hid (intTail 1 l = (0, l, 4)) := by have := Hit.out; rw [if_pos hbig] at this; exact this
            clear hat hbig htl Hit b2 b3 b7
            generalize str tx = st at *
            go_wp2_with fail
            refine HP.out.mono ?_
            rintro v w4 ⟨⟨u, t, y, rfl⟩, b4⟩
            have B4 := Lib.hid b4
            clear b4
            have HF := Lib.hid (fails_yes N l 0 4 3 w4 (R3.out.below B4.out) (by simp))
            go_wp2_with fail
            refine HF.out.mono ?_
            rintro v w5 ⟨rfl, r5, f5⟩
            have R5 := Lib.hid r5
            have F5 := Lib.hid f5
            clear r5 f5
            go_wp2
            go_ret
            rw [Hint.out, Hfe.out, Hi.out]
            exact ⟨by simp, R5.out, (FA.out.trans (Fr.of_below B4.out)).trans F5.out⟩
          · rw [if_neg hbig] at hat
            have HP := Lib.hid (atoi_ok tx w3 _ htl hat)
            have Hi : Hid (intTail 1 l = ((n : Int), l.drop e, 0)) := by have := Hit.out; rw [if_neg hbig] at this; exact this
            have HN3 : N < w3.heap.size := R3.out.lt
            clear hat hbig htl Hit b2 b3 b7
            generalize str tx = st at *
            go_wp2_with fail
            refine HP.out.mono ?_
            rintro v w4 ⟨rfl, b4⟩
            have R4 := Lib.hid (R3.out.below b4)
            have HS4 := Lib.hid (HS.out.below b4)
            have hhh4 : w4.heap[N]? = some (.cells #[.slice a3 l.length c3, errV 0] 123) := (b4.block N HN3).trans Hhh.out
            obtain ⟨d4, _, z4, _⟩ := cells2 hhh4
            have B4 := Lib.hid b4
            clear b4 hhh4 d0 z0 Hhh
            have HT := Lib.hid (R4.out.setRest (cutAt a3 e c3) (l.length - e) (c3 - e) (m := l.drop e) (by simp) HS4.out)
            go_wp2
            go_ret
            rw [Hint.out, Hfe.out, Hi.out]
            exact ⟨by simp, HT.out.1, (FA.out.trans (Fr.of_below B4.out)).trans HT.out.2⟩
end Go.Proofs.YtkanjdijmdjbaaaGreatDoor
