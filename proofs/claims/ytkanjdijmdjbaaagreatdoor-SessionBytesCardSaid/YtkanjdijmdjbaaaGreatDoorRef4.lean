/-
  The document's answer of layer 1: ReadInt.
  Conditions: what the reader holds reads as bytes.
-/
import Derived.Test.YtkanjdijmdjbaaaGreatDoorG10
import Derived.Test.YtkanjdijmdjbaaaGreatDoorRd5
namespace Go.Proofs.YtkanjdijmdjbaaaGreatDoor
open Go Go.RowKit

set_option maxRecDepth 100000 in
set_option maxHeartbeats 8000000 in
/-- ReadInt. -/
theorem rreadInt_any (a : Option Addr) (c k : Nat) (l : List UInt8) (w : World) (hv : IsB w (.slice a l.length c) l) :
    Calls Tryz.prog 66 #[.agg #[.slice a l.length c, .int .i64 k]] w fun v w' =>
      (∃ a' c', v = .returned (.tuple #[.agg #[.slice a' (PK.intP l k).2.1.length c', .int .i64 (PK.intP l k).2.2], .int .i64 (PK.intP l k).1]) ∧ IsB w' (.slice a' (PK.intP l k).2.1.length c') (PK.intP l k).2.1) ∧ Below w.heap.size w w' := by
  have Hv := Lib.hid hv
  have HH := Lib.hid (fun W (h : IsB W (.slice a l.length c) l) => head_any a c k l 105 105 W h rfl)
  have Hlen := Lib.hid hv.len
  clear hv
  by_cases hh : headP 105 l k = 0
  · obtain ⟨rfl, hb0, hln⟩ := headP_zero hh
    rw [hh] at HH
    have Hlp : Hid (1 ≤ l.length) := List.length_pos_iff.2 hln
    have Hb0 := Lib.hid hb0
    have Hint : Hid (PK.intP l 0 = intTail (PK.fromP l) l) := rfl
    clear hh hb0 hln
    rcases fromP_cases l with ⟨hf, h1l, h45, hg⟩ | ⟨hf, h45⟩
    · obtain ⟨_, _, _, b, o, rfl, hc⟩ := Hv.out.open_cons (by intro e; have := Hlp.out; rw [e] at this; simp at this)
      have hc1 := hc 1 h1l
      have hbl : b < w.heap.size := World.block_lt_of_cell? w _ hc1
      have Hfe := Lib.hid hf
      have Hf : Hid (2 ≤ l.length) := h1l
      rw [h45] at hc1
      clear hf hg h45 hc
      go_enter Tryz.func66, Tryz.ntmps66
      go_wp2_with fail
      refine (HH.out _ ((Hv.out.alloc _).alloc _)).mono ?_
      rintro v w1 ⟨rfl, b1⟩
      obtain ⟨g1, g2, bb⟩ := own2 b1
      obtain ⟨d0, d1, z0, z1⟩ := cells2 g1
      have H1 := Lib.hid (stored2 g1 (.slice (some ⟨b, o, none⟩) l.length c) (.int .i64 0))
      have H2 := Lib.hid ((stored2_other (w := w1) (M := w.heap.size) (.slice (some ⟨b, o, none⟩) l.length c) (.int .i64 0) (K := w.heap.size + 1) (by omega)).trans g2)
      have BW := Lib.hid bb
      have BB2 := Lib.hid (two_stores bb (Nat.le_refl _) (.slice (some ⟨b, o, none⟩) l.length c) (.int .i64 0))
      clear b1 g1 g2 bb HH
      have hcw : w1.cell? ⟨b, o + 1, none⟩ = some (.int .u8 45) := (BW.out.cell (p := ⟨b, o + 1, none⟩) hbl).trans hc1
      go_wp2_with fail
      generalize (w1.setCell ⟨w.heap.size, 0, none⟩ (.slice (some ⟨b, o, none⟩) l.length c)).setCell ⟨w.heap.size, 1, none⟩ (.int .i64 0) = W2 at *
      clear d0 d1 z0 z1 hcw hc1
      have HD := Lib.hid (rdigits_any (some ⟨b, o, none⟩) c 2 l 59 59 W2 (Hv.out.below BB2.out) Hf.out rfl)
      obtain ⟨d0, d1, z0, z1⟩ := cells2 H1.out
      by_cases hd : (PK.digs 59 (l.drop 2)).2.2 = 0
      · have hnp : PK.numP 105 59 2 l 0 = ((PK.digs 59 (l.drop 2)).1, 2 + (PK.digs 59 (l.drop 2)).2.1 + 1, true, 0) := by
          rcases PK.numP_cases 105 59 2 l 0 with ⟨e, he, _⟩ | ⟨_, _, _, h4⟩
          · exfalso
            unfold PK.numP at he
            rw [if_neg (by simp), if_neg (fun q => q Hb0.out), if_neg (fun q => q hd)] at he
            simp at he
          · exact h4
        obtain ⟨_, _, b1, b2, b3, _⟩ := PK.numP_ok (lc := 105) (s := 59) (f := 2) (l := l) (k := 0) (by rw [hnp])
        rw [hnp] at b1 b2 b3
        simp only [] at b1 b2 b3
        have hdv : rdigV 59 2 l = .tuple #[.int .u64 (PK.digs 59 (l.drop 2)).1, .int .i64 ((2 + (PK.digs 59 (l.drop 2)).2.1 + 1 : Nat) : Int), .int .i64 0] := by
          unfold rdigV; rw [hd, if_pos rfl]; simp
        rw [hdv] at HD
        have Hnp := Lib.hid hnp
        clear hd hnp hdv Hb0
        generalize (PK.digs 59 (l.drop 2)).1 = n at *
        generalize 2 + (PK.digs 59 (l.drop 2)).2.1 + 1 = e at *
        have hel : e ≤ 9223372036854775807 := by have := Hlen.out; unfold maxLen at this; omega
        refine HD.out.mono ?_
        rintro v w2 ⟨rfl, rfl⟩
        clear HD
        by_cases hz : n = 0
        · subst hz
          have hu : PK.intP l 0 = (0, l, 3) := by rw [Hint.out, Hfe.out]; unfold intTail; rw [Hnp.out]; simp
          have Hu := Lib.hid hu
          clear hu
          have HF := Lib.hid (fun W => fail_any (some ⟨b, o, none⟩) l.length c 0 3 W)
          simp only [if_true] at HF
          clear Hnp b1 b2 b3 hel
          go_wp2_with fail
          refine (HF.out _).mono ?_
          rintro v w3 ⟨rfl, b3⟩
          have g3 := (b3.block (w.heap.size + 1) (Array.getElem?_eq_some_iff.1 H2.out).1).trans H2.out
          obtain ⟨p0, p1, q0, q1⟩ := cells2 g3
          have h3 := stored2 g3 (.slice (some ⟨b, o, none⟩) l.length c) (.int .i64 (3 : Nat))
          obtain ⟨e0, e1, _, _⟩ := cells2 h3
          have E0 := Lib.hid e0
          have E1 := Lib.hid e1
          have BB := Lib.hid (two_stores (BB2.out.trans (b3.mono BB2.out.size)) (M := w.heap.size + 1) (by omega) (.slice (some ⟨b, o, none⟩) l.length c) (.int .i64 (3 : Nat)))
          clear b3 g3 h3 e0 e1 HF d0 d1 z0 z1
          go_wp2
          generalize ((w3.setCell ⟨w.heap.size + 1, 0, none⟩ (.slice (some ⟨b, o, none⟩) l.length c)).setCell ⟨w.heap.size + 1, 1, none⟩ (.int .i64 3)) = W at *
          refine bodyPost_ret (v := .tuple #[.agg #[.slice (some ⟨b, o, none⟩) l.length c, .int .i64 (3 : Nat)], .int .i64 0]) (by simp [results, Tryz.results66, go_sem, E0.out, E1.out]) rfl ?_
          rw [Hu.out]
          exact ⟨⟨some ⟨b, o, none⟩, c, rfl, Hv.out.below BB.out⟩, BB.out⟩
        · have hz1 : ((n : Int) == 0) = false := by simp; omega
          by_cases hg : 9223372036854775808 < n
          · have hu : PK.intP l 0 = (0, l, 4) := by rw [Hint.out, Hfe.out]; unfold intTail; rw [Hnp.out]; simp [hz, hg]
            have Hu := Lib.hid hu
            clear hu
            have HF := Lib.hid (fun W => fail_any (some ⟨b, o, none⟩) l.length c 0 4 W)
            simp only [if_true] at HF
            clear Hnp b1 b2 b3 hz hel
            go_wp2_with fail
            refine (HF.out _).mono ?_
            rintro v w3 ⟨rfl, b3⟩
            have g3 := (b3.block (w.heap.size + 1) (Array.getElem?_eq_some_iff.1 H2.out).1).trans H2.out
            obtain ⟨p0, p1, q0, q1⟩ := cells2 g3
            have h3 := stored2 g3 (.slice (some ⟨b, o, none⟩) l.length c) (.int .i64 (4 : Nat))
            obtain ⟨e0, e1, _, _⟩ := cells2 h3
            have E0 := Lib.hid e0
            have E1 := Lib.hid e1
            have BB := Lib.hid (two_stores (BB2.out.trans (b3.mono BB2.out.size)) (M := w.heap.size + 1) (by omega) (.slice (some ⟨b, o, none⟩) l.length c) (.int .i64 (4 : Nat)))
            clear b3 g3 h3 e0 e1 HF d0 d1 z0 z1
            go_wp2
            generalize ((w3.setCell ⟨w.heap.size + 1, 0, none⟩ (.slice (some ⟨b, o, none⟩) l.length c)).setCell ⟨w.heap.size + 1, 1, none⟩ (.int .i64 4)) = W at *
            refine bodyPost_ret (v := .tuple #[.agg #[.slice (some ⟨b, o, none⟩) l.length c, .int .i64 (4 : Nat)], .int .i64 0]) (by simp [results, Tryz.results66, go_sem, E0.out, E1.out]) rfl ?_
            rw [Hu.out]
            exact ⟨⟨some ⟨b, o, none⟩, c, rfl, Hv.out.below BB.out⟩, BB.out⟩
          · have hu : PK.intP l 0 = (-(n : Int), l.drop e, 0) := by rw [Hint.out, Hfe.out]; unfold intTail; rw [Hnp.out]; simp [hz, hg]
            have Hu := Lib.hid hu
            obtain ⟨hsl, hv4⟩ := rest_from (Hv.out.below BB2.out) e b2
            have h1 := stored1 H1.out (.slice (cutAt (some ⟨b, o, none⟩) e c) (l.length - e) (c - e))
            have h2 : (W2.setCell ⟨w.heap.size, 0, none⟩ (.slice (cutAt (some ⟨b, o, none⟩) e c) (l.length - e) (c - e))).heap[w.heap.size + 1]? = some (.cells #[.slice none 0 0, .int .i64 0] 80) := (Below.heap_setCell _ _ _ _ (by simp)).trans H2.out
            obtain ⟨p0, p1, q0, q1⟩ := cells2 H2.out
            have h3 := stored2 h2 (.slice (cutAt (some ⟨b, o, none⟩) e c) (l.length - e) (c - e)) (.int .i64 0)
            obtain ⟨e0, e1, _, _⟩ := cells2 h3
            obtain ⟨x0, _, _, _⟩ := cells2 h1
            have E0 := Lib.hid e0
            have E1 := Lib.hid e1
            have B4 := Lib.hid (two_stores (BB2.out.setCell (p := ⟨w.heap.size, 0, none⟩) (Nat.le_refl _) (.slice (cutAt (some ⟨b, o, none⟩) e c) (l.length - e) (c - e))) (M := w.heap.size + 1) (by omega) (.slice (cutAt (some ⟨b, o, none⟩) e c) (l.length - e) (c - e)) (.int .i64 0))
            have HV5 : Hid (IsB (((W2.setCell ⟨w.heap.size, 0, none⟩ (.slice (cutAt (some ⟨b, o, none⟩) e c) (l.length - e) (c - e))).setCell ⟨w.heap.size + 1, 0, none⟩ (.slice (cutAt (some ⟨b, o, none⟩) e c) (l.length - e) (c - e))).setCell ⟨w.heap.size + 1, 1, none⟩ (.int .i64 0)) (.slice (cutAt (some ⟨b, o, none⟩) e c) (l.length - e) (c - e)) (l.drop e)) :=
              (rest_from Hv.out e b2).2.below B4.out
            have hn0 : 1 ≤ n := by omega
            have hn1 : n ≤ 9223372036854775808 := by omega
            clear Hnp b1 b3 hz hg
            clear hu hv4 h1 h2 h3 e0 e1
            go_wp2
            generalize ((W2.setCell ⟨w.heap.size, 0, none⟩ (.slice (cutAt (some ⟨b, o, none⟩) e c) (l.length - e) (c - e))).setCell ⟨w.heap.size + 1, 0, none⟩ (.slice (cutAt (some ⟨b, o, none⟩) e c) (l.length - e) (c - e))).setCell ⟨w.heap.size + 1, 1, none⟩ (.int .i64 0) = W at *
            refine bodyPost_ret (v := .tuple #[.agg #[.slice (cutAt (some ⟨b, o, none⟩) e c) (l.length - e) (c - e), .int .i64 0], .int .i64 (-(n : Int))]) (by simp [results, Tryz.results66, go_sem, E0.out, E1.out]; try omega) rfl ?_
            rw [Hu.out]
            exact ⟨⟨cutAt (some ⟨b, o, none⟩) e c, c - e, by simp, by simpa using HV5.out⟩, B4.out⟩
      · obtain ⟨e, he⟩ : ∃ e, (PK.digs 59 (l.drop 2)).2.2 = e := ⟨_, rfl⟩
        have he0 : ((e : Int) == 0) = false := by simp; omega
        have he1 : ((e : Int) != 0) = true := by simp; omega
        have hnp : PK.numP 105 59 2 l 0 = (0, 0, false, e) := by
          unfold PK.numP
          rw [if_neg (by simp), if_neg (fun q => q Hb0.out), if_pos hd, he]
        have hdv : rdigV 59 2 l = .tuple #[.int .u64 (0 : Nat), .int .i64 0, .int .i64 e] := by
          unfold rdigV; rw [if_neg hd, (PK.digs_zero 59 _ hd).1, he]
        rw [hdv] at HD
        have Hnp := Lib.hid hnp
        clear hd hnp hdv Hb0 he
        refine HD.out.mono ?_
        rintro v w2 ⟨rfl, rfl⟩
        clear HD
        have hu : PK.intP l 0 = (0, l, e) := by rw [Hint.out, Hfe.out]; unfold intTail; rw [Hnp.out]; simp
        have Hu := Lib.hid hu
        clear hu
        have HF := Lib.hid (fun W => fail_any (some ⟨b, o, none⟩) l.length c 0 e W)
        simp only [if_true] at HF
        clear Hnp
        go_wp2_with fail
        refine (HF.out _).mono ?_
        rintro v w3 ⟨rfl, b3⟩
        have g3 := (b3.block (w.heap.size + 1) (Array.getElem?_eq_some_iff.1 H2.out).1).trans H2.out
        obtain ⟨p0, p1, q0, q1⟩ := cells2 g3
        have h3 := stored2 g3 (.slice (some ⟨b, o, none⟩) l.length c) (.int .i64 (e : Nat))
        obtain ⟨e0, e1, _, _⟩ := cells2 h3
        have E0 := Lib.hid e0
        have E1 := Lib.hid e1
        have BB := Lib.hid (two_stores (BB2.out.trans (b3.mono BB2.out.size)) (M := w.heap.size + 1) (by omega) (.slice (some ⟨b, o, none⟩) l.length c) (.int .i64 (e : Nat)))
        clear b3 g3 h3 e0 e1 HF d0 d1 z0 z1
        go_wp2
        generalize ((w3.setCell ⟨w.heap.size + 1, 0, none⟩ (.slice (some ⟨b, o, none⟩) l.length c)).setCell ⟨w.heap.size + 1, 1, none⟩ (.int .i64 e)) = W at *
        refine bodyPost_ret (v := .tuple #[.agg #[.slice (some ⟨b, o, none⟩) l.length c, .int .i64 (e : Nat)], .int .i64 0]) (by simp [results, Tryz.results66, go_sem, E0.out, E1.out]) rfl ?_
        rw [Hu.out]
        exact ⟨⟨some ⟨b, o, none⟩, c, rfl, Hv.out.below BB.out⟩, BB.out⟩

    · have Hfe := Lib.hid hf
      have Hf : Hid (1 ≤ l.length) := Hlp.out
      clear hf
      by_cases h1l : 1 < l.length
      · obtain ⟨_, _, _, b, o, rfl, hc⟩ := Hv.out.open_cons (by intro e; have := Hlp.out; rw [e] at this; simp at this)
        have hc1 := hc 1 h1l
        have hbl : b < w.heap.size := World.block_lt_of_cell? w _ hc1
        have hb1 : (at8 l 1 == 45) = false := by simpa using h45 h1l
        clear h45 hc
        generalize at8 l 1 = x1 at *
        go_enter Tryz.func66, Tryz.ntmps66
        go_wp2_with fail
        refine (HH.out _ ((Hv.out.alloc _).alloc _)).mono ?_
        rintro v w1 ⟨rfl, b1⟩
        obtain ⟨g1, g2, bb⟩ := own2 b1
        obtain ⟨d0, d1, z0, z1⟩ := cells2 g1
        have H1 := Lib.hid (stored2 g1 (.slice (some ⟨b, o, none⟩) l.length c) (.int .i64 0))
        have H2 := Lib.hid ((stored2_other (w := w1) (M := w.heap.size) (.slice (some ⟨b, o, none⟩) l.length c) (.int .i64 0) (K := w.heap.size + 1) (by omega)).trans g2)
        have BW := Lib.hid bb
        have BB2 := Lib.hid (two_stores bb (Nat.le_refl _) (.slice (some ⟨b, o, none⟩) l.length c) (.int .i64 0))
        clear b1 g1 g2 bb HH
        have hcw : w1.cell? ⟨b, o + 1, none⟩ = some (.int .u8 x1) := (BW.out.cell (p := ⟨b, o + 1, none⟩) hbl).trans hc1
        go_wp2_with fail
        generalize (w1.setCell ⟨w.heap.size, 0, none⟩ (.slice (some ⟨b, o, none⟩) l.length c)).setCell ⟨w.heap.size, 1, none⟩ (.int .i64 0) = W2 at *
        clear d0 d1 z0 z1 hcw hc1
        have HD := Lib.hid (rdigits_any (some ⟨b, o, none⟩) c 1 l 59 59 W2 (Hv.out.below BB2.out) Hf.out rfl)
        obtain ⟨d0, d1, z0, z1⟩ := cells2 H1.out
        by_cases hd : (PK.digs 59 (l.drop 1)).2.2 = 0
        · have hnp : PK.numP 105 59 1 l 0 = ((PK.digs 59 (l.drop 1)).1, 1 + (PK.digs 59 (l.drop 1)).2.1 + 1, true, 0) := by
            rcases PK.numP_cases 105 59 1 l 0 with ⟨e, he, _⟩ | ⟨_, _, _, h4⟩
            · exfalso
              unfold PK.numP at he
              rw [if_neg (by simp), if_neg (fun q => q Hb0.out), if_neg (fun q => q hd)] at he
              simp at he
            · exact h4
          obtain ⟨_, _, b1, b2, b3, _⟩ := PK.numP_ok (lc := 105) (s := 59) (f := 1) (l := l) (k := 0) (by rw [hnp])
          rw [hnp] at b1 b2 b3
          simp only [] at b1 b2 b3
          have hdv : rdigV 59 1 l = .tuple #[.int .u64 (PK.digs 59 (l.drop 1)).1, .int .i64 ((1 + (PK.digs 59 (l.drop 1)).2.1 + 1 : Nat) : Int), .int .i64 0] := by
            unfold rdigV; rw [hd, if_pos rfl]; simp
          rw [hdv] at HD
          have Hnp := Lib.hid hnp
          clear hd hnp hdv Hb0
          generalize (PK.digs 59 (l.drop 1)).1 = n at *
          generalize 1 + (PK.digs 59 (l.drop 1)).2.1 + 1 = e at *
          have hel : e ≤ 9223372036854775807 := by have := Hlen.out; unfold maxLen at this; omega
          refine HD.out.mono ?_
          rintro v w2 ⟨rfl, rfl⟩
          clear HD
          by_cases hg : 9223372036854775807 < n
          · have hu : PK.intP l 0 = (0, l, 4) := by rw [Hint.out, Hfe.out]; unfold intTail; rw [Hnp.out]; simp [hg]
            have Hu := Lib.hid hu
            clear hu
            have HF := Lib.hid (fun W => fail_any (some ⟨b, o, none⟩) l.length c 0 4 W)
            simp only [if_true] at HF
            clear Hnp b1 b2 b3 hel
            go_wp2_with fail
            refine (HF.out _).mono ?_
            rintro v w3 ⟨rfl, b3⟩
            have g3 := (b3.block (w.heap.size + 1) (Array.getElem?_eq_some_iff.1 H2.out).1).trans H2.out
            obtain ⟨p0, p1, q0, q1⟩ := cells2 g3
            have h3 := stored2 g3 (.slice (some ⟨b, o, none⟩) l.length c) (.int .i64 (4 : Nat))
            obtain ⟨e0, e1, _, _⟩ := cells2 h3
            have E0 := Lib.hid e0
            have E1 := Lib.hid e1
            have BB := Lib.hid (two_stores (BB2.out.trans (b3.mono BB2.out.size)) (M := w.heap.size + 1) (by omega) (.slice (some ⟨b, o, none⟩) l.length c) (.int .i64 (4 : Nat)))
            clear b3 g3 h3 e0 e1 HF d0 d1 z0 z1
            go_wp2
            generalize ((w3.setCell ⟨w.heap.size + 1, 0, none⟩ (.slice (some ⟨b, o, none⟩) l.length c)).setCell ⟨w.heap.size + 1, 1, none⟩ (.int .i64 4)) = W at *
            refine bodyPost_ret (v := .tuple #[.agg #[.slice (some ⟨b, o, none⟩) l.length c, .int .i64 (4 : Nat)], .int .i64 0]) (by simp [results, Tryz.results66, go_sem, E0.out, E1.out]) rfl ?_
            rw [Hu.out]
            exact ⟨⟨some ⟨b, o, none⟩, c, rfl, Hv.out.below BB.out⟩, BB.out⟩
          · have hu : PK.intP l 0 = ((n : Int), l.drop e, 0) := by rw [Hint.out, Hfe.out]; unfold intTail; rw [Hnp.out]; simp [hg]
            have Hu := Lib.hid hu
            obtain ⟨hsl, hv4⟩ := rest_from (Hv.out.below BB2.out) e b2
            have h1 := stored1 H1.out (.slice (cutAt (some ⟨b, o, none⟩) e c) (l.length - e) (c - e))
            have h2 : (W2.setCell ⟨w.heap.size, 0, none⟩ (.slice (cutAt (some ⟨b, o, none⟩) e c) (l.length - e) (c - e))).heap[w.heap.size + 1]? = some (.cells #[.slice none 0 0, .int .i64 0] 80) := (Below.heap_setCell _ _ _ _ (by simp)).trans H2.out
            obtain ⟨p0, p1, q0, q1⟩ := cells2 H2.out
            have h3 := stored2 h2 (.slice (cutAt (some ⟨b, o, none⟩) e c) (l.length - e) (c - e)) (.int .i64 0)
            obtain ⟨e0, e1, _, _⟩ := cells2 h3
            obtain ⟨x0, _, _, _⟩ := cells2 h1
            have E0 := Lib.hid e0
            have E1 := Lib.hid e1
            have B4 := Lib.hid (two_stores (BB2.out.setCell (p := ⟨w.heap.size, 0, none⟩) (Nat.le_refl _) (.slice (cutAt (some ⟨b, o, none⟩) e c) (l.length - e) (c - e))) (M := w.heap.size + 1) (by omega) (.slice (cutAt (some ⟨b, o, none⟩) e c) (l.length - e) (c - e)) (.int .i64 0))
            have HV5 : Hid (IsB (((W2.setCell ⟨w.heap.size, 0, none⟩ (.slice (cutAt (some ⟨b, o, none⟩) e c) (l.length - e) (c - e))).setCell ⟨w.heap.size + 1, 0, none⟩ (.slice (cutAt (some ⟨b, o, none⟩) e c) (l.length - e) (c - e))).setCell ⟨w.heap.size + 1, 1, none⟩ (.int .i64 0)) (.slice (cutAt (some ⟨b, o, none⟩) e c) (l.length - e) (c - e)) (l.drop e)) :=
              (rest_from Hv.out e b2).2.below B4.out
            have hn1 : n ≤ 9223372036854775807 := by omega
            clear Hnp b1 b3 hg
            clear hu hv4 h1 h2 h3 e0 e1
            go_wp2
            generalize ((W2.setCell ⟨w.heap.size, 0, none⟩ (.slice (cutAt (some ⟨b, o, none⟩) e c) (l.length - e) (c - e))).setCell ⟨w.heap.size + 1, 0, none⟩ (.slice (cutAt (some ⟨b, o, none⟩) e c) (l.length - e) (c - e))).setCell ⟨w.heap.size + 1, 1, none⟩ (.int .i64 0) = W at *
            refine bodyPost_ret (v := .tuple #[.agg #[.slice (cutAt (some ⟨b, o, none⟩) e c) (l.length - e) (c - e), .int .i64 0], .int .i64 ((n : Int))]) (by simp [results, Tryz.results66, go_sem, E0.out, E1.out]) rfl ?_
            rw [Hu.out]
            exact ⟨⟨cutAt (some ⟨b, o, none⟩) e c, c - e, by simp, by simpa using HV5.out⟩, B4.out⟩
        · obtain ⟨e, he⟩ : ∃ e, (PK.digs 59 (l.drop 1)).2.2 = e := ⟨_, rfl⟩
          have he0 : ((e : Int) == 0) = false := by simp; omega
          have he1 : ((e : Int) != 0) = true := by simp; omega
          have hnp : PK.numP 105 59 1 l 0 = (0, 0, false, e) := by
            unfold PK.numP
            rw [if_neg (by simp), if_neg (fun q => q Hb0.out), if_pos hd, he]
          have hdv : rdigV 59 1 l = .tuple #[.int .u64 (0 : Nat), .int .i64 0, .int .i64 e] := by
            unfold rdigV; rw [if_neg hd, (PK.digs_zero 59 _ hd).1, he]
          rw [hdv] at HD
          have Hnp := Lib.hid hnp
          clear hd hnp hdv Hb0 he
          refine HD.out.mono ?_
          rintro v w2 ⟨rfl, rfl⟩
          clear HD
          have hu : PK.intP l 0 = (0, l, e) := by rw [Hint.out, Hfe.out]; unfold intTail; rw [Hnp.out]; simp
          have Hu := Lib.hid hu
          clear hu
          have HF := Lib.hid (fun W => fail_any (some ⟨b, o, none⟩) l.length c 0 e W)
          simp only [if_true] at HF
          clear Hnp
          go_wp2_with fail
          refine (HF.out _).mono ?_
          rintro v w3 ⟨rfl, b3⟩
          have g3 := (b3.block (w.heap.size + 1) (Array.getElem?_eq_some_iff.1 H2.out).1).trans H2.out
          obtain ⟨p0, p1, q0, q1⟩ := cells2 g3
          have h3 := stored2 g3 (.slice (some ⟨b, o, none⟩) l.length c) (.int .i64 (e : Nat))
          obtain ⟨e0, e1, _, _⟩ := cells2 h3
          have E0 := Lib.hid e0
          have E1 := Lib.hid e1
          have BB := Lib.hid (two_stores (BB2.out.trans (b3.mono BB2.out.size)) (M := w.heap.size + 1) (by omega) (.slice (some ⟨b, o, none⟩) l.length c) (.int .i64 (e : Nat)))
          clear b3 g3 h3 e0 e1 HF d0 d1 z0 z1
          go_wp2
          generalize ((w3.setCell ⟨w.heap.size + 1, 0, none⟩ (.slice (some ⟨b, o, none⟩) l.length c)).setCell ⟨w.heap.size + 1, 1, none⟩ (.int .i64 e)) = W at *
          refine bodyPost_ret (v := .tuple #[.agg #[.slice (some ⟨b, o, none⟩) l.length c, .int .i64 (e : Nat)], .int .i64 0]) (by simp [results, Tryz.results66, go_sem, E0.out, E1.out]) rfl ?_
          rw [Hu.out]
          exact ⟨⟨some ⟨b, o, none⟩, c, rfl, Hv.out.below BB.out⟩, BB.out⟩

      · clear h45
        go_enter Tryz.func66, Tryz.ntmps66
        go_wp2_with fail
        refine (HH.out _ ((Hv.out.alloc _).alloc _)).mono ?_
        rintro v w1 ⟨rfl, b1⟩
        obtain ⟨g1, g2, bb⟩ := own2 b1
        obtain ⟨d0, d1, z0, z1⟩ := cells2 g1
        have H1 := Lib.hid (stored2 g1 (.slice a l.length c) (.int .i64 0))
        have H2 := Lib.hid ((stored2_other (w := w1) (M := w.heap.size) (.slice a l.length c) (.int .i64 0) (K := w.heap.size + 1) (by omega)).trans g2)
        have BW := Lib.hid bb
        have BB2 := Lib.hid (two_stores bb (Nat.le_refl _) (.slice a l.length c) (.int .i64 0))
        clear b1 g1 g2 bb HH
        go_wp2_with fail
        generalize (w1.setCell ⟨w.heap.size, 0, none⟩ (.slice a l.length c)).setCell ⟨w.heap.size, 1, none⟩ (.int .i64 0) = W2 at *
        clear d0 d1 z0 z1
        have HD := Lib.hid (rdigits_any a c 1 l 59 59 W2 (Hv.out.below BB2.out) Hf.out rfl)
        obtain ⟨d0, d1, z0, z1⟩ := cells2 H1.out
        by_cases hd : (PK.digs 59 (l.drop 1)).2.2 = 0
        · have hnp : PK.numP 105 59 1 l 0 = ((PK.digs 59 (l.drop 1)).1, 1 + (PK.digs 59 (l.drop 1)).2.1 + 1, true, 0) := by
            rcases PK.numP_cases 105 59 1 l 0 with ⟨e, he, _⟩ | ⟨_, _, _, h4⟩
            · exfalso
              unfold PK.numP at he
              rw [if_neg (by simp), if_neg (fun q => q Hb0.out), if_neg (fun q => q hd)] at he
              simp at he
            · exact h4
          obtain ⟨_, _, b1, b2, b3, _⟩ := PK.numP_ok (lc := 105) (s := 59) (f := 1) (l := l) (k := 0) (by rw [hnp])
          rw [hnp] at b1 b2 b3
          simp only [] at b1 b2 b3
          have hdv : rdigV 59 1 l = .tuple #[.int .u64 (PK.digs 59 (l.drop 1)).1, .int .i64 ((1 + (PK.digs 59 (l.drop 1)).2.1 + 1 : Nat) : Int), .int .i64 0] := by
            unfold rdigV; rw [hd, if_pos rfl]; simp
          rw [hdv] at HD
          have Hnp := Lib.hid hnp
          clear hd hnp hdv Hb0
          generalize (PK.digs 59 (l.drop 1)).1 = n at *
          generalize 1 + (PK.digs 59 (l.drop 1)).2.1 + 1 = e at *
          have hel : e ≤ 9223372036854775807 := by have := Hlen.out; unfold maxLen at this; omega
          refine HD.out.mono ?_
          rintro v w2 ⟨rfl, rfl⟩
          clear HD
          by_cases hg : 9223372036854775807 < n
          · have hu : PK.intP l 0 = (0, l, 4) := by rw [Hint.out, Hfe.out]; unfold intTail; rw [Hnp.out]; simp [hg]
            have Hu := Lib.hid hu
            clear hu
            have HF := Lib.hid (fun W => fail_any a l.length c 0 4 W)
            simp only [if_true] at HF
            clear Hnp b1 b2 b3 hel
            go_wp2_with fail
            refine (HF.out _).mono ?_
            rintro v w3 ⟨rfl, b3⟩
            have g3 := (b3.block (w.heap.size + 1) (Array.getElem?_eq_some_iff.1 H2.out).1).trans H2.out
            obtain ⟨p0, p1, q0, q1⟩ := cells2 g3
            have h3 := stored2 g3 (.slice a l.length c) (.int .i64 (4 : Nat))
            obtain ⟨e0, e1, _, _⟩ := cells2 h3
            have E0 := Lib.hid e0
            have E1 := Lib.hid e1
            have BB := Lib.hid (two_stores (BB2.out.trans (b3.mono BB2.out.size)) (M := w.heap.size + 1) (by omega) (.slice a l.length c) (.int .i64 (4 : Nat)))
            clear b3 g3 h3 e0 e1 HF d0 d1 z0 z1
            go_wp2
            generalize ((w3.setCell ⟨w.heap.size + 1, 0, none⟩ (.slice a l.length c)).setCell ⟨w.heap.size + 1, 1, none⟩ (.int .i64 4)) = W at *
            refine bodyPost_ret (v := .tuple #[.agg #[.slice a l.length c, .int .i64 (4 : Nat)], .int .i64 0]) (by simp [results, Tryz.results66, go_sem, E0.out, E1.out]) rfl ?_
            rw [Hu.out]
            exact ⟨⟨a, c, rfl, Hv.out.below BB.out⟩, BB.out⟩
          · have hu : PK.intP l 0 = ((n : Int), l.drop e, 0) := by rw [Hint.out, Hfe.out]; unfold intTail; rw [Hnp.out]; simp [hg]
            have Hu := Lib.hid hu
            obtain ⟨hsl, hv4⟩ := rest_from (Hv.out.below BB2.out) e b2
            have h1 := stored1 H1.out (.slice (cutAt a e c) (l.length - e) (c - e))
            have h2 : (W2.setCell ⟨w.heap.size, 0, none⟩ (.slice (cutAt a e c) (l.length - e) (c - e))).heap[w.heap.size + 1]? = some (.cells #[.slice none 0 0, .int .i64 0] 80) := (Below.heap_setCell _ _ _ _ (by simp)).trans H2.out
            obtain ⟨p0, p1, q0, q1⟩ := cells2 H2.out
            have h3 := stored2 h2 (.slice (cutAt a e c) (l.length - e) (c - e)) (.int .i64 0)
            obtain ⟨e0, e1, _, _⟩ := cells2 h3
            obtain ⟨x0, _, _, _⟩ := cells2 h1
            have E0 := Lib.hid e0
            have E1 := Lib.hid e1
            have B4 := Lib.hid (two_stores (BB2.out.setCell (p := ⟨w.heap.size, 0, none⟩) (Nat.le_refl _) (.slice (cutAt a e c) (l.length - e) (c - e))) (M := w.heap.size + 1) (by omega) (.slice (cutAt a e c) (l.length - e) (c - e)) (.int .i64 0))
            have HV5 : Hid (IsB (((W2.setCell ⟨w.heap.size, 0, none⟩ (.slice (cutAt a e c) (l.length - e) (c - e))).setCell ⟨w.heap.size + 1, 0, none⟩ (.slice (cutAt a e c) (l.length - e) (c - e))).setCell ⟨w.heap.size + 1, 1, none⟩ (.int .i64 0)) (.slice (cutAt a e c) (l.length - e) (c - e)) (l.drop e)) :=
              (rest_from Hv.out e b2).2.below B4.out
            have hn1 : n ≤ 9223372036854775807 := by omega
            clear Hnp b1 b3 hg
            clear hu hv4 h1 h2 h3 e0 e1
            go_wp2
            generalize ((W2.setCell ⟨w.heap.size, 0, none⟩ (.slice (cutAt a e c) (l.length - e) (c - e))).setCell ⟨w.heap.size + 1, 0, none⟩ (.slice (cutAt a e c) (l.length - e) (c - e))).setCell ⟨w.heap.size + 1, 1, none⟩ (.int .i64 0) = W at *
            refine bodyPost_ret (v := .tuple #[.agg #[.slice (cutAt a e c) (l.length - e) (c - e), .int .i64 0], .int .i64 ((n : Int))]) (by simp [results, Tryz.results66, go_sem, E0.out, E1.out]) rfl ?_
            rw [Hu.out]
            exact ⟨⟨cutAt a e c, c - e, by simp, by simpa using HV5.out⟩, B4.out⟩
        · obtain ⟨e, he⟩ : ∃ e, (PK.digs 59 (l.drop 1)).2.2 = e := ⟨_, rfl⟩
          have he0 : ((e : Int) == 0) = false := by simp; omega
          have he1 : ((e : Int) != 0) = true := by simp; omega
          have hnp : PK.numP 105 59 1 l 0 = (0, 0, false, e) := by
            unfold PK.numP
            rw [if_neg (by simp), if_neg (fun q => q Hb0.out), if_pos hd, he]
          have hdv : rdigV 59 1 l = .tuple #[.int .u64 (0 : Nat), .int .i64 0, .int .i64 e] := by
            unfold rdigV; rw [if_neg hd, (PK.digs_zero 59 _ hd).1, he]
          rw [hdv] at HD
          have Hnp := Lib.hid hnp
          clear hd hnp hdv Hb0 he
          refine HD.out.mono ?_
          rintro v w2 ⟨rfl, rfl⟩
          clear HD
          have hu : PK.intP l 0 = (0, l, e) := by rw [Hint.out, Hfe.out]; unfold intTail; rw [Hnp.out]; simp
          have Hu := Lib.hid hu
          clear hu
          have HF := Lib.hid (fun W => fail_any a l.length c 0 e W)
          simp only [if_true] at HF
          clear Hnp
          go_wp2_with fail
          refine (HF.out _).mono ?_
          rintro v w3 ⟨rfl, b3⟩
          have g3 := (b3.block (w.heap.size + 1) (Array.getElem?_eq_some_iff.1 H2.out).1).trans H2.out
          obtain ⟨p0, p1, q0, q1⟩ := cells2 g3
          have h3 := stored2 g3 (.slice a l.length c) (.int .i64 (e : Nat))
          obtain ⟨e0, e1, _, _⟩ := cells2 h3
          have E0 := Lib.hid e0
          have E1 := Lib.hid e1
          have BB := Lib.hid (two_stores (BB2.out.trans (b3.mono BB2.out.size)) (M := w.heap.size + 1) (by omega) (.slice a l.length c) (.int .i64 (e : Nat)))
          clear b3 g3 h3 e0 e1 HF d0 d1 z0 z1
          go_wp2
          generalize ((w3.setCell ⟨w.heap.size + 1, 0, none⟩ (.slice a l.length c)).setCell ⟨w.heap.size + 1, 1, none⟩ (.int .i64 e)) = W at *
          refine bodyPost_ret (v := .tuple #[.agg #[.slice a l.length c, .int .i64 (e : Nat)], .int .i64 0]) (by simp [results, Tryz.results66, go_sem, E0.out, E1.out]) rfl ?_
          rw [Hu.out]
          exact ⟨⟨a, c, rfl, Hv.out.below BB.out⟩, BB.out⟩

  · have hh1 : ((headP 105 l k : Int) != 0) = true := by simp; omega
    have hu : PK.intP l k = (0, l, headP 105 l k) := by
      unfold PK.intP
      rw [numP_head hh]
      simp
    have Hu := Lib.hid hu
    clear hu hh
    generalize headP 105 l k = j at *
    go_enter Tryz.func66, Tryz.ntmps66
    go_wp2_with fail
    refine (HH.out _ ((Hv.out.alloc _).alloc _)).mono ?_
    rintro v w1 ⟨rfl, b1⟩
    obtain ⟨g1, g2, bb⟩ := own2 b1
    obtain ⟨d0, d1, z0, z1⟩ := cells2 g1
    obtain ⟨p0, p1, q0, q1⟩ := cells2 g2
    have h1 := stored2 g1 (.slice a l.length c) (.int .i64 j)
    have h2 := (stored2_other (w := w1) (M := w.heap.size) (.slice a l.length c) (.int .i64 j) (K := w.heap.size + 1) (by omega)).trans g2
    have h3 := stored2 h2 (.slice a l.length c) (.int .i64 j)
    obtain ⟨e0, e1, _, _⟩ := cells2 h3
    have E0 := Lib.hid e0
    have E1 := Lib.hid e1
    have BB := Lib.hid (two_stores (two_stores bb (Nat.le_refl _) (.slice a l.length c) (.int .i64 j)) (M := w.heap.size + 1) (by omega) (.slice a l.length c) (.int .i64 j))
    clear b1 g1 g2 bb HH h1 h2 h3 e0 e1
    go_wp2
    generalize ((((w1.setCell ⟨w.heap.size, 0, none⟩ (.slice a l.length c)).setCell ⟨w.heap.size, 1, none⟩ (.int .i64 j)).setCell ⟨w.heap.size + 1, 0, none⟩ (.slice a l.length c)).setCell ⟨w.heap.size + 1, 1, none⟩ (.int .i64 j)) = W at *
    refine bodyPost_ret (v := .tuple #[.agg #[.slice a l.length c, .int .i64 j], .int .i64 0]) (by simp [results, Tryz.results66, go_sem, E0.out, E1.out]) rfl ?_
    rw [Hu.out]
    exact ⟨⟨a, c, rfl, Hv.out.below BB.out⟩, BB.out⟩
end Go.Proofs.YtkanjdijmdjbaaaGreatDoor
