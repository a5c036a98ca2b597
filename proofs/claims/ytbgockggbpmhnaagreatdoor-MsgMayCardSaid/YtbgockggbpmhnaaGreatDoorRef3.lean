/-
  The document's answer of layer 1: ReadUint, ReadInt.
  Conditions: what the reader holds reads as bytes.
-/
import Derived.Test.YtbgockggbpmhnaaGreatDoorRef2
import Derived.Test.YtbgockggbpmhnaaGreatDoorRd4
namespace Go.Proofs.YtbgockggbpmhnaaGreatDoor
open Go Go.RowKit

theorem numP_head {lc s : UInt8} {f : Nat} {l : List UInt8} {k : Nat} (h : headP lc l k ≠ 0) : PK.numP lc s f l k = (0, 0, false, headP lc l k) := by
  unfold headP at h ⊢
  unfold PK.numP
  by_cases hk : k = 0
  · rw [if_pos hk] at h ⊢
    rw [if_neg (by omega), if_pos h]
  · rw [if_neg hk, if_pos hk]
theorem headP_zero {lc : UInt8} {l : List UInt8} {k : Nat} (h : headP lc l k = 0) : k = 0 ∧ PK.begP [lc] l = 0 ∧ l ≠ [] := by
  unfold headP at h
  by_cases hk : k = 0
  · rw [if_pos hk] at h
    exact ⟨hk, h, by rintro rfl; simp [PK.begP] at h⟩
  · rw [if_neg hk] at h; exact absurd h hk
/-- Stores into a block of the call's own, behind what it made. -/
theorem two_stores {w w1 : World} {M : Nat} (b : Below w.heap.size w w1) (hM : w.heap.size ≤ M) (x y : Value) : Below w.heap.size w ((w1.setCell ⟨M, 0, none⟩ x).setCell ⟨M, 1, none⟩ y) := (b.setCell hM _).setCell hM _
theorem stored2_other {w : World} {M K : Nat} (x y : Value) (h : K ≠ M) : ((w.setCell ⟨M, 0, none⟩ x).setCell ⟨M, 1, none⟩ y).heap[K]? = w.heap[K]? := by
  rw [Below.heap_setCell _ _ _ _ h, Below.heap_setCell _ _ _ _ h]
theorem stored1 {w : World} {M : Nat} {x0 y0 : Value} {t : TypeId} (h : w.heap[M]? = some (.cells #[x0, y0] t)) (x : Value) : (w.setCell ⟨M, 0, none⟩ x).heap[M]? = some (.cells #[x, y0] t) := by
  simp only [World.setCell, Array.getElem?_modify, if_true, h, Option.map_some]
  simp

set_option maxRecDepth 100000 in
set_option maxHeartbeats 2000000 in
/-- ReadUint. -/
theorem rreadUint_any (a : Option Addr) (c k most : Nat) (l : List UInt8) (w : World) (hv : IsB w (.slice a l.length c) l) :
    Calls Tryz.prog 64 #[.agg #[.slice a l.length c, .int .i64 k], .int .u64 most] w fun v w' =>
      (∃ a' c', v = .returned (.tuple #[.agg #[.slice a' (PK.uintP most l k).2.1.length c', .int .i64 (PK.uintP most l k).2.2], .int .u64 (PK.uintP most l k).1]) ∧ IsB w' (.slice a' (PK.uintP most l k).2.1.length c') (PK.uintP most l k).2.1) ∧ Below w.heap.size w w' := by
  have Hv := Lib.hid hv
  have HH := Lib.hid (fun W (h : IsB W (.slice a l.length c) l) => head_any a c k l 110 110 W h rfl)
  clear hv
  by_cases hh : headP 110 l k = 0
  · obtain ⟨rfl, hb0, hln⟩ := headP_zero hh
    rw [hh] at HH
    have Hlp : Hid (1 ≤ l.length) := List.length_pos_iff.2 hln
    have hcase := PK.numP_cases 110 59 1 l 0
    have Hcase := Lib.hid hcase
    have Hb0 := Lib.hid hb0
    clear hh hb0 hln hcase
    go_enter Tryz.func64, Tryz.ntmps64
    go_wp2_with fail
    refine (HH.out _ ((Hv.out.alloc _).alloc _)).mono ?_
    rintro v w1 ⟨rfl, b1⟩
    obtain ⟨g1, g2, bb⟩ := own2 b1
    obtain ⟨d0, d1, z0, z1⟩ := cells2 g1
    have H1 := Lib.hid (stored2 g1 (.slice a l.length c) (.int .i64 0))
    have H2 := Lib.hid ((stored2_other (w := w1) (M := w.heap.size) (.slice a l.length c) (.int .i64 0) (K := w.heap.size + 1) (by omega)).trans g2)
    have BB2 := Lib.hid (two_stores bb (Nat.le_refl _) (.slice a l.length c) (.int .i64 0))
    clear b1 g1 g2 bb HH
    go_wp2_with fail
    generalize (w1.setCell ⟨w.heap.size, 0, none⟩ (.slice a l.length c)).setCell ⟨w.heap.size, 1, none⟩ (.int .i64 0) = W2 at *
    clear d0 d1 z0 z1
    have HD := Lib.hid (rdigits_any a c 1 l 59 59 W2 (Hv.out.below BB2.out) Hlp.out rfl)
    obtain ⟨d0, d1, z0, z1⟩ := cells2 H1.out
    by_cases hd : (PK.digs 59 (l.drop 1)).2.2 = 0
    · have hnp : PK.numP 110 59 1 l 0 = ((PK.digs 59 (l.drop 1)).1, 1 + (PK.digs 59 (l.drop 1)).2.1 + 1, true, 0) := by
        rcases Hcase.out with ⟨e, he, _⟩ | ⟨_, _, _, h4⟩
        · exfalso
          unfold PK.numP at he
          rw [if_neg (by simp), if_neg (fun q => q Hb0.out), if_neg (fun q => q hd)] at he
          simp at he
        · exact h4
      obtain ⟨_, _, b1, b2, _⟩ := PK.numP_ok (lc := 110) (s := 59) (f := 1) (l := l) (k := 0) (by rw [hnp])
      rw [hnp] at b1 b2
      simp only [] at b1 b2
      have hdv : rdigV 59 1 l = .tuple #[.int .u64 (PK.digs 59 (l.drop 1)).1, .int .i64 ((1 + (PK.digs 59 (l.drop 1)).2.1 + 1 : Nat) : Int), .int .i64 0] := by
        unfold rdigV; rw [hd, if_pos rfl]; simp
      rw [hdv] at HD
      have Hnp := Lib.hid hnp
      clear hd hnp hdv Hcase Hb0
      generalize (PK.digs 59 (l.drop 1)).1 = n at *
      generalize 1 + (PK.digs 59 (l.drop 1)).2.1 + 1 = e at *
      refine HD.out.mono ?_
      rintro v w2 ⟨rfl, rfl⟩
      by_cases hg : most < n
      · have hu : PK.uintP most l 0 = (0, l, 4) := by unfold PK.uintP; rw [Hnp.out]; simp [hg]
        have Hu := Lib.hid hu
        clear hu HD Hnp b1 b2
        have HF := Lib.hid (fun W => fail_any a l.length c 0 4 W)
        simp only [if_true] at HF
        go_wp2_with fail
        refine (HF.out _).mono ?_
        rintro v w3 ⟨rfl, b3⟩
        have g3 := (b3.block (w.heap.size + 1) (Array.getElem?_eq_some_iff.1 H2.out).1).trans H2.out
        obtain ⟨p0, p1, q0, q1⟩ := cells2 g3
        have h3 := stored2 g3 (.slice a l.length c) (.int .i64 (4 : Nat))
        obtain ⟨e0, e1, _, _⟩ := cells2 h3
        have E0 := Lib.hid e0
        have E1 := Lib.hid e1
        have BB := Lib.hid (two_stores (BB2.out.trans (b3.mono BB2.out.size)) (M := w.heap.size + 1) (by omega) (.slice a l.length c) (.int .i64 (4 : Nat)))
        clear b3 g3 h3 e0 e1 HF d0 d1 z0 z1
        go_wp2
        generalize ((w3.setCell ⟨w.heap.size + 1, 0, none⟩ (.slice a l.length c)).setCell ⟨w.heap.size + 1, 1, none⟩ (.int .i64 4)) = W at *
        refine bodyPost_ret (v := .tuple #[.agg #[.slice a l.length c, .int .i64 (4 : Nat)], .int .u64 0]) (by simp [results, Tryz.results64, go_sem, E0.out, E1.out]) rfl ?_
        rw [Hu.out]
        exact ⟨⟨a, c, rfl, Hv.out.below BB.out⟩, BB.out⟩
      · have hu : PK.uintP most l 0 = (n, l.drop e, 0) := by unfold PK.uintP; rw [Hnp.out]; simp [hg]
        have Hu := Lib.hid hu
        obtain ⟨hsl, hv4⟩ := rest_from (Hv.out.below BB2.out) e b2
        have HV4 := Lib.hid hv4
        have h1 := stored1 H1.out (.slice (cutAt a e c) (l.length - e) (c - e))
        have h2 : (W2.setCell ⟨w.heap.size, 0, none⟩ (.slice (cutAt a e c) (l.length - e) (c - e))).heap[w.heap.size + 1]? = some (.cells #[.slice none 0 0, .int .i64 0] 63) := (Below.heap_setCell _ _ _ _ (by simp)).trans H2.out
        obtain ⟨p0, p1, q0, q1⟩ := cells2 H2.out
        have h3 := stored2 h2 (.slice (cutAt a e c) (l.length - e) (c - e)) (.int .i64 0)
        obtain ⟨e0, e1, _, _⟩ := cells2 h3
        obtain ⟨x0, _, _, _⟩ := cells2 h1
        have E0 := Lib.hid e0
        have E1 := Lib.hid e1
        have B4 := Lib.hid (two_stores (BB2.out.setCell (p := ⟨w.heap.size, 0, none⟩) (Nat.le_refl _) (.slice (cutAt a e c) (l.length - e) (c - e))) (M := w.heap.size + 1) (by omega) (.slice (cutAt a e c) (l.length - e) (c - e)) (.int .i64 0))
        have HV5 : Hid (IsB (((W2.setCell ⟨w.heap.size, 0, none⟩ (.slice (cutAt a e c) (l.length - e) (c - e))).setCell ⟨w.heap.size + 1, 0, none⟩ (.slice (cutAt a e c) (l.length - e) (c - e))).setCell ⟨w.heap.size + 1, 1, none⟩ (.int .i64 0)) (.slice (cutAt a e c) (l.length - e) (c - e)) (l.drop e)) :=
          (rest_from Hv.out e b2).2.below B4.out
        have hg2 : n ≤ most := by omega
        clear hu HD Hnp hv4 h1 h2 h3 e0 e1 hg
        go_wp2
        generalize ((W2.setCell ⟨w.heap.size, 0, none⟩ (.slice (cutAt a e c) (l.length - e) (c - e))).setCell ⟨w.heap.size + 1, 0, none⟩ (.slice (cutAt a e c) (l.length - e) (c - e))).setCell ⟨w.heap.size + 1, 1, none⟩ (.int .i64 0) = W at *
        refine bodyPost_ret (v := .tuple #[.agg #[.slice (cutAt a e c) (l.length - e) (c - e), .int .i64 0], .int .u64 n]) (by simp [results, Tryz.results64, go_sem, E0.out, E1.out]) rfl ?_
        rw [Hu.out]
        exact ⟨⟨cutAt a e c, c - e, by simp, by simpa using HV5.out⟩, B4.out⟩
    · obtain ⟨e, he⟩ : ∃ e, (PK.digs 59 (l.drop 1)).2.2 = e := ⟨_, rfl⟩
      have he0 : ((e : Int) == 0) = false := by simp; omega
      have he1 : ((e : Int) != 0) = true := by simp; omega
      have hnp : PK.numP 110 59 1 l 0 = (0, 0, false, e) := by
        unfold PK.numP
        rw [if_neg (by simp), if_neg (by simp [Hb0.out]), if_pos hd, he]
      have hdv : rdigV 59 1 l = .tuple #[.int .u64 (0 : Nat), .int .i64 0, .int .i64 e] := by
        unfold rdigV; rw [if_neg hd, (PK.digs_zero 59 _ hd).1, he]
      rw [hdv] at HD
      have hu : PK.uintP most l 0 = (0, l, e) := by unfold PK.uintP; rw [hnp]; simp
      have Hu := Lib.hid hu
      clear hd hnp hdv Hcase Hb0 he hu
      refine HD.out.mono ?_
      rintro v w2 ⟨rfl, rfl⟩
      clear HD
      have HF := Lib.hid (fun W => fail_any a l.length c 0 e W)
      simp only [if_true] at HF
      go_wp2_with fail
      refine (HF.out _).mono ?_
      rintro v w3 ⟨rfl, b3⟩
      have g3 := (b3.block (w.heap.size + 1) (Array.getElem?_eq_some_iff.1 H2.out).1).trans H2.out
      obtain ⟨p0, p1, q0, q1⟩ := cells2 g3
      have h3 := stored2 g3 (.slice a l.length c) (.int .i64 (e : Nat))
      obtain ⟨e0, e1, _, _⟩ := cells2 h3
      have E0 := Lib.hid e0
      have E1 := Lib.hid e1
      have BB := Lib.hid (two_stores (BB2.out.trans (b3.mono BB2.out.size)) (M := w.heap.size + 1) (by omega) (.slice a l.length c) (.int .i64 (e : Nat)))
      clear b3 g3 h3 e0 e1 HF d0 d1 z0 z1
      go_wp2
      generalize ((w3.setCell ⟨w.heap.size + 1, 0, none⟩ (.slice a l.length c)).setCell ⟨w.heap.size + 1, 1, none⟩ (.int .i64 (e : Nat))) = W at *
      refine bodyPost_ret (v := .tuple #[.agg #[.slice a l.length c, .int .i64 (e : Nat)], .int .u64 0]) (by simp [results, Tryz.results64, go_sem, E0.out, E1.out]) rfl ?_
      rw [Hu.out]
      exact ⟨⟨a, c, rfl, Hv.out.below BB.out⟩, BB.out⟩
  · have hh1 : ((headP 110 l k : Int) != 0) = true := by simp; omega
    have hu : PK.uintP most l k = (0, l, headP 110 l k) := by
      unfold PK.uintP
      rw [numP_head hh]
      simp
    have Hu := Lib.hid hu
    clear hu hh
    generalize headP 110 l k = j at *
    go_enter Tryz.func64, Tryz.ntmps64
    go_wp2_with fail
    refine (HH.out _ ((Hv.out.alloc _).alloc _)).mono ?_
    rintro v w1 ⟨rfl, b1⟩
    obtain ⟨g1, g2, bb⟩ := own2 b1
    obtain ⟨d0, d1, z0, z1⟩ := cells2 g1
    obtain ⟨p0, p1, q0, q1⟩ := cells2 g2
    have h1 := stored2 g1 (.slice a l.length c) (.int .i64 j)
    have h2 := (stored2_other (w := w1) (M := w.heap.size) (.slice a l.length c) (.int .i64 j) (K := w.heap.size + 1) (by omega)).trans g2
    have h3 := stored2 h2 (.slice a l.length c) (.int .i64 j)
    obtain ⟨e0, e1, _, _⟩ := cells2 h3
    have E0 := Lib.hid e0
    have E1 := Lib.hid e1
    have BB := Lib.hid (two_stores (two_stores bb (Nat.le_refl _) (.slice a l.length c) (.int .i64 j)) (M := w.heap.size + 1) (by omega) (.slice a l.length c) (.int .i64 j))
    clear b1 g1 g2 bb HH h1 h2 h3 e0 e1
    go_wp2
    generalize ((((w1.setCell ⟨w.heap.size, 0, none⟩ (.slice a l.length c)).setCell ⟨w.heap.size, 1, none⟩ (.int .i64 j)).setCell ⟨w.heap.size + 1, 0, none⟩ (.slice a l.length c)).setCell ⟨w.heap.size + 1, 1, none⟩ (.int .i64 j)) = W at *
    refine bodyPost_ret (v := .tuple #[.agg #[.slice a l.length c, .int .i64 j], .int .u64 0]) (by simp [results, Tryz.results64, go_sem, E0.out, E1.out]) rfl ?_
    rw [Hu.out]
    exact ⟨⟨a, c, rfl, Hv.out.below BB.out⟩, BB.out⟩
end Go.Proofs.YtbgockggbpmhnaaGreatDoor
