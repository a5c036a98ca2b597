/-
  The document's answer of layer 1: ReadUint, ReadInt.
  Conditions: what the reader holds reads as bytes.
  The document's answer of layer 1: run, ReadBytes, ReadBool, ReadCount, by contracts.
  Conditions: what the reader holds reads as bytes and is at most 2^47 bytes long; the bound is from 0 to 2^62.
-/
import Derived.Test.YtflghelhdalhiaaGreatDoorG15
import Derived.Test.YtflghelhdalhiaaGreatDoorG16
import Derived.Test.YtflghelhdalhiaaGreatDoorG8
namespace Go.Proofs.YtflghelhdalhiaaGreatDoor
open Go Go.RowKit

theorem numP_head {lc s : UInt8} {f : Nat} {l : List UInt8} {k : Nat} (h : headP lc l k ≠ 0) : PK.numP lc s f l k = (0, 0, false, headP lc l k) := by
  unfold headP at h ⊢
  unfold PK.numP
  by_cases hk : k = 0
  · rw [if_pos hk] at h ⊢
    rw [if_neg (by omega), if_pos h]
  · rw [if_neg hk, if_pos hk]
theorem headP_zero {lc : UInt8} {l : List UInt8} {k : Nat} (h : headP lc l k = 0) : k = 0 ∧ PK.begP [lc] l = 0 ∧ l ≠ [] := by
  unfold headP at h
  by_cases hk : k = 0
  · rw [if_pos hk] at h
    exact ⟨hk, h, by rintro rfl; simp [PK.begP] at h⟩
  · rw [if_neg hk] at h; exact absurd h hk
/-- Stores into a block of the call's own, behind what it made. -/
theorem two_stores {w w1 : World} {M : Nat} (b : Below w.heap.size w w1) (hM : w.heap.size ≤ M) (x y : Value) : Below w.heap.size w ((w1.setCell ⟨M, 0, none⟩ x).setCell ⟨M, 1, none⟩ y) := (b.setCell hM _).setCell hM _
theorem stored2_other {w : World} {M K : Nat} (x y : Value) (h : K ≠ M) : ((w.setCell ⟨M, 0, none⟩ x).setCell ⟨M, 1, none⟩ y).heap[K]? = w.heap[K]? := by
  rw [Below.heap_setCell _ _ _ _ h, Below.heap_setCell _ _ _ _ h]
theorem stored1 {w : World} {M : Nat} {x0 y0 : Value} {t : TypeId} (h : w.heap[M]? = some (.cells #[x0, y0] t)) (x : Value) : (w.setCell ⟨M, 0, none⟩ x).heap[M]? = some (.cells #[x, y0] t) := by
  simp only [World.setCell, Array.getElem?_modify, if_true, h, Option.map_some]
  simp

set_option maxRecDepth 100000 in
set_option maxHeartbeats 2000000 in
/-- ReadUint. -/
theorem rreadUint_any (a : Option Addr) (c k most : Nat) (l : List UInt8) (w : World) (hv : IsB w (.slice a l.length c) l) :
    Calls Tryz.prog 80 #[.agg #[.slice a l.length c, .int .i64 k], .int .u64 most] w fun v w' =>
      (∃ a' c', v = .returned (.tuple #[.agg #[.slice a' (PK.uintP most l k).2.1.length c', .int .i64 (PK.uintP most l k).2.2], .int .u64 (PK.uintP most l k).1]) ∧ IsB w' (.slice a' (PK.uintP most l k).2.1.length c') (PK.uintP most l k).2.1) ∧ Below w.heap.size w w' := by
  have Hv := Lib.hid hv
  have HH := Lib.hid (fun W (h : IsB W (.slice a l.length c) l) => head_any a c k l 110 110 W h rfl)
  clear hv
  by_cases hh : headP 110 l k = 0
  · obtain ⟨rfl, hb0, hln⟩ := headP_zero hh
    rw [hh] at HH
    have Hlp : Hid (1 ≤ l.length) := List.length_pos_iff.2 hln
    have hcase := PK.numP_cases 110 59 1 l 0
    have Hcase := Lib.hid hcase
    have Hb0 := Lib.hid hb0
    clear hh hb0 hln hcase
    go_enter Tryz.func80, Tryz.ntmps80
    go_wp2_with fail
    refine (HH.out _ ((Hv.out.alloc _).alloc _)).mono ?_
    rintro v w1 ⟨rfl, b1⟩
    obtain ⟨g1, g2, bb⟩ := own2 b1
    obtain ⟨d0, d1, z0, z1⟩ := cells2 g1
    have H1 := Lib.hid (stored2 g1 (.slice a l.length c) (.int .i64 0))
    have H2 := Lib.hid ((stored2_other (w := w1) (M := w.heap.size) (.slice a l.length c) (.int .i64 0) (K := w.heap.size + 1) (by omega)).trans g2)
    have BB2 := Lib.hid (two_stores bb (Nat.le_refl _) (.slice a l.length c) (.int .i64 0))
    clear b1 g1 g2 bb HH
    go_wp2_with fail
    generalize (w1.setCell ⟨w.heap.size, 0, none⟩ (.slice a l.length c)).setCell ⟨w.heap.size, 1, none⟩ (.int .i64 0) = W2 at *
    clear d0 d1 z0 z1
    have HD := Lib.hid (rdigits_any a c 1 l 59 59 W2 (Hv.out.below BB2.out) Hlp.out rfl)
    obtain ⟨d0, d1, z0, z1⟩ := cells2 H1.out
    by_cases hd : (PK.digs 59 (l.drop 1)).2.2 = 0
    · have hnp : PK.numP 110 59 1 l 0 = ((PK.digs 59 (l.drop 1)).1, 1 + (PK.digs 59 (l.drop 1)).2.1 + 1, true, 0) := by
        rcases Hcase.out with ⟨e, he, _⟩ | ⟨_, _, _, h4⟩
        · exfalso
          unfold PK.numP at he
          rw [if_neg (by simp), if_neg (fun q => q Hb0.out), if_neg (fun q => q hd)] at he
          simp at he
        · exact h4
      obtain ⟨_, _, b1, b2, _⟩ := PK.numP_ok (lc := 110) (s := 59) (f := 1) (l := l) (k := 0) (by rw [hnp])
      rw [hnp] at b1 b2
      simp only [] at b1 b2
      have hdv : rdigV 59 1 l = .tuple #[.int .u64 (PK.digs 59 (l.drop 1)).1, .int .i64 ((1 + (PK.digs 59 (l.drop 1)).2.1 + 1 : Nat) : Int), .int .i64 0] := by
        unfold rdigV; rw [hd, if_pos rfl]; simp
      rw [hdv] at HD
      have Hnp := Lib.hid hnp
      clear hd hnp hdv Hcase Hb0
      generalize (PK.digs 59 (l.drop 1)).1 = n at *
      generalize 1 + (PK.digs 59 (l.drop 1)).2.1 + 1 = e at *
      refine HD.out.mono ?_
      rintro v w2 ⟨rfl, rfl⟩
      by_cases hg : most < n
      · have hu : PK.uintP most l 0 = (0, l, 4) := by unfold PK.uintP; rw [Hnp.out]; simp [hg]
        have Hu := Lib.hid hu
        clear hu HD Hnp b1 b2
        have HF := Lib.hid (fun W => fail_any a l.length c 0 4 W)
        simp only [if_true] at HF
        go_wp2_with fail
        refine (HF.out _).mono ?_
        rintro v w3 ⟨rfl, b3⟩
        have g3 := (b3.block (w.heap.size + 1) (Array.getElem?_eq_some_iff.1 H2.out).1).trans H2.out
        obtain ⟨p0, p1, q0, q1⟩ := cells2 g3
        have h3 := stored2 g3 (.slice a l.length c) (.int .i64 (4 : Nat))
        obtain ⟨e0, e1, _, _⟩ := cells2 h3
        have E0 := Lib.hid e0
        have E1 := Lib.hid e1
        have BB := Lib.hid (two_stores (BB2.out.trans (b3.mono BB2.out.size)) (M := w.heap.size + 1) (by omega) (.slice a l.length c) (.int .i64 (4 : Nat)))
        clear b3 g3 h3 e0 e1 HF d0 d1 z0 z1
        go_wp2
        generalize ((w3.setCell ⟨w.heap.size + 1, 0, none⟩ (.slice a l.length c)).setCell ⟨w.heap.size + 1, 1, none⟩ (.int .i64 4)) = W at *
        refine bodyPost_ret (v := .tuple #[.agg #[.slice a l.length c, .int .i64 (4 : Nat)], .int .u64 0]) (by simp [results, Tryz.results80, go_sem, E0.out, E1.out]) rfl ?_
        rw [Hu.out]
        exact ⟨⟨a, c, rfl, Hv.out.below BB.out⟩, BB.out⟩
      · have hu : PK.uintP most l 0 = (n, l.drop e, 0) := by unfold PK.uintP; rw [Hnp.out]; simp [hg]
        have Hu := Lib.hid hu
        obtain ⟨hsl, hv4⟩ := rest_from (Hv.out.below BB2.out) e b2
        have HV4 := Lib.hid hv4
        have h1 := stored1 H1.out (.slice (cutAt a e c) (l.length - e) (c - e))
        have h2 : (W2.setCell ⟨w.heap.size, 0, none⟩ (.slice (cutAt a e c) (l.length - e) (c - e))).heap[w.heap.size + 1]? = some (.cells #[.slice none 0 0, .int .i64 0] 66) := (Below.heap_setCell _ _ _ _ (by simp)).trans H2.out
        obtain ⟨p0, p1, q0, q1⟩ := cells2 H2.out
        have h3 := stored2 h2 (.slice (cutAt a e c) (l.length - e) (c - e)) (.int .i64 0)
        obtain ⟨e0, e1, _, _⟩ := cells2 h3
        obtain ⟨x0, _, _, _⟩ := cells2 h1
        have E0 := Lib.hid e0
        have E1 := Lib.hid e1
        have B4 := Lib.hid (two_stores (BB2.out.setCell (p := ⟨w.heap.size, 0, none⟩) (Nat.le_refl _) (.slice (cutAt a e c) (l.length - e) (c - e))) (M := w.heap.size + 1) (by omega) (.slice (cutAt a e c) (l.length - e) (c - e)) (.int .i64 0))
        have HV5 : Hid (IsB (((W2.setCell ⟨w.heap.size, 0, none⟩ (.slice (cutAt a e c) (l.length - e) (c - e))).setCell ⟨w.heap.size + 1, 0, none⟩ (.slice (cutAt a e c) (l.length - e) (c - e))).setCell ⟨w.heap.size + 1, 1, none⟩ (.int .i64 0)) (.slice (cutAt a e c) (l.length - e) (c - e)) (l.drop e)) :=
          (rest_from Hv.out e b2).2.below B4.out
        have hg2 : n ≤ most := by omega
        clear hu HD Hnp hv4 h1 h2 h3 e0 e1 hg
        go_wp2
        generalize ((W2.setCell ⟨w.heap.size, 0, none⟩ (.slice (cutAt a e c) (l.length - e) (c - e))).setCell ⟨w.heap.size + 1, 0, none⟩ (.slice (cutAt a e c) (l.length - e) (c - e))).setCell ⟨w.heap.size + 1, 1, none⟩ (.int .i64 0) = W at *
        refine bodyPost_ret (v := .tuple #[.agg #[.slice (cutAt a e c) (l.length - e) (c - e), .int .i64 0], .int .u64 n]) (by simp [results, Tryz.results80, go_sem, E0.out, E1.out]) rfl ?_
        rw [Hu.out]
        exact ⟨⟨cutAt a e c, c - e, by simp, by simpa using HV5.out⟩, B4.out⟩
    · obtain ⟨e, he⟩ : ∃ e, (PK.digs 59 (l.drop 1)).2.2 = e := ⟨_, rfl⟩
      have he0 : ((e : Int) == 0) = false := by simp; omega
      have he1 : ((e : Int) != 0) = true := by simp; omega
      have hnp : PK.numP 110 59 1 l 0 = (0, 0, false, e) := by
        unfold PK.numP
        rw [if_neg (by simp), if_neg (by simp [Hb0.out]), if_pos hd, he]
      have hdv : rdigV 59 1 l = .tuple #[.int .u64 (0 : Nat), .int .i64 0, .int .i64 e] := by
        unfold rdigV; rw [if_neg hd, (PK.digs_zero 59 _ hd).1, he]
      rw [hdv] at HD
      have hu : PK.uintP most l 0 = (0, l, e) := by unfold PK.uintP; rw [hnp]; simp
      have Hu := Lib.hid hu
      clear hd hnp hdv Hcase Hb0 he hu
      refine HD.out.mono ?_
      rintro v w2 ⟨rfl, rfl⟩
      clear HD
      have HF := Lib.hid (fun W => fail_any a l.length c 0 e W)
      simp only [if_true] at HF
      go_wp2_with fail
      refine (HF.out _).mono ?_
      rintro v w3 ⟨rfl, b3⟩
      have g3 := (b3.block (w.heap.size + 1) (Array.getElem?_eq_some_iff.1 H2.out).1).trans H2.out
      obtain ⟨p0, p1, q0, q1⟩ := cells2 g3
      have h3 := stored2 g3 (.slice a l.length c) (.int .i64 (e : Nat))
      obtain ⟨e0, e1, _, _⟩ := cells2 h3
      have E0 := Lib.hid e0
      have E1 := Lib.hid e1
      have BB := Lib.hid (two_stores (BB2.out.trans (b3.mono BB2.out.size)) (M := w.heap.size + 1) (by omega) (.slice a l.length c) (.int .i64 (e : Nat)))
      clear b3 g3 h3 e0 e1 HF d0 d1 z0 z1
      go_wp2
      generalize ((w3.setCell ⟨w.heap.size + 1, 0, none⟩ (.slice a l.length c)).setCell ⟨w.heap.size + 1, 1, none⟩ (.int .i64 (e : Nat))) = W at *
      refine bodyPost_ret (v := .tuple #[.agg #[.slice a l.length c, .int .i64 (e : Nat)], .int .u64 0]) (by simp [results, Tryz.results80, go_sem, E0.out, E1.out]) rfl ?_
      rw [Hu.out]
      exact ⟨⟨a, c, rfl, Hv.out.below BB.out⟩, BB.out⟩
  · have hh1 : ((headP 110 l k : Int) != 0) = true := by simp; omega
    have hu : PK.uintP most l k = (0, l, headP 110 l k) := by
      unfold PK.uintP
      rw [numP_head hh]
      simp
    have Hu := Lib.hid hu
    clear hu hh
    generalize headP 110 l k = j at *
    go_enter Tryz.func80, Tryz.ntmps80
    go_wp2_with fail
    refine (HH.out _ ((Hv.out.alloc _).alloc _)).mono ?_
    rintro v w1 ⟨rfl, b1⟩
    obtain ⟨g1, g2, bb⟩ := own2 b1
    obtain ⟨d0, d1, z0, z1⟩ := cells2 g1
    obtain ⟨p0, p1, q0, q1⟩ := cells2 g2
    have h1 := stored2 g1 (.slice a l.length c) (.int .i64 j)
    have h2 := (stored2_other (w := w1) (M := w.heap.size) (.slice a l.length c) (.int .i64 j) (K := w.heap.size + 1) (by omega)).trans g2
    have h3 := stored2 h2 (.slice a l.length c) (.int .i64 j)
    obtain ⟨e0, e1, _, _⟩ := cells2 h3
    have E0 := Lib.hid e0
    have E1 := Lib.hid e1
    have BB := Lib.hid (two_stores (two_stores bb (Nat.le_refl _) (.slice a l.length c) (.int .i64 j)) (M := w.heap.size + 1) (by omega) (.slice a l.length c) (.int .i64 j))
    clear b1 g1 g2 bb HH h1 h2 h3 e0 e1
    go_wp2
    generalize ((((w1.setCell ⟨w.heap.size, 0, none⟩ (.slice a l.length c)).setCell ⟨w.heap.size, 1, none⟩ (.int .i64 j)).setCell ⟨w.heap.size + 1, 0, none⟩ (.slice a l.length c)).setCell ⟨w.heap.size + 1, 1, none⟩ (.int .i64 j)) = W at *
    refine bodyPost_ret (v := .tuple #[.agg #[.slice a l.length c, .int .i64 j], .int .u64 0]) (by simp [results, Tryz.results80, go_sem, E0.out, E1.out]) rfl ?_
    rw [Hu.out]
    exact ⟨⟨a, c, rfl, Hv.out.below BB.out⟩, BB.out⟩
end Go.Proofs.YtflghelhdalhiaaGreatDoor

namespace Go.Proofs.YtflghelhdalhiaaGreatDoor
open Go Go.RowKit

/-- What run answers. -/
def RRunR (w w' : World) (v : Ending) (r : List UInt8 × List UInt8 × Nat) : Prop :=
  (∃ a c a2 c2, v = .returned (.tuple #[.agg #[.slice a r.2.1.length c, .int .i64 (r.2.2 : Nat)], .slice a2 r.1.length c2]) ∧ IsB w' (.slice a r.2.1.length c) r.2.1 ∧ IsB w' (.slice a2 r.1.length c2) r.1) ∧ Below w.heap.size w w'

set_option maxRecDepth 100000 in
set_option maxHeartbeats 4000000 in
/-- run, where the number cannot be read, or the head is wrong. -/
theorem rrun_bad (a : Option Addr) (c k : Nat) (l : List UInt8) (lc : UInt8) (x most : Int) (w : World) (hv : IsB w (.slice a l.length c) l) (hx : x = (lc.toNat : Int)) (hm : 0 ≤ most) (hh : headP lc l k ≠ 0) :
    Calls Tryz.prog 82 #[.agg #[.slice a l.length c, .int .i64 k], .int .u8 x, .int .i64 most] w fun v w' => RRunR w w' v (PK.runP lc most l k) := by
  have hr : PK.runP lc most l k = ([], l, headP lc l k) := PK.run_num lc most l k _ hm (numP_head hh)
  rw [hr]
  have Hv := Lib.hid hv
  have HH := Lib.hid (fun W (h : IsB W (.slice a l.length c) l) => head_any a c k l lc x W h hx)
  have hh1 : ((headP lc l k : Int) != 0) = true := by rw [bne_iff_ne]; omega
  have hm2 : ¬ (most < 0) := by omega
  clear hv hx hr hh hm
  generalize headP lc l k = j at *
  by_cases hk : k = 0
  · subst hk
    go_enter Tryz.func82, Tryz.ntmps82
    go_wp2_with fail
    refine (HH.out _ ((Hv.out.alloc _).alloc _)).mono ?_
    rintro v w1 ⟨rfl, b1⟩
    obtain ⟨g1, g2, bb⟩ := own2 b1
    obtain ⟨d0, d1, z0, z1⟩ := cells2 g1
    obtain ⟨p0, p1, q0, q1⟩ := cells2 g2
    have h1 := stored2 g1 (.slice a l.length c) (.int .i64 j)
    have h2 := (stored2_other (w := w1) (M := w.heap.size) (.slice a l.length c) (.int .i64 j) (K := w.heap.size + 1) (by omega)).trans g2
    have h3 := stored2 h2 (.slice a l.length c) (.int .i64 j)
    obtain ⟨e0, e1, _, _⟩ := cells2 h3
    have E0 := Lib.hid e0
    have E1 := Lib.hid e1
    have BB := Lib.hid (two_stores (two_stores bb (Nat.le_refl _) (.slice a l.length c) (.int .i64 j)) (M := w.heap.size + 1) (by omega) (.slice a l.length c) (.int .i64 j))
    clear b1 g1 g2 bb HH h1 h2 h3 e0 e1
    go_wp2
    generalize ((((w1.setCell ⟨w.heap.size, 0, none⟩ (.slice a l.length c)).setCell ⟨w.heap.size, 1, none⟩ (.int .i64 j)).setCell ⟨w.heap.size + 1, 0, none⟩ (.slice a l.length c)).setCell ⟨w.heap.size + 1, 1, none⟩ (.int .i64 j)) = W at *
    refine bodyPost_ret (v := .tuple #[.agg #[.slice a l.length c, .int .i64 j], .slice none 0 0]) (by simp [results, Tryz.results82, go_sem, E0.out, E1.out]) rfl ?_
    exact ⟨⟨a, c, none, 0, rfl, Hv.out.below BB.out, IsB.nil _⟩, BB.out⟩
  · have hk0 : ((k : Int) == 0) = false := by rw [beq_eq_false_iff_ne]; omega
    clear hk
    go_enter Tryz.func82, Tryz.ntmps82
    go_wp2_with fail
    refine (HH.out _ ((Hv.out.alloc _).alloc _)).mono ?_
    rintro v w1 ⟨rfl, b1⟩
    obtain ⟨g1, g2, bb⟩ := own2 b1
    obtain ⟨d0, d1, z0, z1⟩ := cells2 g1
    obtain ⟨p0, p1, q0, q1⟩ := cells2 g2
    have h1 := stored2 g1 (.slice a l.length c) (.int .i64 j)
    have h2 := (stored2_other (w := w1) (M := w.heap.size) (.slice a l.length c) (.int .i64 j) (K := w.heap.size + 1) (by omega)).trans g2
    have h3 := stored2 h2 (.slice a l.length c) (.int .i64 j)
    obtain ⟨e0, e1, _, _⟩ := cells2 h3
    have E0 := Lib.hid e0
    have E1 := Lib.hid e1
    have BB := Lib.hid (two_stores (two_stores bb (Nat.le_refl _) (.slice a l.length c) (.int .i64 j)) (M := w.heap.size + 1) (by omega) (.slice a l.length c) (.int .i64 j))
    clear b1 g1 g2 bb HH h1 h2 h3 e0 e1
    go_wp2
    generalize ((((w1.setCell ⟨w.heap.size, 0, none⟩ (.slice a l.length c)).setCell ⟨w.heap.size, 1, none⟩ (.int .i64 j)).setCell ⟨w.heap.size + 1, 0, none⟩ (.slice a l.length c)).setCell ⟨w.heap.size + 1, 1, none⟩ (.int .i64 j)) = W at *
    refine bodyPost_ret (v := .tuple #[.agg #[.slice a l.length c, .int .i64 j], .slice none 0 0]) (by simp [results, Tryz.results82, go_sem, E0.out, E1.out]) rfl ?_
    exact ⟨⟨a, c, none, 0, rfl, Hv.out.below BB.out, IsB.nil _⟩, BB.out⟩

set_option maxRecDepth 100000 in
set_option maxHeartbeats 4000000 in
/-- run, where the head is right. -/
theorem rrun_ok (a : Option Addr) (c : Nat) (l : List UInt8) (lc : UInt8) (x most : Int) (w : World) (hv : IsB w (.slice a l.length c) l) (hx : x = (lc.toNat : Int)) (hm : 0 ≤ most) (hm2 : most ≤ 4611686018427387904) (hl47 : l.length ≤ roomB) (hh : headP lc l 0 = 0) :
    Calls Tryz.prog 82 #[.agg #[.slice a l.length c, .int .i64 (0 : Nat)], .int .u8 x, .int .i64 most] w fun v w' => RRunR w w' v (PK.runP lc most l 0) := by
  have Hv := Lib.hid hv
  have HH := Lib.hid (fun W (h : IsB W (.slice a l.length c) l) => head_any a c 0 l lc x W h hx)
  obtain ⟨_, hb0, hln⟩ := headP_zero hh
  rw [hh] at HH
  have Hlp : Hid (1 ≤ l.length) := List.length_pos_iff.2 hln
  have Hcase := Lib.hid (PK.numP_cases lc 58 1 l 0)
  have Hb0 := Lib.hid hb0
  have Hl47 := Lib.hid hl47
  have hmn : ¬ (most < 0) := by omega
  have hwm : IntKind.u64.wrap most = most := by rw [IntKind.wrap_u64]; omega
  clear hv hx hh hb0 hln hl47
  go_enter Tryz.func82, Tryz.ntmps82
  go_wp2_with fail
  refine (HH.out _ ((Hv.out.alloc _).alloc _)).mono ?_
  rintro v w1 ⟨rfl, b1⟩
  obtain ⟨g1, g2, bb⟩ := own2 b1
  obtain ⟨d0, d1, z0, z1⟩ := cells2 g1
  have H1 := Lib.hid (stored2 g1 (.slice a l.length c) (.int .i64 0))
  have H2 := Lib.hid ((stored2_other (w := w1) (M := w.heap.size) (.slice a l.length c) (.int .i64 0) (K := w.heap.size + 1) (by omega)).trans g2)
  have BB2 := Lib.hid (two_stores bb (Nat.le_refl _) (.slice a l.length c) (.int .i64 0))
  clear b1 g1 g2 bb HH
  go_wp2_with fail
  generalize (w1.setCell ⟨w.heap.size, 0, none⟩ (.slice a l.length c)).setCell ⟨w.heap.size, 1, none⟩ (.int .i64 0) = W2 at *
  clear d0 d1 z0 z1
  have HD := Lib.hid (rdigits_any a c 1 l 58 58 W2 (Hv.out.below BB2.out) Hlp.out rfl)
  obtain ⟨d0, d1, z0, z1⟩ := cells2 H1.out
  -- an error: fail, and stores behind
  have fin : Hid (∀ (e : Nat) (w3 : World), Below W2.heap.size W2 w3 → (w3.cell? ⟨w.heap.size + 1, 0, none⟩ = some (.slice none 0 0) ∧ w3.cell? ⟨w.heap.size + 1, 1, none⟩ = some (.int .i64 0) ∧ w3.frozen? ⟨w.heap.size + 1, 0, none⟩ = false ∧ w3.frozen? ⟨w.heap.size + 1, 1, none⟩ = false) ∧
      ((w3.setCell ⟨w.heap.size + 1, 0, none⟩ (.slice a l.length c)).setCell ⟨w.heap.size + 1, 1, none⟩ (.int .i64 (e : Nat))).cell? ⟨w.heap.size + 1, 0, none⟩ = some (.slice a l.length c) ∧ ((w3.setCell ⟨w.heap.size + 1, 0, none⟩ (.slice a l.length c)).setCell ⟨w.heap.size + 1, 1, none⟩ (.int .i64 (e : Nat))).cell? ⟨w.heap.size + 1, 1, none⟩ = some (.int .i64 (e : Nat)) ∧
      Below w.heap.size w ((w3.setCell ⟨w.heap.size + 1, 0, none⟩ (.slice a l.length c)).setCell ⟨w.heap.size + 1, 1, none⟩ (.int .i64 (e : Nat)))) := by
    intro e w3 b3
    have g3 := (b3.block (w.heap.size + 1) (Array.getElem?_eq_some_iff.1 H2.out).1).trans H2.out
    have h3 := stored2 g3 (.slice a l.length c) (.int .i64 (e : Nat))
    obtain ⟨e0, e1, _, _⟩ := cells2 h3
    exact ⟨cells2 g3, e0, e1, two_stores (BB2.out.trans (b3.mono BB2.out.size)) (M := w.heap.size + 1) (by omega) (.slice a l.length c) (.int .i64 (e : Nat))⟩
  by_cases hd : (PK.digs 58 (l.drop 1)).2.2 = 0
  · have hnp : PK.numP lc 58 1 l 0 = ((PK.digs 58 (l.drop 1)).1, 1 + (PK.digs 58 (l.drop 1)).2.1 + 1, true, 0) := by
      rcases Hcase.out with ⟨e, he, _⟩ | ⟨_, _, _, h4⟩
      · exfalso
        unfold PK.numP at he
        rw [if_neg (by simp), if_neg (fun q => q Hb0.out), if_neg (fun q => q hd)] at he
        simp at he
      · exact h4
    obtain ⟨_, _, b1, b2, b3, _⟩ := PK.numP_ok (lc := lc) (s := 58) (f := 1) (l := l) (k := 0) (by rw [hnp])
    rw [hnp] at b1 b2 b3
    simp only [] at b1 b2 b3
    have hdv : rdigV 58 1 l = .tuple #[.int .u64 (PK.digs 58 (l.drop 1)).1, .int .i64 ((1 + (PK.digs 58 (l.drop 1)).2.1 + 1 : Nat) : Int), .int .i64 0] := by
      unfold rdigV; rw [hd, if_pos rfl]; simp
    rw [hdv] at HD
    have Hnp := Lib.hid hnp
    clear hd hnp hdv Hcase Hb0
    generalize (PK.digs 58 (l.drop 1)).1 = n at *
    generalize 1 + (PK.digs 58 (l.drop 1)).2.1 + 1 = e at *
    refine HD.out.mono ?_
    rintro v w2 ⟨rfl, rfl⟩
    by_cases hg : most < (n : Int)
    · have hu : PK.runP lc most l 0 = ([], l, 2) := by unfold PK.runP; rw [if_neg (by omega), Hnp.out]; simp [hg]
      have Hu := Lib.hid hu
      clear hu HD Hnp b1 b2 b3 hm2
      have HF := Lib.hid (fun W => fail_any a l.length c 0 2 W)
      simp only [if_true] at HF
      go_wp2_with fail
      refine (HF.out _).mono ?_
      rintro v w3 ⟨rfl, b3⟩
      obtain ⟨⟨p0, p1, q0, q1⟩, e0, e1, bb⟩ := fin.out 2 w3 b3
      have E0 := Lib.hid e0
      have E1 := Lib.hid e1
      have BB := Lib.hid bb
      clear b3 e0 e1 bb HF d0 d1 z0 z1 fin
      go_wp2
      generalize ((w3.setCell ⟨w.heap.size + 1, 0, none⟩ (.slice a l.length c)).setCell ⟨w.heap.size + 1, 1, none⟩ (.int .i64 2)) = W at *
      refine bodyPost_ret (v := .tuple #[.agg #[.slice a l.length c, .int .i64 (2 : Nat)], .slice none 0 0]) (by simp [results, Tryz.results82, go_sem, E0.out, E1.out]) rfl ?_
      rw [Hu.out]
      exact ⟨⟨a, c, none, 0, rfl, Hv.out.below BB.out, IsB.nil _⟩, BB.out⟩
    · have hl := Hl47.out
      have hw2 : IntKind.i64.wrap ((l.length : Int) - (e : Int)) = (l.length : Int) - e := by simp only [roomB] at hl; rw [IntKind.wrap_i64]; omega
      have hw3 : IntKind.u64.wrap ((l.length : Int) - (e : Int)) = (l.length : Int) - e := by simp only [roomB] at hl; rw [IntKind.wrap_u64]; omega
      by_cases hr : l.length - e < n
      · have hu : PK.runP lc most l 0 = ([], l, 12) := by unfold PK.runP; rw [if_neg (by omega), Hnp.out]; simp [hg, hr]
        have Hu := Lib.hid hu
        have hr2 : (l.length : Int) - e < (n : Int) := by omega
        clear hu HD Hnp b1 b2 b3 hm2 hr hl
        have HF := Lib.hid (fun W => fail_any a l.length c 0 12 W)
        simp only [if_true] at HF
        go_wp2_with fail
        refine (HF.out _).mono ?_
        rintro v w3 ⟨rfl, b3⟩
        obtain ⟨⟨p0, p1, q0, q1⟩, e0, e1, bb⟩ := fin.out 12 w3 b3
        have E0 := Lib.hid e0
        have E1 := Lib.hid e1
        have BB := Lib.hid bb
        clear b3 e0 e1 bb HF d0 d1 z0 z1 fin
        go_wp2
        generalize ((w3.setCell ⟨w.heap.size + 1, 0, none⟩ (.slice a l.length c)).setCell ⟨w.heap.size + 1, 1, none⟩ (.int .i64 12)) = W at *
        refine bodyPost_ret (v := .tuple #[.agg #[.slice a l.length c, .int .i64 (12 : Nat)], .slice none 0 0]) (by simp [results, Tryz.results82, go_sem, E0.out, E1.out]) rfl ?_
        rw [Hu.out]
        exact ⟨⟨a, c, none, 0, rfl, Hv.out.below BB.out, IsB.nil _⟩, BB.out⟩
      · have hu : PK.runP lc most l 0 = ((l.drop e).take n, l.drop (e + n), 0) := by unfold PK.runP; rw [if_neg (by omega), Hnp.out]; simp [hg, hr]
        have Hu := Lib.hid hu
        have hr2 : ¬ ((l.length : Int) - e < (n : Int)) := by omega
        have hen : e + n ≤ l.length := by omega
        have hw4 : IntKind.i64.wrap (n : Int) = n := by simp only [roomB] at hl; rw [IntKind.wrap_i64]; omega
        have hw5 : IntKind.i64.wrap ((e : Int) + (n : Int)) = (e : Int) + n := by simp only [roomB] at hl; rw [IntKind.wrap_i64]; omega
        have hcl : l.length ≤ c := by obtain ⟨_, cap', he', h1, _⟩ := Hv.out; simp at he'; omega
        have hs1 : ∀ W : World, (Instr.sliceAt 22 (.slice a l.length c) (some (.int .i64 (e : Int))) (some (.int .i64 ((e : Int) + n))) none).run Tryz.prog W = .ok (.slice (cutAt a e c) n (c - e)) W := by
          intro W
          have := run_sliceAt_lh T22 a l.length c (e : Int) ((e : Int) + n) (by omega) (by omega) (by omega) W
          rw [this]
          congr 2
          · congr 1
            omega
        obtain ⟨hsl, _⟩ := rest_from (Hv.out.below BB2.out) (e + n) hen
        rw [show ((e + n : Nat) : Int) = (e : Int) + n from by simp] at hsl
        have hcut := isB_cut Hv.out e (e + n) (by omega) hen
        have hlist : (l.take (e + n)).drop e = (l.drop e).take n := by rw [List.drop_take]; congr 1; omega
        have h2c := hcut.1
        rw [hlist, show e + n - e = n from by omega] at h2c
        have h1 := stored1 H1.out (.slice (cutAt a (e + n) c) (l.length - (e + n)) (c - (e + n)))
        have h2 : (W2.setCell ⟨w.heap.size, 0, none⟩ (.slice (cutAt a (e + n) c) (l.length - (e + n)) (c - (e + n)))).heap[w.heap.size + 1]? = some (.cells #[.slice none 0 0, .int .i64 0] 66) := (Below.heap_setCell _ _ _ _ (by simp)).trans H2.out
        obtain ⟨p0, p1, q0, q1⟩ := cells2 H2.out
        have h3 := stored2 h2 (.slice (cutAt a (e + n) c) (l.length - (e + n)) (c - (e + n))) (.int .i64 0)
        obtain ⟨e0, e1, _, _⟩ := cells2 h3
        obtain ⟨x0, _, _, _⟩ := cells2 h1
        have E0 := Lib.hid e0
        have E1 := Lib.hid e1
        have B4 := Lib.hid (two_stores (BB2.out.setCell (p := ⟨w.heap.size, 0, none⟩) (Nat.le_refl _) (.slice (cutAt a (e + n) c) (l.length - (e + n)) (c - (e + n)))) (M := w.heap.size + 1) (by omega) (.slice (cutAt a (e + n) c) (l.length - (e + n)) (c - (e + n))) (.int .i64 0))
        have HV5 := Lib.hid ((rest_from Hv.out (e + n) hen).2.below B4.out)
        have HV6 := Lib.hid (h2c.below B4.out)
        have Hen := Lib.hid hen
        clear hu HD Hnp h1 h2 h3 e0 e1 hr hl b1 b2 b3 hm2 fin hcut hlist h2c hcl hen
        go_wp2
        generalize ((W2.setCell ⟨w.heap.size, 0, none⟩ (.slice (cutAt a (e + n) c) (l.length - (e + n)) (c - (e + n)))).setCell ⟨w.heap.size + 1, 0, none⟩ (.slice (cutAt a (e + n) c) (l.length - (e + n)) (c - (e + n)))).setCell ⟨w.heap.size + 1, 1, none⟩ (.int .i64 0) = W at *
        refine bodyPost_ret (v := .tuple #[.agg #[.slice (cutAt a (e + n) c) (l.length - (e + n)) (c - (e + n)), .int .i64 0], .slice (cutAt a e c) n (c - e)]) (by simp [results, Tryz.results82, go_sem, E0.out, E1.out]) rfl ?_
        rw [Hu.out]
        have hn : ((l.drop e).take n).length = n := by have := Hen.out; simp; omega
        refine ⟨⟨cutAt a (e + n) c, c - (e + n), cutAt a e c, c - e, by rw [hn]; simp, by simpa using HV5.out, by rw [hn]; exact HV6.out⟩, B4.out⟩
  · obtain ⟨e, he⟩ : ∃ e, (PK.digs 58 (l.drop 1)).2.2 = e := ⟨_, rfl⟩
    have he0 : ((e : Int) == 0) = false := by simp; omega
    have he1 : ((e : Int) != 0) = true := by simp; omega
    have hnp : PK.numP lc 58 1 l 0 = (0, 0, false, e) := by
      unfold PK.numP
      rw [if_neg (by simp), if_neg (by simp [Hb0.out]), if_pos hd, he]
    have hdv : rdigV 58 1 l = .tuple #[.int .u64 (0 : Nat), .int .i64 0, .int .i64 e] := by
      unfold rdigV; rw [if_neg hd, (PK.digs_zero 58 _ hd).1, he]
    rw [hdv] at HD
    have hu : PK.runP lc most l 0 = ([], l, e) := PK.run_num lc most l 0 e hm hnp
    have Hu := Lib.hid hu
    clear hd hnp hdv Hcase Hb0 he hu
    refine HD.out.mono ?_
    rintro v w2 ⟨rfl, rfl⟩
    clear HD
    have HF := Lib.hid (fun W => fail_any a l.length c 0 e W)
    simp only [if_true] at HF
    go_wp2_with fail
    refine (HF.out _).mono ?_
    rintro v w3 ⟨rfl, b3⟩
    obtain ⟨⟨p0, p1, q0, q1⟩, e0, e1, bb⟩ := fin.out e w3 b3
    have E0 := Lib.hid e0
    have E1 := Lib.hid e1
    have BB := Lib.hid bb
    clear b3 e0 e1 bb HF d0 d1 z0 z1 fin
    go_wp2
    generalize ((w3.setCell ⟨w.heap.size + 1, 0, none⟩ (.slice a l.length c)).setCell ⟨w.heap.size + 1, 1, none⟩ (.int .i64 (e : Nat))) = W at *
    refine bodyPost_ret (v := .tuple #[.agg #[.slice a l.length c, .int .i64 (e : Nat)], .slice none 0 0]) (by simp [results, Tryz.results82, go_sem, E0.out, E1.out]) rfl ?_
    rw [Hu.out]
    exact ⟨⟨a, c, none, 0, rfl, Hv.out.below BB.out, IsB.nil _⟩, BB.out⟩

theorem rrun_any (a : Option Addr) (c k : Nat) (l : List UInt8) (lc : UInt8) (x most : Int) (w : World) (hv : IsB w (.slice a l.length c) l) (hx : x = (lc.toNat : Int)) (hm : 0 ≤ most) (hm2 : most ≤ 4611686018427387904) (hl47 : l.length ≤ roomB) :
    Calls Tryz.prog 82 #[.agg #[.slice a l.length c, .int .i64 k], .int .u8 x, .int .i64 most] w fun v w' => RRunR w w' v (PK.runP lc most l k) := by
  by_cases hh : headP lc l k = 0
  · obtain ⟨rfl, _⟩ := headP_zero hh
    exact rrun_ok a c l lc x most w hv hx hm hm2 hl47 hh
  · exact rrun_bad a c k l lc x most w hv hx hm hh
end Go.Proofs.YtflghelhdalhiaaGreatDoor
