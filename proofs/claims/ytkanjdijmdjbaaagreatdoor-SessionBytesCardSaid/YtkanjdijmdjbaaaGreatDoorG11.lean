/-
  The document's answer of layer 1: run, ReadBytes, ReadBool, ReadCount, by contracts.
  Conditions: what the reader holds reads as bytes and is at most 2^47 bytes long; the bound is from 0 to 2^62.
  The document's answer of layer 1: ReadBytes, ReadBool, ReadCount, by contracts.
-/
import Derived.Test.YtkanjdijmdjbaaaGreatDoorG10
import Derived.Test.YtkanjdijmdjbaaaGreatDoorG5
import Derived.Test.YtkanjdijmdjbaaaGreatDoorG12
namespace Go.Proofs.YtkanjdijmdjbaaaGreatDoor
open Go Go.RowKit

/-- What run answers. -/
def RRunR (w w' : World) (v : Ending) (r : List UInt8 × List UInt8 × Nat) : Prop :=
  (∃ a c a2 c2, v = .returned (.tuple #[.agg #[.slice a r.2.1.length c, .int .i64 (r.2.2 : Nat)], .slice a2 r.1.length c2]) ∧ IsB w' (.slice a r.2.1.length c) r.2.1 ∧ IsB w' (.slice a2 r.1.length c2) r.1) ∧ Below w.heap.size w w'

set_option maxRecDepth 100000 in
set_option maxHeartbeats 4000000 in
/-- run, where the number cannot be read, or the head is wrong. -/
theorem rrun_bad (a : Option Addr) (c k : Nat) (l : List UInt8) (lc : UInt8) (x most : Int) (w : World) (hv : IsB w (.slice a l.length c) l) (hx : x = (lc.toNat : Int)) (hm : 0 ≤ most) (hh : headP lc l k ≠ 0) :
    Calls Tryz.prog 58 #[.agg #[.slice a l.length c, .int .i64 k], .int .u8 x, .int .i64 most] w fun v w' => RRunR w w' v (PK.runP lc most l k) := by
  have hr : PK.runP lc most l k = ([], l, headP lc l k) := PK.run_num lc most l k _ hm (numP_head hh)
  rw [hr]
  have Hv := Lib.hid hv
  have HH := Lib.hid (fun W (h : IsB W (.slice a l.length c) l) => head_any a c k l lc x W h hx)
  have hh1 : ((headP lc l k : Int) != 0) = true := by rw [bne_iff_ne]; omega
  have hm2 : ¬ (most < 0) := by omega
  clear hv hx hr hh hm
  generalize headP lc l k = j at *
  by_cases hk : k = 0
  · subst hk
    go_enter Tryz.func58, Tryz.ntmps58
    go_wp2_with fail
    refine (HH.out _ ((Hv.out.alloc _).alloc _)).mono ?_
    rintro v w1 ⟨rfl, b1⟩
    obtain ⟨g1, g2, bb⟩ := own2 b1
    obtain ⟨d0, d1, z0, z1⟩ := cells2 g1
    obtain ⟨p0, p1, q0, q1⟩ := cells2 g2
    have h1 := stored2 g1 (.slice a l.length c) (.int .i64 j)
    have h2 := (stored2_other (w := w1) (M := w.heap.size) (.slice a l.length c) (.int .i64 j) (K := w.heap.size + 1) (by omega)).trans g2
    have h3 := stored2 h2 (.slice a l.length c) (.int .i64 j)
    obtain ⟨e0, e1, _, _⟩ := cells2 h3
    have E0 := Lib.hid e0
    have E1 := Lib.hid e1
    have BB := Lib.hid (two_stores (two_stores bb (Nat.le_refl _) (.slice a l.length c) (.int .i64 j)) (M := w.heap.size + 1) (by omega) (.slice a l.length c) (.int .i64 j))
    clear b1 g1 g2 bb HH h1 h2 h3 e0 e1
    go_wp2
    generalize ((((w1.setCell ⟨w.heap.size, 0, none⟩ (.slice a l.length c)).setCell ⟨w.heap.size, 1, none⟩ (.int .i64 j)).setCell ⟨w.heap.size + 1, 0, none⟩ (.slice a l.length c)).setCell ⟨w.heap.size + 1, 1, none⟩ (.int .i64 j)) = W at *
    refine bodyPost_ret (v := .tuple #[.agg #[.slice a l.length c, .int .i64 j], .slice none 0 0]) (by simp [results, Tryz.results58, go_sem, E0.out, E1.out]) rfl ?_
    exact ⟨⟨a, c, none, 0, rfl, Hv.out.below BB.out, IsB.nil _⟩, BB.out⟩
  · have hk0 : ((k : Int) == 0) = false := by rw [beq_eq_false_iff_ne]; omega
    clear hk
    go_enter Tryz.func58, Tryz.ntmps58
    go_wp2_with fail
    refine (HH.out _ ((Hv.out.alloc _).alloc _)).mono ?_
    rintro v w1 ⟨rfl, b1⟩
    obtain ⟨g1, g2, bb⟩ := own2 b1
    obtain ⟨d0, d1, z0, z1⟩ := cells2 g1
    obtain ⟨p0, p1, q0, q1⟩ := cells2 g2
    have h1 := stored2 g1 (.slice a l.length c) (.int .i64 j)
    have h2 := (stored2_other (w := w1) (M := w.heap.size) (.slice a l.length c) (.int .i64 j) (K := w.heap.size + 1) (by omega)).trans g2
    have h3 := stored2 h2 (.slice a l.length c) (.int .i64 j)
    obtain ⟨e0, e1, _, _⟩ := cells2 h3
    have E0 := Lib.hid e0
    have E1 := Lib.hid e1
    have BB := Lib.hid (two_stores (two_stores bb (Nat.le_refl _) (.slice a l.length c) (.int .i64 j)) (M := w.heap.size + 1) (by omega) (.slice a l.length c) (.int .i64 j))
    clear b1 g1 g2 bb HH h1 h2 h3 e0 e1
    go_wp2
    generalize ((((w1.setCell ⟨w.heap.size, 0, none⟩ (.slice a l.length c)).setCell ⟨w.heap.size, 1, none⟩ (.int .i64 j)).setCell ⟨w.heap.size + 1, 0, none⟩ (.slice a l.length c)).setCell ⟨w.heap.size + 1, 1, none⟩ (.int .i64 j)) = W at *
    refine bodyPost_ret (v := .tuple #[.agg #[.slice a l.length c, .int .i64 j], .slice none 0 0]) (by simp [results, Tryz.results58, go_sem, E0.out, E1.out]) rfl ?_
    exact ⟨⟨a, c, none, 0, rfl, Hv.out.below BB.out, IsB.nil _⟩, BB.out⟩

set_option maxRecDepth 100000 in
set_option maxHeartbeats 4000000 in
/-- run, where the head is right. -/
theorem rrun_ok (a : Option Addr) (c : Nat) (l : List UInt8) (lc : UInt8) (x most : Int) (w : World) (hv : IsB w (.slice a l.length c) l) (hx : x = (lc.toNat : Int)) (hm : 0 ≤ most) (hm2 : most ≤ 4611686018427387904) (hl47 : l.length ≤ roomB) (hh : headP lc l 0 = 0) :
    Calls Tryz.prog 58 #[.agg #[.slice a l.length c, .int .i64 (0 : Nat)], .int .u8 x, .int .i64 most] w fun v w' => RRunR w w' v (PK.runP lc most l 0) := by
  have Hv := Lib.hid hv
  have HH := Lib.hid (fun W (h : IsB W (.slice a l.length c) l) => head_any a c 0 l lc x W h hx)
  obtain ⟨_, hb0, hln⟩ := headP_zero hh
  rw [hh] at HH
  have Hlp : Hid (1 ≤ l.length) := List.length_pos_iff.2 hln
  have Hcase := Lib.hid (PK.numP_cases lc 58 1 l 0)
  have Hb0 := Lib.hid hb0
  have Hl47 := Lib.hid hl47
  have hmn : ¬ (most < 0) := by omega
  have hwm : IntKind.u64.wrap most = most := by rw [IntKind.wrap_u64]; omega
  clear hv hx hh hb0 hln hl47
  go_enter Tryz.func58, Tryz.ntmps58
  go_wp2_with fail
  refine (HH.out _ ((Hv.out.alloc _).alloc _)).mono ?_
  rintro v w1 ⟨rfl, b1⟩
  obtain ⟨g1, g2, bb⟩ := own2 b1
  obtain ⟨d0, d1, z0, z1⟩ := cells2 g1
  have H1 := Lib.hid (stored2 g1 (.slice a l.length c) (.int .i64 0))
  have H2 := Lib.hid ((stored2_other (w := w1) (M := w.heap.size) (.slice a l.length c) (.int .i64 0) (K := w.heap.size + 1) (by omega)).trans g2)
  have BB2 := Lib.hid (two_stores bb (Nat.le_refl _) (.slice a l.length c) (.int .i64 0))
  clear b1 g1 g2 bb HH
  go_wp2_with fail
  generalize (w1.setCell ⟨w.heap.size, 0, none⟩ (.slice a l.length c)).setCell ⟨w.heap.size, 1, none⟩ (.int .i64 0) = W2 at *
  clear d0 d1 z0 z1
  have HD := Lib.hid (rdigits_any a c 1 l 58 58 W2 (Hv.out.below BB2.out) Hlp.out rfl)
  obtain ⟨d0, d1, z0, z1⟩ := cells2 H1.out
  -- an error: fail, and stores behind
  have fin : Hid (∀ (e : Nat) (w3 : World), Below W2.heap.size W2 w3 → (w3.cell? ⟨w.heap.size + 1, 0, none⟩ = some (.slice none 0 0) ∧ w3.cell? ⟨w.heap.size + 1, 1, none⟩ = some (.int .i64 0) ∧ w3.frozen? ⟨w.heap.size + 1, 0, none⟩ = false ∧ w3.frozen? ⟨w.heap.size + 1, 1, none⟩ = false) ∧
      ((w3.setCell ⟨w.heap.size + 1, 0, none⟩ (.slice a l.length c)).setCell ⟨w.heap.size + 1, 1, none⟩ (.int .i64 (e : Nat))).cell? ⟨w.heap.size + 1, 0, none⟩ = some (.slice a l.length c) ∧ ((w3.setCell ⟨w.heap.size + 1, 0, none⟩ (.slice a l.length c)).setCell ⟨w.heap.size + 1, 1, none⟩ (.int .i64 (e : Nat))).cell? ⟨w.heap.size + 1, 1, none⟩ = some (.int .i64 (e : Nat)) ∧
      Below w.heap.size w ((w3.setCell ⟨w.heap.size + 1, 0, none⟩ (.slice a l.length c)).setCell ⟨w.heap.size + 1, 1, none⟩ (.int .i64 (e : Nat)))) := by
    intro e w3 b3
    have g3 := (b3.block (w.heap.size + 1) (Array.getElem?_eq_some_iff.1 H2.out).1).trans H2.out
    have h3 := stored2 g3 (.slice a l.length c) (.int .i64 (e : Nat))
    obtain ⟨e0, e1, _, _⟩ := cells2 h3
    exact ⟨cells2 g3, e0, e1, two_stores (BB2.out.trans (b3.mono BB2.out.size)) (M := w.heap.size + 1) (by omega) (.slice a l.length c) (.int .i64 (e : Nat))⟩
  by_cases hd : (PK.digs 58 (l.drop 1)).2.2 = 0
  · have hnp : PK.numP lc 58 1 l 0 = ((PK.digs 58 (l.drop 1)).1, 1 + (PK.digs 58 (l.drop 1)).2.1 + 1, true, 0) := by
      rcases Hcase.out with ⟨e, he, _⟩ | ⟨_, _, _, h4⟩
      · exfalso
        unfold PK.numP at he
        rw [if_neg (by simp), if_neg (fun q => q Hb0.out), if_neg (fun q => q hd)] at he
        simp at he
      · exact h4
    obtain ⟨_, _, b1, b2, b3, _⟩ := PK.numP_ok (lc := lc) (s := 58) (f := 1) (l := l) (k := 0) (by rw [hnp])
    rw [hnp] at b1 b2 b3
    simp only [] at b1 b2 b3
    have hdv : rdigV 58 1 l = .tuple #[.int .u64 (PK.digs 58 (l.drop 1)).1, .int .i64 ((1 + (PK.digs 58 (l.drop 1)).2.1 + 1 : Nat) : Int), .int .i64 0] := by
      unfold rdigV; rw [hd, if_pos rfl]; simp
    rw [hdv] at HD
    have Hnp := Lib.hid hnp
    clear hd hnp hdv Hcase Hb0
    generalize (PK.digs 58 (l.drop 1)).1 = n at *
    generalize 1 + (PK.digs 58 (l.drop 1)).2.1 + 1 = e at *
    refine HD.out.mono ?_
    rintro v w2 ⟨rfl, rfl⟩
    by_cases hg : most < (n : Int)
    · have hu : PK.runP lc most l 0 = ([], l, 2) := by unfold PK.runP; rw [if_neg (by omega), Hnp.out]; simp [hg]
      have Hu := Lib.hid hu
      clear hu HD Hnp b1 b2 b3 hm2
      have HF := Lib.hid (fun W => fail_any a l.length c 0 2 W)
      simp only [if_true] at HF
      go_wp2_with fail
      refine (HF.out _).mono ?_
      rintro v w3 ⟨rfl, b3⟩
      obtain ⟨⟨p0, p1, q0, q1⟩, e0, e1, bb⟩ := fin.out 2 w3 b3
      have E0 := Lib.hid e0
      have E1 := Lib.hid e1
      have BB := Lib.hid bb
      clear b3 e0 e1 bb HF d0 d1 z0 z1 fin
      go_wp2
      generalize ((w3.setCell ⟨w.heap.size + 1, 0, none⟩ (.slice a l.length c)).setCell ⟨w.heap.size + 1, 1, none⟩ (.int .i64 2)) = W at *
      refine bodyPost_ret (v := .tuple #[.agg #[.slice a l.length c, .int .i64 (2 : Nat)], .slice none 0 0]) (by simp [results, Tryz.results58, go_sem, E0.out, E1.out]) rfl ?_
      rw [Hu.out]
      exact ⟨⟨a, c, none, 0, rfl, Hv.out.below BB.out, IsB.nil _⟩, BB.out⟩
    · have hl := Hl47.out
      have hw2 : IntKind.i64.wrap ((l.length : Int) - (e : Int)) = (l.length : Int) - e := by simp only [roomB] at hl; rw [IntKind.wrap_i64]; omega
      have hw3 : IntKind.u64.wrap ((l.length : Int) - (e : Int)) = (l.length : Int) - e := by simp only [roomB] at hl; rw [IntKind.wrap_u64]; omega
      by_cases hr : l.length - e < n
      · have hu : PK.runP lc most l 0 = ([], l, 12) := by unfold PK.runP; rw [if_neg (by omega), Hnp.out]; simp [hg, hr]
        have Hu := Lib.hid hu
        have hr2 : (l.length : Int) - e < (n : Int) := by omega
        clear hu HD Hnp b1 b2 b3 hm2 hr hl
        have HF := Lib.hid (fun W => fail_any a l.length c 0 12 W)
        simp only [if_true] at HF
        go_wp2_with fail
        refine (HF.out _).mono ?_
        rintro v w3 ⟨rfl, b3⟩
        obtain ⟨⟨p0, p1, q0, q1⟩, e0, e1, bb⟩ := fin.out 12 w3 b3
        have E0 := Lib.hid e0
        have E1 := Lib.hid e1
        have BB := Lib.hid bb
        clear b3 e0 e1 bb HF d0 d1 z0 z1 fin
        go_wp2
        generalize ((w3.setCell ⟨w.heap.size + 1, 0, none⟩ (.slice a l.length c)).setCell ⟨w.heap.size + 1, 1, none⟩ (.int .i64 12)) = W at *
        refine bodyPost_ret (v := .tuple #[.agg #[.slice a l.length c, .int .i64 (12 : Nat)], .slice none 0 0]) (by simp [results, Tryz.results58, go_sem, E0.out, E1.out]) rfl ?_
        rw [Hu.out]
        exact ⟨⟨a, c, none, 0, rfl, Hv.out.below BB.out, IsB.nil _⟩, BB.out⟩
      · have hu : PK.runP lc most l 0 = ((l.drop e).take n, l.drop (e + n), 0) := by unfold PK.runP; rw [if_neg (by omega), Hnp.out]; simp [hg, hr]
        have Hu := Lib.hid hu
        have hr2 : ¬ ((l.length : Int) - e < (n : Int)) := by omega
        have hen : e + n ≤ l.length := by omega
        have hw4 : IntKind.i64.wrap (n : Int) = n := by simp only [roomB] at hl; rw [IntKind.wrap_i64]; omega
        have hw5 : IntKind.i64.wrap ((e : Int) + (n : Int)) = (e : Int) + n := by simp only [roomB] at hl; rw [IntKind.wrap_i64]; omega
        have hcl : l.length ≤ c := by obtain ⟨_, cap', he', h1, _⟩ := Hv.out; simp at he'; omega
        have hs1 : ∀ W : World, (Instr.sliceAt 22 (.slice a l.length c) (some (.int .i64 (e : Int))) (some (.int .i64 ((e : Int) + n))) none).run Tryz.prog W = .ok (.slice (cutAt a e c) n (c - e)) W := by
          intro W
          have := run_sliceAt_lh T22 a l.length c (e : Int) ((e : Int) + n) (by omega) (by omega) (by omega) W
          rw [this]
          congr 2
          · congr 1
            omega
        obtain ⟨hsl, _⟩ := rest_from (Hv.out.below BB2.out) (e + n) hen
        rw [show ((e + n : Nat) : Int) = (e : Int) + n from by simp] at hsl
        have hcut := isB_cut Hv.out e (e + n) (by omega) hen
        have hlist : (l.take (e + n)).drop e = (l.drop e).take n := by rw [List.drop_take]; congr 1; omega
        have h2c := hcut.1
        rw [hlist, show e + n - e = n from by omega] at h2c
        have h1 := stored1 H1.out (.slice (cutAt a (e + n) c) (l.length - (e + n)) (c - (e + n)))
        have h2 : (W2.setCell ⟨w.heap.size, 0, none⟩ (.slice (cutAt a (e + n) c) (l.length - (e + n)) (c - (e + n)))).heap[w.heap.size + 1]? = some (.cells #[.slice none 0 0, .int .i64 0] 80) := (Below.heap_setCell _ _ _ _ (by simp)).trans H2.out
        obtain ⟨p0, p1, q0, q1⟩ := cells2 H2.out
        have h3 := stored2 h2 (.slice (cutAt a (e + n) c) (l.length - (e + n)) (c - (e + n))) (.int .i64 0)
        obtain ⟨e0, e1, _, _⟩ := cells2 h3
        obtain ⟨x0, _, _, _⟩ := cells2 h1
        have E0 := Lib.hid e0
        have E1 := Lib.hid e1
        have B4 := Lib.hid (two_stores (BB2.out.setCell (p := ⟨w.heap.size, 0, none⟩) (Nat.le_refl _) (.slice (cutAt a (e + n) c) (l.length - (e + n)) (c - (e + n)))) (M := w.heap.size + 1) (by omega) (.slice (cutAt a (e + n) c) (l.length - (e + n)) (c - (e + n))) (.int .i64 0))
        have HV5 := Lib.hid ((rest_from Hv.out (e + n) hen).2.below B4.out)
        have HV6 := Lib.hid (h2c.below B4.out)
        have Hen := Lib.hid hen
        clear hu HD Hnp h1 h2 h3 e0 e1 hr hl b1 b2 b3 hm2 fin hcut hlist h2c hcl hen
        go_wp2
        generalize ((W2.setCell ⟨w.heap.size, 0, none⟩ (.slice (cutAt a (e + n) c) (l.length - (e + n)) (c - (e + n)))).setCell ⟨w.heap.size + 1, 0, none⟩ (.slice (cutAt a (e + n) c) (l.length - (e + n)) (c - (e + n)))).setCell ⟨w.heap.size + 1, 1, none⟩ (.int .i64 0) = W at *
        refine bodyPost_ret (v := .tuple #[.agg #[.slice (cutAt a (e + n) c) (l.length - (e + n)) (c - (e + n)), .int .i64 0], .slice (cutAt a e c) n (c - e)]) (by simp [results, Tryz.results58, go_sem, E0.out, E1.out]) rfl ?_
        rw [Hu.out]
        have hn : ((l.drop e).take n).length = n := by have := Hen.out; simp; omega
        refine ⟨⟨cutAt a (e + n) c, c - (e + n), cutAt a e c, c - e, by rw [hn]; simp, by simpa using HV5.out, by rw [hn]; exact HV6.out⟩, B4.out⟩
  · obtain ⟨e, he⟩ : ∃ e, (PK.digs 58 (l.drop 1)).2.2 = e := ⟨_, rfl⟩
    have he0 : ((e : Int) == 0) = false := by simp; omega
    have he1 : ((e : Int) != 0) = true := by simp; omega
    have hnp : PK.numP lc 58 1 l 0 = (0, 0, false, e) := by
      unfold PK.numP
      rw [if_neg (by simp), if_neg (by simp [Hb0.out]), if_pos hd, he]
    have hdv : rdigV 58 1 l = .tuple #[.int .u64 (0 : Nat), .int .i64 0, .int .i64 e] := by
      unfold rdigV; rw [if_neg hd, (PK.digs_zero 58 _ hd).1, he]
    rw [hdv] at HD
    have hu : PK.runP lc most l 0 = ([], l, e) := PK.run_num lc most l 0 e hm hnp
    have Hu := Lib.hid hu
    clear hd hnp hdv Hcase Hb0 he hu
    refine HD.out.mono ?_
    rintro v w2 ⟨rfl, rfl⟩
    clear HD
    have HF := Lib.hid (fun W => fail_any a l.length c 0 e W)
    simp only [if_true] at HF
    go_wp2_with fail
    refine (HF.out _).mono ?_
    rintro v w3 ⟨rfl, b3⟩
    obtain ⟨⟨p0, p1, q0, q1⟩, e0, e1, bb⟩ := fin.out e w3 b3
    have E0 := Lib.hid e0
    have E1 := Lib.hid e1
    have BB := Lib.hid bb
    clear b3 e0 e1 bb HF d0 d1 z0 z1 fin
    go_wp2
    generalize ((w3.setCell ⟨w.heap.size + 1, 0, none⟩ (.slice a l.length c)).setCell ⟨w.heap.size + 1, 1, none⟩ (.int .i64 (e : Nat))) = W at *
    refine bodyPost_ret (v := .tuple #[.agg #[.slice a l.length c, .int .i64 (e : Nat)], .slice none 0 0]) (by simp [results, Tryz.results58, go_sem, E0.out, E1.out]) rfl ?_
    rw [Hu.out]
    exact ⟨⟨a, c, none, 0, rfl, Hv.out.below BB.out, IsB.nil _⟩, BB.out⟩

theorem rrun_any (a : Option Addr) (c k : Nat) (l : List UInt8) (lc : UInt8) (x most : Int) (w : World) (hv : IsB w (.slice a l.length c) l) (hx : x = (lc.toNat : Int)) (hm : 0 ≤ most) (hm2 : most ≤ 4611686018427387904) (hl47 : l.length ≤ roomB) :
    Calls Tryz.prog 58 #[.agg #[.slice a l.length c, .int .i64 k], .int .u8 x, .int .i64 most] w fun v w' => RRunR w w' v (PK.runP lc most l k) := by
  by_cases hh : headP lc l k = 0
  · obtain ⟨rfl, _⟩ := headP_zero hh
    exact rrun_ok a c l lc x most w hv hx hm hm2 hl47 hh
  · exact rrun_bad a c k l lc x most w hv hx hm hh
set_option maxRecDepth 100000 in
set_option maxHeartbeats 2000000 in
/-- ReadBytes. -/
theorem rreadBytes_any (a : Option Addr) (c k : Nat) (l : List UInt8) (most : Int) (w : World) (hv : IsB w (.slice a l.length c) l) (hm : 0 ≤ most) (hm2 : most ≤ 4611686018427387904) (hl47 : l.length ≤ roomB) :
    Calls Tryz.prog 22 #[.agg #[.slice a l.length c, .int .i64 k], .int .i64 most] w fun v w' => RRunR w w' v (PK.runP 98 most l k) := by
  have HR := Lib.hid (fun W (h : IsB W (.slice a l.length c) l) => rrun_any a c k l 98 98 most W h rfl hm hm2 hl47)
  have Hv := Lib.hid hv
  clear hv hm hm2 hl47
  generalize PK.runP 98 most l k = R at *
  go_enter Tryz.func22, Tryz.ntmps22
  go_wp2_with fail
  refine (HR.out _ ((Hv.out.alloc _).alloc _)).mono ?_
  rintro v w1 ⟨⟨a1, c1, a2, c2, rfl, i1, i2⟩, b1⟩
  obtain ⟨g1, g2, bb⟩ := own2 b1
  obtain ⟨p0, p1, q0, q1⟩ := cells2 g2
  have h3 := stored2 g2 (.slice a1 R.2.1.length c1) (.int .i64 (R.2.2 : Nat))
  obtain ⟨e0, e1, _, _⟩ := cells2 h3
  have E0 := Lib.hid e0
  have E1 := Lib.hid e1
  have BB := Lib.hid (two_stores bb (M := w.heap.size + 1) (by omega) (.slice a1 R.2.1.length c1) (.int .i64 (R.2.2 : Nat)))
  -- what the call gave lies in other blocks than the result's
  have ff : Fr (fun j => j = w.heap.size + 1) w1 ((w1.setCell ⟨w.heap.size + 1, 0, none⟩ (.slice a1 R.2.1.length c1)).setCell ⟨w.heap.size + 1, 1, none⟩ (.int .i64 (R.2.2 : Nat))) := Fr.setCell (X := fun j => j = w.heap.size + 1) (Fr.setCell (X := fun j => j = w.heap.size + 1) (Fr.refl _ _) (fun _ => rfl) _) (fun _ => rfl) _
  have keep : ∀ {v : Value} {m : List UInt8}, IsB w1 v m → IsB ((w1.setCell ⟨w.heap.size + 1, 0, none⟩ (.slice a1 R.2.1.length c1)).setCell ⟨w.heap.size + 1, 1, none⟩ (.int .i64 (R.2.2 : Nat))) v m := by
    intro v m h
    by_cases hl : m = []
    · subst hl; exact h.empty
    · exact h.kept ff (fun b hb e => h.apart2 g2 (by simp) (by simp) hl (by rw [hb, e]))
  have I1 := Lib.hid (keep i1)
  have I2 := Lib.hid (keep i2)
  clear b1 g1 g2 bb h3 e0 e1 ff keep i1 i2 HR
  go_wp2
  generalize ((w1.setCell ⟨w.heap.size + 1, 0, none⟩ (.slice a1 R.2.1.length c1)).setCell ⟨w.heap.size + 1, 1, none⟩ (.int .i64 (R.2.2 : Nat))) = W at *
  refine bodyPost_ret (v := .tuple #[.agg #[.slice a1 R.2.1.length c1, .int .i64 (R.2.2 : Nat)], .slice a2 R.1.length c2]) (by simp [results, Tryz.results22, go_sem, E0.out, E1.out]) rfl ?_
  exact ⟨⟨a1, c1, a2, c2, rfl, I1.out, I2.out⟩, BB.out⟩

/-- What ReadBool and ReadCount answer. -/
def RValR (w w' : World) (v : Ending) (x : Value) (l : List UInt8) (k : Nat) : Prop :=
  (∃ a c, v = .returned (.tuple #[.agg #[.slice a l.length c, .int .i64 (k : Nat)], x]) ∧ IsB w' (.slice a l.length c) l) ∧ Below w.heap.size w w'

theorem PK.count_ref (l : List UInt8) (k : Nat) : PK.countP 64 l k = if (PK.uintP 64 l k).2.2 ≠ 0 then (0, l, (PK.uintP 64 l k).2.2) else if (PK.uintP 64 l k).2.1.length < (PK.uintP 64 l k).1 then (0, l, 2) else PK.uintP 64 l k := rfl
theorem PK.uint64_le (l : List UInt8) (k : Nat) : (PK.uintP 64 l k).1 ≤ 64 := by
  unfold PK.uintP
  split
  · simp
  · split
    · simp
    · simp only; omega
set_option maxRecDepth 100000 in
set_option maxHeartbeats 4000000 in
/-- ReadCount up to 64. -/
theorem rreadCount_any (a : Option Addr) (c k : Nat) (l : List UInt8) (w : World) (hv : IsB w (.slice a l.length c) l) :
    Calls Tryz.prog 24 #[.agg #[.slice a l.length c, .int .i64 k], .int .i64 64] w fun v w' => RValR w w' v (.int .i64 ((PK.countP 64 l k).1 : Nat)) (PK.countP 64 l k).2.1 (PK.countP 64 l k).2.2 := by
  have HU := Lib.hid (fun W (h : IsB W (.slice a l.length c) l) => rreadUint_any a c k 64 l W h)
  have Hv := Lib.hid hv
  have hlm := hv.len
  rw [PK.count_ref]
  have hn64 := PK.uint64_le l k
  have hkn : k ≠ 0 → (PK.uintP 64 l k) = (0, l, k) := by
    intro h
    obtain ⟨j, rfl⟩ : ∃ j, k = j + 1 := ⟨k - 1, by omega⟩
    exact PK.uint_err 64 j l
  have Hkn := Lib.hid hkn
  have hl2m : (PK.uintP 64 l k).2.1.length ≤ l.length := by
    unfold PK.uintP
    split
    · exact Nat.le_refl _
    · split
      · exact Nat.le_refl _
      · simp
  have hl63 : ((PK.uintP 64 l k).2.1.length : Int) ≤ 9223372036854775807 := by simp only [maxLen] at hlm; omega
  have Hlm := Lib.hid hlm
  clear hv hkn hl2m hlm
  generalize PK.uintP 64 l k = R at *
  obtain ⟨n, l2, e2⟩ := R
  simp only at hn64 hl63 HU ⊢
  go_enter Tryz.func24, Tryz.ntmps24
  go_wp2_with fail
  refine (HU.out _ ((Hv.out.alloc _).alloc _)).mono ?_
  rintro v w1 ⟨⟨a1, c1, rfl, i1⟩, b1⟩
  obtain ⟨g1, g2, bb⟩ := own2 b1
  obtain ⟨d0, d1, z0, z1⟩ := cells2 g1
  obtain ⟨p0, p1, q0, q1⟩ := cells2 g2
  have G2 := Lib.hid g2
  have BB1 := Lib.hid bb
  have I1 := Lib.hid i1
  have hM : w.heap.size < w1.heap.size := (Array.getElem?_eq_some_iff.1 g1).1
  have hM1 : w.heap.size + 1 < w1.heap.size := (Array.getElem?_eq_some_iff.1 g2).1
  clear b1 g1 g2 bb HU i1
  have fin : Hid (∀ (A : Option Addr) (nn cc e : Nat) (w3 : World), Below w1.heap.size w1 w3 → (w3.cell? ⟨w.heap.size + 1, 0, none⟩ = some (.slice none 0 0) ∧ w3.cell? ⟨w.heap.size + 1, 1, none⟩ = some (.int .i64 0) ∧ w3.frozen? ⟨w.heap.size + 1, 0, none⟩ = false ∧ w3.frozen? ⟨w.heap.size + 1, 1, none⟩ = false) ∧
      ((w3.setCell ⟨w.heap.size + 1, 0, none⟩ (.slice A nn cc)).setCell ⟨w.heap.size + 1, 1, none⟩ (.int .i64 (e : Nat))).cell? ⟨w.heap.size + 1, 0, none⟩ = some (.slice A nn cc) ∧ ((w3.setCell ⟨w.heap.size + 1, 0, none⟩ (.slice A nn cc)).setCell ⟨w.heap.size + 1, 1, none⟩ (.int .i64 (e : Nat))).cell? ⟨w.heap.size + 1, 1, none⟩ = some (.int .i64 (e : Nat)) ∧
      Below w.heap.size w ((w3.setCell ⟨w.heap.size + 1, 0, none⟩ (.slice A nn cc)).setCell ⟨w.heap.size + 1, 1, none⟩ (.int .i64 (e : Nat)))) := by
    intro A nn cc e w3 b3
    have g3 := (b3.block (w.heap.size + 1) hM1).trans G2.out
    have h3 := stored2 g3 (.slice A nn cc) (.int .i64 (e : Nat))
    obtain ⟨e0, e1, _, _⟩ := cells2 h3
    exact ⟨cells2 g3, e0, e1, two_stores (BB1.out.trans (b3.mono BB1.out.size)) (M := w.heap.size + 1) (by omega) (.slice A nn cc) (.int .i64 (e : Nat))⟩
  by_cases he : e2 = 0
  · subst he
    have hk0 : k = 0 := by
      by_cases h : k = 0
      · exact h
      · have := Hkn.out h; simp at this; omega
    subst hk0
    have hwl : IntKind.u64.wrap (l2.length : Int) = (l2.length : Int) := by rw [IntKind.wrap_u64]; omega
    by_cases hr : l2.length < n
    · have hr2 : (l2.length : Int) < (n : Int) := by omega
      have Hr := Lib.hid hr
      have HF := Lib.hid (fun W => fail_any a l.length c 0 2 W)
      simp only [if_true] at HF
      clear hr
      go_wp2_with fail
      refine (HF.out _).mono ?_
      rintro v w3 ⟨rfl, b3⟩
      have b13 : Below w1.heap.size w1 w3 := ((Below.refl _ _).alloc (Nat.le_refl _) _).trans (b3.mono (by simp))
      obtain ⟨⟨p0, p1, q0, q1⟩, e0, e1, bb⟩ := fin.out a l.length c 2 w3 b13
      have E0 := Lib.hid e0
      have E1 := Lib.hid e1
      have BB := Lib.hid bb
      clear b3 b13 e0 e1 bb HF fin
      go_wp2
      generalize ((w3.setCell ⟨w.heap.size + 1, 0, none⟩ (.slice a l.length c)).setCell ⟨w.heap.size + 1, 1, none⟩ (.int .i64 2)) = W at *
      refine bodyPost_ret (v := .tuple #[.agg #[.slice a l.length c, .int .i64 (2 : Nat)], .int .i64 0]) (by simp [results, Tryz.results24, go_sem, E0.out, E1.out]) rfl ?_
      exact ⟨⟨a, c, rfl, Hv.out.below BB.out⟩, BB.out⟩
    · have hr2 : ¬ ((l2.length : Int) < (n : Int)) := by omega
      have hn0 : (n : Int) ≤ 64 := by omega
      have Hr := Lib.hid hr
      obtain ⟨_, e0, e1, bb⟩ := fin.out a1 l2.length c1 0 w1 (Below.refl _ _)
      have hff : Fr (fun j => j = w.heap.size + 1) w1 ((w1.setCell ⟨w.heap.size + 1, 0, none⟩ (.slice a1 l2.length c1)).setCell ⟨w.heap.size + 1, 1, none⟩ (.int .i64 (0 : Nat))) :=
        Fr.setCell (X := fun j => j = w.heap.size + 1) (Fr.setCell (X := fun j => j = w.heap.size + 1) (Fr.refl _ _) (fun _ => rfl) _) (fun _ => rfl) _
      have I2 : Hid (IsB ((w1.setCell ⟨w.heap.size + 1, 0, none⟩ (.slice a1 l2.length c1)).setCell ⟨w.heap.size + 1, 1, none⟩ (.int .i64 (0 : Nat))) (.slice a1 l2.length c1) l2) := by
        by_cases hl : l2 = []
        · subst hl; exact I1.out.empty
        · exact I1.out.kept hff (fun b hb e => I1.out.apart2 G2.out (by simp) (by simp) hl (by rw [hb, e]))
      have hsz : w.heap.size + 1 < ((w1.setCell ⟨w.heap.size + 1, 0, none⟩ (.slice a1 l2.length c1)).setCell ⟨w.heap.size + 1, 1, none⟩ (.int .i64 (0 : Nat))).heap.size := by simp [World.setCell]; exact hM1
      have hge : w.heap.size ≤ ((w1.setCell ⟨w.heap.size + 1, 0, none⟩ (.slice a1 l2.length c1)).setCell ⟨w.heap.size + 1, 1, none⟩ (.int .i64 (0 : Nat))).heap.size := by omega
      have E0 := Lib.hid e0
      have E1 := Lib.hid e1
      have BB := Lib.hid bb
      have Hsz := Lib.hid hsz
      have Hge := Lib.hid hge
      clear hr e0 e1 bb hff fin hsz hge
      go_wp2
      generalize (w1.setCell ⟨w.heap.size + 1, 0, none⟩ (.slice a1 l2.length c1)).setCell ⟨w.heap.size + 1, 1, none⟩ (.int .i64 0) = W at *
      have f0 := (World.cell?_alloc_lt W (.cells #[.slice a1 l2.length c1, .int .i64 0] 80) ⟨w.heap.size + 1, 0, none⟩ Hsz.out).trans E0.out
      have f1 := (World.cell?_alloc_lt W (.cells #[.slice a1 l2.length c1, .int .i64 0] 80) ⟨w.heap.size + 1, 1, none⟩ Hsz.out).trans E1.out
      refine bodyPost_ret (v := .tuple #[.agg #[.slice a1 l2.length c1, .int .i64 (0 : Nat)], .int .i64 (n : Nat)]) (by simp [results, Tryz.results24, go_sem, f0, f1]) rfl ?_
      exact ⟨⟨a1, c1, rfl, I2.out.alloc _⟩, BB.out.alloc Hge.out _⟩
  · have he1 : ((e2 : Int) != 0) = true := by rw [bne_iff_ne]; omega
    have hif : (if k = 0 then e2 else k) = e2 := by
      by_cases h : k = 0
      · rw [if_pos h]
      · rw [if_neg h]; have := Hkn.out h; simp at this; exact this.2.2.symm
    have HF := Lib.hid (fun W => fail_any a l.length c k e2 W)
    rw [hif] at HF
    have He := Lib.hid he
    clear hif he
    go_wp2_with fail
    refine (HF.out _).mono ?_
    rintro v w3 ⟨rfl, b3⟩
    have b13 : Below w1.heap.size w1 w3 := ((Below.refl _ _).alloc (Nat.le_refl _) _).trans (b3.mono (by simp))
    obtain ⟨⟨p0, p1, q0, q1⟩, e0, e1, bb⟩ := fin.out a l.length c e2 w3 b13
    have E0 := Lib.hid e0
    have E1 := Lib.hid e1
    have BB := Lib.hid bb
    clear b3 b13 e0 e1 bb HF fin
    go_wp2
    generalize ((w3.setCell ⟨w.heap.size + 1, 0, none⟩ (.slice a l.length c)).setCell ⟨w.heap.size + 1, 1, none⟩ (.int .i64 e2)) = W at *
    refine bodyPost_ret (v := .tuple #[.agg #[.slice a l.length c, .int .i64 (e2 : Nat)], .int .i64 0]) (by simp [results, Tryz.results24, go_sem, E0.out, E1.out]) rfl ?_
    exact ⟨⟨a, c, rfl, Hv.out.below BB.out⟩, BB.out⟩
end Go.Proofs.YtkanjdijmdjbaaaGreatDoor
