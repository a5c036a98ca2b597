/-
  pack.Reader's Count and the document's ReadCount up to 256 and up to 1024, by contracts.
  Conditions: the listed variables read as listed ('Env'); the document's reader: what it holds reads as bytes.
-/
import Derived.Test.YtkanjdijmdjbaaaGreatDoorG11
namespace Go.Proofs.YtkanjdijmdjbaaaGreatDoor
open Go Go.RowKit

theorem PK.count_cases256 (l : List UInt8) (k : Nat) : (∃ e, PK.bndP 256 l k = (0, 0, false, e + 1) ∧ PK.countP 256 l k = (0, l, e + 1)) ∨
    (∃ n e, PK.bndP 256 l k = (n, e, true, 0) ∧ k = 0 ∧ n ≤ 256 ∧ e ≤ l.length ∧ PK.countP 256 l k = if l.length - e < n then (0, l, 2) else (n, l.drop e, 0)) := by
  have hM : (256 : Int).toNat = 256 := rfl
  rcases PK.numP_cases 110 59 1 l k with ⟨e, he, _⟩ | ⟨h1, h2, h3, h4⟩
  · have hb : PK.bndP 256 l k = (0, 0, false, e + 1) := by unfold PK.bndP; rw [if_neg (by rw [he]; simp), he]
    have hu : PK.uintP 256 l k = (0, l, e + 1) := by unfold PK.uintP; rw [he]; simp
    refine .inl ⟨e, hb, ?_⟩
    unfold PK.countP
    rw [hM, hu]
    simp
  · have hok := PK.numP_ok (lc := 110) (s := 59) (f := 1) (l := l) (k := k) (by rw [h4])
    rw [h4] at hok
    obtain ⟨_, _, _, hle, _⟩ := hok
    generalize (PK.digs 59 (l.drop 1)).1 = n at *
    generalize 1 + (PK.digs 59 (l.drop 1)).2.1 + 1 = e at *
    by_cases hg : 256 < n
    · have hb : PK.bndP 256 l k = (0, 0, false, 4) := by unfold PK.bndP; rw [h4, if_pos ⟨rfl, hg⟩]
      have hu : PK.uintP 256 l k = (0, l, 4) := by unfold PK.uintP; rw [h4]; simp [hg]
      refine .inl ⟨3, hb, ?_⟩
      unfold PK.countP
      rw [hM, hu]
      simp
    · have hb : PK.bndP 256 l k = (n, e, true, 0) := by unfold PK.bndP; rw [h4, if_neg (by simp; omega)]
      have hu : PK.uintP 256 l k = (n, l.drop e, 0) := by unfold PK.uintP; rw [h4]; simp [hg]
      refine .inr ⟨n, e, hb, h1, by omega, hle, ?_⟩
      unfold PK.countP
      rw [hM, hu]
      simp

set_option maxHeartbeats 2000000 in
theorem count_any256 (N : Nat) (l : List UInt8) (k : Nat) (w : World) (hE : Env w) (h : Rd w N l k) :
    Calls Tryz.prog 18 #[.pointer (some ⟨N, 0, none⟩), .int .i64 256] w fun v w' => v = .returned (.int .i64 ((PK.countP 256 l k).1 : Nat)) ∧ Rd w' N (PK.countP 256 l k).2.1 (PK.countP 256 l k).2.2 ∧ Fr (fun i => i = N) w w' := by
  have HC := Lib.hid (bounded_any N 256 l k w hE h)
  have HL := Lib.hid h.lenBound
  clear hE h
  rcases PK.count_cases256 l k with ⟨e, hb, hc⟩ | ⟨n, e, hb, rfl, hn, he, hc⟩
  · rw [hb] at HC
    rw [hc]
    unfold numV at HC
    clear hb hc
    go_enter Tryz.func18, Tryz.ntmps18
    go_wp2_with fail
    refine HC.out.mono ?_
    rintro v w1 ⟨rfl, r1, f1⟩
    have R1 := Lib.hid r1
    have F1 := Lib.hid f1
    clear r1 f1 HC
    go_wp2
    go_ret
    exact ⟨rfl, R1.out, F1.out⟩
  · rw [hb] at HC
    rw [hc]
    unfold numV at HC
    have hl63 : (l.length : Int) ≤ 9223372036854775807 := by have := HL.out; simp only [maxLen] at this; omega
    have hw2 : IntKind.i64.wrap ((l.length : Int) - (e : Int)) = (l.length : Int) - e := by rw [IntKind.wrap_i64]; omega
    have hw3 : IntKind.u64.wrap ((l.length : Int) - (e : Int)) = (l.length : Int) - e := by rw [IntKind.wrap_u64]; omega
    have Hel : Hid (e ≤ l.length) := he
    by_cases hg : l.length - e < n
    · rw [if_pos hg]
      have hg2 : (l.length : Int) - e < (n : Int) := by omega
      clear hb hc hg hn he
      go_enter Tryz.func18, Tryz.ntmps18
      go_wp2_with fail
      refine HC.out.mono ?_
      rintro v w1 ⟨rfl, r1, f1⟩
      have F1 := Lib.hid f1
      have HF := Lib.hid (fails_yes N l 0 2 1 w1 r1 (by simp))
      obtain ⟨_, a1, c1, hh, _⟩ := r1
      obtain ⟨p0, p1, _, _⟩ := cells2 hh
      clear f1 HC hh
      go_wp2_with fail
      refine HF.out.mono ?_
      rintro v w2 ⟨rfl, r2, f2⟩
      have R2 := Lib.hid r2
      have F2 := Lib.hid f2
      clear r2 f2
      go_wp2
      go_ret
      exact ⟨rfl, R2.out, F1.out.trans F2.out⟩
    · rw [if_neg hg]
      have hg2 : ¬ ((l.length : Int) - e < (n : Int)) := by omega
      have hn0 : (n : Int) ≤ 256 := by omega
      clear hb hc hg hn he
      go_enter Tryz.func18, Tryz.ntmps18
      go_wp2_with fail
      refine HC.out.mono ?_
      rintro v w1 ⟨rfl, r1, f1⟩
      have F1 := Lib.hid f1
      obtain ⟨_, a, c, hh, hv⟩ := id r1
      obtain ⟨p0, p1, p2, p3⟩ := cells2 hh
      obtain ⟨hsl, hv2⟩ := rest_from hv e Hel.out
      obtain ⟨R3, F3⟩ := r1.setRest (cutAt a e c) (l.length - e) (c - e) (by simp) hv2
      have HR := Lib.hid R3
      have HF3 := Lib.hid F3
      clear r1 f1 hh hv hv2 R3 F3 HC
      go_wp2
      go_ret
      exact ⟨rfl, HR.out, F1.out.trans HF3.out⟩
theorem PK.count_ref256 (l : List UInt8) (k : Nat) : PK.countP 256 l k = if (PK.uintP 256 l k).2.2 ≠ 0 then (0, l, (PK.uintP 256 l k).2.2) else if (PK.uintP 256 l k).2.1.length < (PK.uintP 256 l k).1 then (0, l, 2) else PK.uintP 256 l k := rfl
theorem PK.uint64_le256 (l : List UInt8) (k : Nat) : (PK.uintP 256 l k).1 ≤ 256 := by
  unfold PK.uintP
  split
  · simp
  · split
    · simp
    · simp only; omega
set_option maxRecDepth 100000 in
set_option maxHeartbeats 4000000 in
/-- ReadCount up to 256. -/
theorem rreadCount_any256 (a : Option Addr) (c k : Nat) (l : List UInt8) (w : World) (hv : IsB w (.slice a l.length c) l) :
    Calls Tryz.prog 24 #[.agg #[.slice a l.length c, .int .i64 k], .int .i64 256] w fun v w' => RValR w w' v (.int .i64 ((PK.countP 256 l k).1 : Nat)) (PK.countP 256 l k).2.1 (PK.countP 256 l k).2.2 := by
  have HU := Lib.hid (fun W (h : IsB W (.slice a l.length c) l) => rreadUint_any a c k 256 l W h)
  have Hv := Lib.hid hv
  have hlm := hv.len
  rw [PK.count_ref256]
  have hn64 := PK.uint64_le256 l k
  have hkn : k ≠ 0 → (PK.uintP 256 l k) = (0, l, k) := by
    intro h
    obtain ⟨j, rfl⟩ : ∃ j, k = j + 1 := ⟨k - 1, by omega⟩
    exact PK.uint_err 256 j l
  have Hkn := Lib.hid hkn
  have hl2m : (PK.uintP 256 l k).2.1.length ≤ l.length := by
    unfold PK.uintP
    split
    · exact Nat.le_refl _
    · split
      · exact Nat.le_refl _
      · simp
  have hl63 : ((PK.uintP 256 l k).2.1.length : Int) ≤ 9223372036854775807 := by simp only [maxLen] at hlm; omega
  have Hlm := Lib.hid hlm
  clear hv hkn hl2m hlm
  generalize PK.uintP 256 l k = R at *
  obtain ⟨n, l2, e2⟩ := R
  simp only at hn64 hl63 HU ⊢
  go_enter Tryz.func24, Tryz.ntmps24
  go_wp2_with fail
  refine (HU.out _ ((Hv.out.alloc _).alloc _)).mono ?_
  rintro v w1 ⟨⟨a1, c1, rfl, i1⟩, b1⟩
  obtain ⟨g1, g2, bb⟩ := own2 b1
  obtain ⟨d0, d1, z0, z1⟩ := cells2 g1
  obtain ⟨p0, p1, q0, q1⟩ := cells2 g2
  have G2 := Lib.hid g2
  have BB1 := Lib.hid bb
  have I1 := Lib.hid i1
  have hM : w.heap.size < w1.heap.size := (Array.getElem?_eq_some_iff.1 g1).1
  have hM1 : w.heap.size + 1 < w1.heap.size := (Array.getElem?_eq_some_iff.1 g2).1
  clear b1 g1 g2 bb HU i1
  have fin : Hid (∀ (A : Option Addr) (nn cc e : Nat) (w3 : World), Below w1.heap.size w1 w3 → (w3.cell? ⟨w.heap.size + 1, 0, none⟩ = some (.slice none 0 0) ∧ w3.cell? ⟨w.heap.size + 1, 1, none⟩ = some (.int .i64 0) ∧ w3.frozen? ⟨w.heap.size + 1, 0, none⟩ = false ∧ w3.frozen? ⟨w.heap.size + 1, 1, none⟩ = false) ∧
      ((w3.setCell ⟨w.heap.size + 1, 0, none⟩ (.slice A nn cc)).setCell ⟨w.heap.size + 1, 1, none⟩ (.int .i64 (e : Nat))).cell? ⟨w.heap.size + 1, 0, none⟩ = some (.slice A nn cc) ∧ ((w3.setCell ⟨w.heap.size + 1, 0, none⟩ (.slice A nn cc)).setCell ⟨w.heap.size + 1, 1, none⟩ (.int .i64 (e : Nat))).cell? ⟨w.heap.size + 1, 1, none⟩ = some (.int .i64 (e : Nat)) ∧
      Below w.heap.size w ((w3.setCell ⟨w.heap.size + 1, 0, none⟩ (.slice A nn cc)).setCell ⟨w.heap.size + 1, 1, none⟩ (.int .i64 (e : Nat)))) := by
    intro A nn cc e w3 b3
    have g3 := (b3.block (w.heap.size + 1) hM1).trans G2.out
    have h3 := stored2 g3 (.slice A nn cc) (.int .i64 (e : Nat))
    obtain ⟨e0, e1, _, _⟩ := cells2 h3
    exact ⟨cells2 g3, e0, e1, two_stores (BB1.out.trans (b3.mono BB1.out.size)) (M := w.heap.size + 1) (by omega) (.slice A nn cc) (.int .i64 (e : Nat))⟩
  by_cases he : e2 = 0
  · subst he
    have hk0 : k = 0 := by
      by_cases h : k = 0
      · exact h
      · have := Hkn.out h; simp at this; omega
    subst hk0
    have hwl : IntKind.u64.wrap (l2.length : Int) = (l2.length : Int) := by rw [IntKind.wrap_u64]; omega
    by_cases hr : l2.length < n
    · have hr2 : (l2.length : Int) < (n : Int) := by omega
      have Hr := Lib.hid hr
      have HF := Lib.hid (fun W => fail_any a l.length c 0 2 W)
      simp only [if_true] at HF
      clear hr
      go_wp2_with fail
      refine (HF.out _).mono ?_
      rintro v w3 ⟨rfl, b3⟩
      have b13 : Below w1.heap.size w1 w3 := ((Below.refl _ _).alloc (Nat.le_refl _) _).trans (b3.mono (by simp))
      obtain ⟨⟨p0, p1, q0, q1⟩, e0, e1, bb⟩ := fin.out a l.length c 2 w3 b13
      have E0 := Lib.hid e0
      have E1 := Lib.hid e1
      have BB := Lib.hid bb
      clear b3 b13 e0 e1 bb HF fin
      go_wp2
      generalize ((w3.setCell ⟨w.heap.size + 1, 0, none⟩ (.slice a l.length c)).setCell ⟨w.heap.size + 1, 1, none⟩ (.int .i64 2)) = W at *
      refine bodyPost_ret (v := .tuple #[.agg #[.slice a l.length c, .int .i64 (2 : Nat)], .int .i64 0]) (by simp [results, Tryz.results24, go_sem, E0.out, E1.out]) rfl ?_
      exact ⟨⟨a, c, rfl, Hv.out.below BB.out⟩, BB.out⟩
    · have hr2 : ¬ ((l2.length : Int) < (n : Int)) := by omega
      have hn0 : (n : Int) ≤ 256 := by omega
      have Hr := Lib.hid hr
      obtain ⟨_, e0, e1, bb⟩ := fin.out a1 l2.length c1 0 w1 (Below.refl _ _)
      have hff : Fr (fun j => j = w.heap.size + 1) w1 ((w1.setCell ⟨w.heap.size + 1, 0, none⟩ (.slice a1 l2.length c1)).setCell ⟨w.heap.size + 1, 1, none⟩ (.int .i64 (0 : Nat))) :=
        Fr.setCell (X := fun j => j = w.heap.size + 1) (Fr.setCell (X := fun j => j = w.heap.size + 1) (Fr.refl _ _) (fun _ => rfl) _) (fun _ => rfl) _
      have I2 : Hid (IsB ((w1.setCell ⟨w.heap.size + 1, 0, none⟩ (.slice a1 l2.length c1)).setCell ⟨w.heap.size + 1, 1, none⟩ (.int .i64 (0 : Nat))) (.slice a1 l2.length c1) l2) := by
        by_cases hl : l2 = []
        · subst hl; exact I1.out.empty
        · exact I1.out.kept hff (fun b hb e => I1.out.apart2 G2.out (by simp) (by simp) hl (by rw [hb, e]))
      have hsz : w.heap.size + 1 < ((w1.setCell ⟨w.heap.size + 1, 0, none⟩ (.slice a1 l2.length c1)).setCell ⟨w.heap.size + 1, 1, none⟩ (.int .i64 (0 : Nat))).heap.size := by simp [World.setCell]; exact hM1
      have hge : w.heap.size ≤ ((w1.setCell ⟨w.heap.size + 1, 0, none⟩ (.slice a1 l2.length c1)).setCell ⟨w.heap.size + 1, 1, none⟩ (.int .i64 (0 : Nat))).heap.size := by omega
      have E0 := Lib.hid e0
      have E1 := Lib.hid e1
      have BB := Lib.hid bb
      have Hsz := Lib.hid hsz
      have Hge := Lib.hid hge
      clear hr e0 e1 bb hff fin hsz hge
      go_wp2
      generalize (w1.setCell ⟨w.heap.size + 1, 0, none⟩ (.slice a1 l2.length c1)).setCell ⟨w.heap.size + 1, 1, none⟩ (.int .i64 0) = W at *
      have f0 := (World.cell?_alloc_lt W (.cells #[.slice a1 l2.length c1, .int .i64 0] 80) ⟨w.heap.size + 1, 0, none⟩ Hsz.out).trans E0.out
      have f1 := (World.cell?_alloc_lt W (.cells #[.slice a1 l2.length c1, .int .i64 0] 80) ⟨w.heap.size + 1, 1, none⟩ Hsz.out).trans E1.out
      refine bodyPost_ret (v := .tuple #[.agg #[.slice a1 l2.length c1, .int .i64 (0 : Nat)], .int .i64 (n : Nat)]) (by simp [results, Tryz.results24, go_sem, f0, f1]) rfl ?_
      exact ⟨⟨a1, c1, rfl, I2.out.alloc _⟩, BB.out.alloc Hge.out _⟩
  · have he1 : ((e2 : Int) != 0) = true := by rw [bne_iff_ne]; omega
    have hif : (if k = 0 then e2 else k) = e2 := by
      by_cases h : k = 0
      · rw [if_pos h]
      · rw [if_neg h]; have := Hkn.out h; simp at this; exact this.2.2.symm
    have HF := Lib.hid (fun W => fail_any a l.length c k e2 W)
    rw [hif] at HF
    have He := Lib.hid he
    clear hif he
    go_wp2_with fail
    refine (HF.out _).mono ?_
    rintro v w3 ⟨rfl, b3⟩
    have b13 : Below w1.heap.size w1 w3 := ((Below.refl _ _).alloc (Nat.le_refl _) _).trans (b3.mono (by simp))
    obtain ⟨⟨p0, p1, q0, q1⟩, e0, e1, bb⟩ := fin.out a l.length c e2 w3 b13
    have E0 := Lib.hid e0
    have E1 := Lib.hid e1
    have BB := Lib.hid bb
    clear b3 b13 e0 e1 bb HF fin
    go_wp2
    generalize ((w3.setCell ⟨w.heap.size + 1, 0, none⟩ (.slice a l.length c)).setCell ⟨w.heap.size + 1, 1, none⟩ (.int .i64 e2)) = W at *
    refine bodyPost_ret (v := .tuple #[.agg #[.slice a l.length c, .int .i64 (e2 : Nat)], .int .i64 0]) (by simp [results, Tryz.results24, go_sem, E0.out, E1.out]) rfl ?_
    exact ⟨⟨a, c, rfl, Hv.out.below BB.out⟩, BB.out⟩
theorem PK.count_cases1024 (l : List UInt8) (k : Nat) : (∃ e, PK.bndP 1024 l k = (0, 0, false, e + 1) ∧ PK.countP 1024 l k = (0, l, e + 1)) ∨
    (∃ n e, PK.bndP 1024 l k = (n, e, true, 0) ∧ k = 0 ∧ n ≤ 1024 ∧ e ≤ l.length ∧ PK.countP 1024 l k = if l.length - e < n then (0, l, 2) else (n, l.drop e, 0)) := by
  have hM : (1024 : Int).toNat = 1024 := rfl
  rcases PK.numP_cases 110 59 1 l k with ⟨e, he, _⟩ | ⟨h1, h2, h3, h4⟩
  · have hb : PK.bndP 1024 l k = (0, 0, false, e + 1) := by unfold PK.bndP; rw [if_neg (by rw [he]; simp), he]
    have hu : PK.uintP 1024 l k = (0, l, e + 1) := by unfold PK.uintP; rw [he]; simp
    refine .inl ⟨e, hb, ?_⟩
    unfold PK.countP
    rw [hM, hu]
    simp
  · have hok := PK.numP_ok (lc := 110) (s := 59) (f := 1) (l := l) (k := k) (by rw [h4])
    rw [h4] at hok
    obtain ⟨_, _, _, hle, _⟩ := hok
    generalize (PK.digs 59 (l.drop 1)).1 = n at *
    generalize 1 + (PK.digs 59 (l.drop 1)).2.1 + 1 = e at *
    by_cases hg : 1024 < n
    · have hb : PK.bndP 1024 l k = (0, 0, false, 4) := by unfold PK.bndP; rw [h4, if_pos ⟨rfl, hg⟩]
      have hu : PK.uintP 1024 l k = (0, l, 4) := by unfold PK.uintP; rw [h4]; simp [hg]
      refine .inl ⟨3, hb, ?_⟩
      unfold PK.countP
      rw [hM, hu]
      simp
    · have hb : PK.bndP 1024 l k = (n, e, true, 0) := by unfold PK.bndP; rw [h4, if_neg (by simp; omega)]
      have hu : PK.uintP 1024 l k = (n, l.drop e, 0) := by unfold PK.uintP; rw [h4]; simp [hg]
      refine .inr ⟨n, e, hb, h1, by omega, hle, ?_⟩
      unfold PK.countP
      rw [hM, hu]
      simp

set_option maxHeartbeats 2000000 in
theorem count_any1024 (N : Nat) (l : List UInt8) (k : Nat) (w : World) (hE : Env w) (h : Rd w N l k) :
    Calls Tryz.prog 18 #[.pointer (some ⟨N, 0, none⟩), .int .i64 1024] w fun v w' => v = .returned (.int .i64 ((PK.countP 1024 l k).1 : Nat)) ∧ Rd w' N (PK.countP 1024 l k).2.1 (PK.countP 1024 l k).2.2 ∧ Fr (fun i => i = N) w w' := by
  have HC := Lib.hid (bounded_any N 1024 l k w hE h)
  have HL := Lib.hid h.lenBound
  clear hE h
  rcases PK.count_cases1024 l k with ⟨e, hb, hc⟩ | ⟨n, e, hb, rfl, hn, he, hc⟩
  · rw [hb] at HC
    rw [hc]
    unfold numV at HC
    clear hb hc
    go_enter Tryz.func18, Tryz.ntmps18
    go_wp2_with fail
    refine HC.out.mono ?_
    rintro v w1 ⟨rfl, r1, f1⟩
    have R1 := Lib.hid r1
    have F1 := Lib.hid f1
    clear r1 f1 HC
    go_wp2
    go_ret
    exact ⟨rfl, R1.out, F1.out⟩
  · rw [hb] at HC
    rw [hc]
    unfold numV at HC
    have hl63 : (l.length : Int) ≤ 9223372036854775807 := by have := HL.out; simp only [maxLen] at this; omega
    have hw2 : IntKind.i64.wrap ((l.length : Int) - (e : Int)) = (l.length : Int) - e := by rw [IntKind.wrap_i64]; omega
    have hw3 : IntKind.u64.wrap ((l.length : Int) - (e : Int)) = (l.length : Int) - e := by rw [IntKind.wrap_u64]; omega
    have Hel : Hid (e ≤ l.length) := he
    by_cases hg : l.length - e < n
    · rw [if_pos hg]
      have hg2 : (l.length : Int) - e < (n : Int) := by omega
      clear hb hc hg hn he
      go_enter Tryz.func18, Tryz.ntmps18
      go_wp2_with fail
      refine HC.out.mono ?_
      rintro v w1 ⟨rfl, r1, f1⟩
      have F1 := Lib.hid f1
      have HF := Lib.hid (fails_yes N l 0 2 1 w1 r1 (by simp))
      obtain ⟨_, a1, c1, hh, _⟩ := r1
      obtain ⟨p0, p1, _, _⟩ := cells2 hh
      clear f1 HC hh
      go_wp2_with fail
      refine HF.out.mono ?_
      rintro v w2 ⟨rfl, r2, f2⟩
      have R2 := Lib.hid r2
      have F2 := Lib.hid f2
      clear r2 f2
      go_wp2
      go_ret
      exact ⟨rfl, R2.out, F1.out.trans F2.out⟩
    · rw [if_neg hg]
      have hg2 : ¬ ((l.length : Int) - e < (n : Int)) := by omega
      have hn0 : (n : Int) ≤ 1024 := by omega
      clear hb hc hg hn he
      go_enter Tryz.func18, Tryz.ntmps18
      go_wp2_with fail
      refine HC.out.mono ?_
      rintro v w1 ⟨rfl, r1, f1⟩
      have F1 := Lib.hid f1
      obtain ⟨_, a, c, hh, hv⟩ := id r1
      obtain ⟨p0, p1, p2, p3⟩ := cells2 hh
      obtain ⟨hsl, hv2⟩ := rest_from hv e Hel.out
      obtain ⟨R3, F3⟩ := r1.setRest (cutAt a e c) (l.length - e) (c - e) (by simp) hv2
      have HR := Lib.hid R3
      have HF3 := Lib.hid F3
      clear r1 f1 hh hv hv2 R3 F3 HC
      go_wp2
      go_ret
      exact ⟨rfl, HR.out, F1.out.trans HF3.out⟩
theorem PK.count_ref1024 (l : List UInt8) (k : Nat) : PK.countP 1024 l k = if (PK.uintP 1024 l k).2.2 ≠ 0 then (0, l, (PK.uintP 1024 l k).2.2) else if (PK.uintP 1024 l k).2.1.length < (PK.uintP 1024 l k).1 then (0, l, 2) else PK.uintP 1024 l k := rfl
theorem PK.uint64_le1024 (l : List UInt8) (k : Nat) : (PK.uintP 1024 l k).1 ≤ 1024 := by
  unfold PK.uintP
  split
  · simp
  · split
    · simp
    · simp only; omega
set_option maxRecDepth 100000 in
set_option maxHeartbeats 4000000 in
/-- ReadCount up to 1024. -/
theorem rreadCount_any1024 (a : Option Addr) (c k : Nat) (l : List UInt8) (w : World) (hv : IsB w (.slice a l.length c) l) :
    Calls Tryz.prog 24 #[.agg #[.slice a l.length c, .int .i64 k], .int .i64 1024] w fun v w' => RValR w w' v (.int .i64 ((PK.countP 1024 l k).1 : Nat)) (PK.countP 1024 l k).2.1 (PK.countP 1024 l k).2.2 := by
  have HU := Lib.hid (fun W (h : IsB W (.slice a l.length c) l) => rreadUint_any a c k 1024 l W h)
  have Hv := Lib.hid hv
  have hlm := hv.len
  rw [PK.count_ref1024]
  have hn64 := PK.uint64_le1024 l k
  have hkn : k ≠ 0 → (PK.uintP 1024 l k) = (0, l, k) := by
    intro h
    obtain ⟨j, rfl⟩ : ∃ j, k = j + 1 := ⟨k - 1, by omega⟩
    exact PK.uint_err 1024 j l
  have Hkn := Lib.hid hkn
  have hl2m : (PK.uintP 1024 l k).2.1.length ≤ l.length := by
    unfold PK.uintP
    split
    · exact Nat.le_refl _
    · split
      · exact Nat.le_refl _
      · simp
  have hl63 : ((PK.uintP 1024 l k).2.1.length : Int) ≤ 9223372036854775807 := by simp only [maxLen] at hlm; omega
  have Hlm := Lib.hid hlm
  clear hv hkn hl2m hlm
  generalize PK.uintP 1024 l k = R at *
  obtain ⟨n, l2, e2⟩ := R
  simp only at hn64 hl63 HU ⊢
  go_enter Tryz.func24, Tryz.ntmps24
  go_wp2_with fail
  refine (HU.out _ ((Hv.out.alloc _).alloc _)).mono ?_
  rintro v w1 ⟨⟨a1, c1, rfl, i1⟩, b1⟩
  obtain ⟨g1, g2, bb⟩ := own2 b1
  obtain ⟨d0, d1, z0, z1⟩ := cells2 g1
  obtain ⟨p0, p1, q0, q1⟩ := cells2 g2
  have G2 := Lib.hid g2
  have BB1 := Lib.hid bb
  have I1 := Lib.hid i1
  have hM : w.heap.size < w1.heap.size := (Array.getElem?_eq_some_iff.1 g1).1
  have hM1 : w.heap.size + 1 < w1.heap.size := (Array.getElem?_eq_some_iff.1 g2).1
  clear b1 g1 g2 bb HU i1
  have fin : Hid (∀ (A : Option Addr) (nn cc e : Nat) (w3 : World), Below w1.heap.size w1 w3 → (w3.cell? ⟨w.heap.size + 1, 0, none⟩ = some (.slice none 0 0) ∧ w3.cell? ⟨w.heap.size + 1, 1, none⟩ = some (.int .i64 0) ∧ w3.frozen? ⟨w.heap.size + 1, 0, none⟩ = false ∧ w3.frozen? ⟨w.heap.size + 1, 1, none⟩ = false) ∧
      ((w3.setCell ⟨w.heap.size + 1, 0, none⟩ (.slice A nn cc)).setCell ⟨w.heap.size + 1, 1, none⟩ (.int .i64 (e : Nat))).cell? ⟨w.heap.size + 1, 0, none⟩ = some (.slice A nn cc) ∧ ((w3.setCell ⟨w.heap.size + 1, 0, none⟩ (.slice A nn cc)).setCell ⟨w.heap.size + 1, 1, none⟩ (.int .i64 (e : Nat))).cell? ⟨w.heap.size + 1, 1, none⟩ = some (.int .i64 (e : Nat)) ∧
      Below w.heap.size w ((w3.setCell ⟨w.heap.size + 1, 0, none⟩ (.slice A nn cc)).setCell ⟨w.heap.size + 1, 1, none⟩ (.int .i64 (e : Nat)))) := by
    intro A nn cc e w3 b3
    have g3 := (b3.block (w.heap.size + 1) hM1).trans G2.out
    have h3 := stored2 g3 (.slice A nn cc) (.int .i64 (e : Nat))
    obtain ⟨e0, e1, _, _⟩ := cells2 h3
    exact ⟨cells2 g3, e0, e1, two_stores (BB1.out.trans (b3.mono BB1.out.size)) (M := w.heap.size + 1) (by omega) (.slice A nn cc) (.int .i64 (e : Nat))⟩
  by_cases he : e2 = 0
  · subst he
    have hk0 : k = 0 := by
      by_cases h : k = 0
      · exact h
      · have := Hkn.out h; simp at this; omega
    subst hk0
    have hwl : IntKind.u64.wrap (l2.length : Int) = (l2.length : Int) := by rw [IntKind.wrap_u64]; omega
    by_cases hr : l2.length < n
    · have hr2 : (l2.length : Int) < (n : Int) := by omega
      have Hr := Lib.hid hr
      have HF := Lib.hid (fun W => fail_any a l.length c 0 2 W)
      simp only [if_true] at HF
      clear hr
      go_wp2_with fail
      refine (HF.out _).mono ?_
      rintro v w3 ⟨rfl, b3⟩
      have b13 : Below w1.heap.size w1 w3 := ((Below.refl _ _).alloc (Nat.le_refl _) _).trans (b3.mono (by simp))
      obtain ⟨⟨p0, p1, q0, q1⟩, e0, e1, bb⟩ := fin.out a l.length c 2 w3 b13
      have E0 := Lib.hid e0
      have E1 := Lib.hid e1
      have BB := Lib.hid bb
      clear b3 b13 e0 e1 bb HF fin
      go_wp2
      generalize ((w3.setCell ⟨w.heap.size + 1, 0, none⟩ (.slice a l.length c)).setCell ⟨w.heap.size + 1, 1, none⟩ (.int .i64 2)) = W at *
      refine bodyPost_ret (v := .tuple #[.agg #[.slice a l.length c, .int .i64 (2 : Nat)], .int .i64 0]) (by simp [results, Tryz.results24, go_sem, E0.out, E1.out]) rfl ?_
      exact ⟨⟨a, c, rfl, Hv.out.below BB.out⟩, BB.out⟩
    · have hr2 : ¬ ((l2.length : Int) < (n : Int)) := by omega
      have hn0 : (n : Int) ≤ 1024 := by omega
      have Hr := Lib.hid hr
      obtain ⟨_, e0, e1, bb⟩ := fin.out a1 l2.length c1 0 w1 (Below.refl _ _)
      have hff : Fr (fun j => j = w.heap.size + 1) w1 ((w1.setCell ⟨w.heap.size + 1, 0, none⟩ (.slice a1 l2.length c1)).setCell ⟨w.heap.size + 1, 1, none⟩ (.int .i64 (0 : Nat))) :=
        Fr.setCell (X := fun j => j = w.heap.size + 1) (Fr.setCell (X := fun j => j = w.heap.size + 1) (Fr.refl _ _) (fun _ => rfl) _) (fun _ => rfl) _
      have I2 : Hid (IsB ((w1.setCell ⟨w.heap.size + 1, 0, none⟩ (.slice a1 l2.length c1)).setCell ⟨w.heap.size + 1, 1, none⟩ (.int .i64 (0 : Nat))) (.slice a1 l2.length c1) l2) := by
        by_cases hl : l2 = []
        · subst hl; exact I1.out.empty
        · exact I1.out.kept hff (fun b hb e => I1.out.apart2 G2.out (by simp) (by simp) hl (by rw [hb, e]))
      have hsz : w.heap.size + 1 < ((w1.setCell ⟨w.heap.size + 1, 0, none⟩ (.slice a1 l2.length c1)).setCell ⟨w.heap.size + 1, 1, none⟩ (.int .i64 (0 : Nat))).heap.size := by simp [World.setCell]; exact hM1
      have hge : w.heap.size ≤ ((w1.setCell ⟨w.heap.size + 1, 0, none⟩ (.slice a1 l2.length c1)).setCell ⟨w.heap.size + 1, 1, none⟩ (.int .i64 (0 : Nat))).heap.size := by omega
      have E0 := Lib.hid e0
      have E1 := Lib.hid e1
      have BB := Lib.hid bb
      have Hsz := Lib.hid hsz
      have Hge := Lib.hid hge
      clear hr e0 e1 bb hff fin hsz hge
      go_wp2
      generalize (w1.setCell ⟨w.heap.size + 1, 0, none⟩ (.slice a1 l2.length c1)).setCell ⟨w.heap.size + 1, 1, none⟩ (.int .i64 0) = W at *
      have f0 := (World.cell?_alloc_lt W (.cells #[.slice a1 l2.length c1, .int .i64 0] 80) ⟨w.heap.size + 1, 0, none⟩ Hsz.out).trans E0.out
      have f1 := (World.cell?_alloc_lt W (.cells #[.slice a1 l2.length c1, .int .i64 0] 80) ⟨w.heap.size + 1, 1, none⟩ Hsz.out).trans E1.out
      refine bodyPost_ret (v := .tuple #[.agg #[.slice a1 l2.length c1, .int .i64 (0 : Nat)], .int .i64 (n : Nat)]) (by simp [results, Tryz.results24, go_sem, f0, f1]) rfl ?_
      exact ⟨⟨a1, c1, rfl, I2.out.alloc _⟩, BB.out.alloc Hge.out _⟩
  · have he1 : ((e2 : Int) != 0) = true := by rw [bne_iff_ne]; omega
    have hif : (if k = 0 then e2 else k) = e2 := by
      by_cases h : k = 0
      · rw [if_pos h]
      · rw [if_neg h]; have := Hkn.out h; simp at this; exact this.2.2.symm
    have HF := Lib.hid (fun W => fail_any a l.length c k e2 W)
    rw [hif] at HF
    have He := Lib.hid he
    clear hif he
    go_wp2_with fail
    refine (HF.out _).mono ?_
    rintro v w3 ⟨rfl, b3⟩
    have b13 : Below w1.heap.size w1 w3 := ((Below.refl _ _).alloc (Nat.le_refl _) _).trans (b3.mono (by simp))
    obtain ⟨⟨p0, p1, q0, q1⟩, e0, e1, bb⟩ := fin.out a l.length c e2 w3 b13
    have E0 := Lib.hid e0
    have E1 := Lib.hid e1
    have BB := Lib.hid bb
    clear b3 b13 e0 e1 bb HF fin
    go_wp2
    generalize ((w3.setCell ⟨w.heap.size + 1, 0, none⟩ (.slice a l.length c)).setCell ⟨w.heap.size + 1, 1, none⟩ (.int .i64 e2)) = W at *
    refine bodyPost_ret (v := .tuple #[.agg #[.slice a l.length c, .int .i64 (e2 : Nat)], .int .i64 0]) (by simp [results, Tryz.results24, go_sem, E0.out, E1.out]) rfl ?_
    exact ⟨⟨a, c, rfl, Hv.out.below BB.out⟩, BB.out⟩
end Go.Proofs.YtkanjdijmdjbaaaGreatDoor
