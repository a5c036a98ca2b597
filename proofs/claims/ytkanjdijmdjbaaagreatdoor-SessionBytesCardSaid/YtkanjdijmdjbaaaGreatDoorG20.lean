/-
  The program's reply of bytes: session.DecodeReply.
  Conditions: the listed variables read as listed ('Env'); the bytes read as such and are at most 2^47 many.
  A memory for the document's readers: the reader's box, a box of what is read, and boxes that stay.
  Conditions: none but those that the theorems' lines name.
  The memory of the document's reading of a table: the reader, the result, the table under way with its sessions.
-/
import Derived.Test.YtkanjdijmdjbaaaGreatDoorG19
import Derived.Test.YtkanjdijmdjbaaaGreatDoorRef4
import Derived.Test.YtkanjdijmdjbaaaGreatDoorG11
import Derived.Test.YtkanjdijmdjbaaaGreatDoorG14
namespace Go.Proofs.YtkanjdijmdjbaaaGreatDoor
open Go Go.RowKit

theorem fr5s (w : World) (M : Nat) (y0 y1 y2 y3 y4 : Value) : Fr (fun j => j = M) w (((((w.setCell ⟨M, 0, none⟩ y0).setCell ⟨M, 1, none⟩ y1).setCell ⟨M, 2, none⟩ y2).setCell ⟨M, 3, none⟩ y3).setCell ⟨M, 4, none⟩ y4) := fr5 w M y0 y1 y2 y3 y4
theorem stored3of5 {w : World} {M : Nat} {x0 x1 x2 x3 x4 : Value} {t : TypeId} (h : w.heap[M]? = some (.cells #[x0, x1, x2, x3, x4] t)) (y2 y3 y4 : Value) :
    (((w.setCell ⟨M, 2, none⟩ y2).setCell ⟨M, 3, none⟩ y3).setCell ⟨M, 4, none⟩ y4).heap[M]? = some (.cells #[x0, x1, y2, y3, y4] t) := by
  simp only [World.setCell, Array.getElem?_modify, if_true, h, Option.map_some]
  simp
theorem fr3at (w : World) (M : Nat) (y2 y3 y4 : Value) : Fr (fun j => j = M) w (((w.setCell ⟨M, 2, none⟩ y2).setCell ⟨M, 3, none⟩ y3).setCell ⟨M, 4, none⟩ y4) :=
  ((Fr.setCell (X := fun j => j = M) (Fr.refl _ _) (fun _ => rfl) _).trans (Fr.setCell (X := fun j => j = M) (Fr.refl _ _) (fun _ => rfl) _)).trans (Fr.setCell (X := fun j => j = M) (Fr.refl _ _) (fun _ => rfl) _)
set_option maxRecDepth 100000 in
set_option maxHeartbeats 4000000 in
/-- The reply of bytes. -/
theorem dreply_any (a : Option Addr) (n c : Nat) (l : List UInt8) (w : World) (hE : Env w) (hn : l.length = n) (hv : IsB w (.slice a n c) l) (hl47 : l.length ≤ roomB) :
    Calls Tryz.prog 20 #[.slice a n c] w fun e w' => e = ERp (QT.decRp l) ∧ Below w.heap.size w w' := by
  subst hn
  have hstc := @run_store_complex Tryz.prog
  obtain ⟨e1, l1, k1, h1⟩ : ∃ v l' k', PK.intP l 0 = (v, l', k') := ⟨_, _, _, rfl⟩
  obtain ⟨e2, l2, k2, h2⟩ : ∃ v l' k', PK.intP l1 k1 = (v, l', k') := ⟨_, _, _, rfl⟩
  obtain ⟨y, l3, k3, h3⟩ : ∃ v l' k', PK.runP 98 128 l2 k2 = (v, l', k') := ⟨_, _, _, rfl⟩
  have hl2 : l2.length ≤ roomB := by
    have a1 := QT.int_rest l 0
    rw [h1] at a1
    have a2 := QT.int_rest l1 k1
    rw [h2] at a2
    exact Nat.le_trans a2 (Nat.le_trans a1 hl47)
  have hdec : QT.decRp l = match QT.decAn y with
      | some x => if k3 = 0 ∧ l3 = [] then some ⟨e1, e2, x⟩ else none
      | none => none := by
    unfold QT.decRp
    rw [QT.readRp_at h1 h2 h3]
    cases QT.decAn y <;> rfl
  obtain ⟨W0, hW0⟩ : ∃ W, W = w.alloc (.cells #[.int .i64 0, .int .i64 0, .int .i64 0, .complex .f64 0 0, .complex .f64 0 0] 47) := ⟨_, rfl⟩
  obtain ⟨B, hB⟩ : ∃ B, B = w.heap.size := ⟨_, rfl⟩
  have b0 : Below w.heap.size w W0 := by rw [hW0]; exact (Below.refl _ _).alloc (Nat.le_refl _) _
  have g0 : W0.heap[B]? = some (.cells #[.int .i64 0, .int .i64 0, .int .i64 0, .complex .f64 0 0, .complex .f64 0 0] 47) := by rw [hW0, hB]; exact heap_alloc_new _ _
  have hBlt : B < W0.heap.size := (Array.getElem?_eq_some_iff.1 g0).1
  obtain ⟨RM, hRM⟩ : ∃ B, B = W0.heap.size := ⟨_, rfl⟩
  have hRd := Lib.hid (read_any a c l W0 (hE.below b0) (hv.below b0))
  rw [← hRM] at hRd
  have hEg := hE.big
  have HEn := Lib.hid (fun (V : World) (b : Below w.heap.size w V) => hE.wr b hEg)
  have step : Hid (∀ V V', (Below w.heap.size w V ∧ V.heap[B]? = some (.cells #[.int .i64 0, .int .i64 0, .int .i64 0, .complex .f64 0 0, .complex .f64 0 0] 47)) → Fr (fun j => j = RM) V V' → (Below w.heap.size w V' ∧ V'.heap[B]? = some (.cells #[.int .i64 0, .int .i64 0, .int .i64 0, .complex .f64 0 0, .complex .f64 0 0] 47))) := Lib.hid (fun V V' h f => ⟨belowSet h.1 f (by omega), f.heap h.2 (by omega)⟩)
  have st0 : Hid (∀ V, Below RM W0 V → (Below w.heap.size w V ∧ V.heap[B]? = some (.cells #[.int .i64 0, .int .i64 0, .int .i64 0, .complex .f64 0 0, .complex .f64 0 0] 47))) := Lib.hid (fun V b => ⟨b0.trans (b.mono (by omega)), (b.block B (by omega)).trans g0⟩)
  have HW0 := Lib.hid hW0.symm
  have HB := Lib.hid hB.symm
  have Hdec := Lib.hid hdec
  have H1 := Lib.hid h1
  have H2 := Lib.hid h2
  have H3 := Lib.hid h3
  have Hl2 := Lib.hid hl2
  have hlB : Hid (w.heap.size ≤ B) := Lib.hid (by omega)
  have HRMB : Hid (B < RM) := Lib.hid (by omega)
  clear hW0 hB b0 g0 hBlt hRM hdec h1 h2 h3 hE hv hEg hl47 hl2
  go_enter Tryz.func20, Tryz.ntmps20
  go_wp2_with fail
  rw [HW0.out, HB.out]
  clear HW0 HB
  refine hRd.out.mono ?_
  rintro e v1 ⟨rfl, r1, b1⟩
  have S1 := Lib.hid (st0.out v1 b1)
  have C1 := Lib.hid (int_any RM l 0 v1 (HEn.out v1 S1.out.1) r1)
  rw [H1.out] at C1
  clear hRd st0 r1 b1
  go_wp2_with fail
  refine C1.out.mono ?_
  rintro e v2 ⟨rfl, r2, f2⟩
  have S2 := Lib.hid (step.out v1 v2 S1.out f2)
  have C2 := Lib.hid (int_any RM l1 k1 v2 (HEn.out v2 S2.out.1) r2)
  rw [H2.out] at C2
  clear C1 S1 r2 f2
  go_wp2_with fail
  refine C2.out.mono ?_
  rintro e v3 ⟨rfl, r3, f3⟩
  have S3 := step.out v2 v3 S2.out f3
  obtain ⟨w4, hw4⟩ : ∃ W, W = v3.alloc (.cells #[.int .i64 e1, .int .i64 e2, .int .i64 0, .complex .f64 0 0, .complex .f64 0 0] 47) := ⟨_, rfl⟩
  obtain ⟨X, hX⟩ : ∃ B, B = v3.heap.size := ⟨_, rfl⟩
  have b34 : Below v3.heap.size v3 w4 := by rw [hw4]; exact (Below.refl _ _).alloc (Nat.le_refl _) _
  have gX4 : w4.heap[X]? = some (.cells #[.int .i64 e1, .int .i64 e2, .int .i64 0, .complex .f64 0 0, .complex .f64 0 0] 47) := by rw [hw4, hX]; exact heap_alloc_new _ _
  have r4 := r3.below' b34
  have hRX : RM < X := by
    obtain ⟨_, _, _, hh, _⟩ := r3
    have := (Array.getElem?_eq_some_iff.1 hh).1
    omega
  have gB4 := (b34.block B (Array.getElem?_eq_some_iff.1 S3.2).1).trans S3.2
  have B04 := S3.1.trans (b34.mono S3.1.size)
  have C3 := Lib.hid (bytes_any RM l2 k2 128 w4 (HEn.out w4 B04) r4 (by omega) Hl2.out)
  rw [H3.out] at C3
  have GX4 := Lib.hid gX4
  have GB4 := Lib.hid gB4
  have HB04 := Lib.hid B04
  have HRX := Lib.hid hRX
  have HW4 := Lib.hid hw4.symm
  have HX := Lib.hid hX.symm
  clear hw4 hX b34 gX4 r4 gB4 S3 B04 C2 S2 r3 f3 step hRX
  go_wp2_with fail
  rw [HW4.out, HX.out]
  clear HW4 HX
  refine C3.out.mono ?_
  rintro e v5 ⟨⟨ya, yn, yc, rfl, hyn, oy⟩, r5, f5⟩
  have gX5 := f5.heap GX4.out (fun e => by have := HRX.out; omega)
  have gB5 := f5.heap GB4.out (fun e => by have := HRMB.out; omega)
  have B05 := belowSet HB04.out f5 (by have := hlB.out; have := HRMB.out; omega)
  have C4 := Lib.hid (danswer_any ya yn yc y v5 (HEn.out v5 B05) hyn oy.isB)
  have HR5 := Lib.hid r5
  have GX5 := Lib.hid gX5
  have GB5 := Lib.hid gB5
  have HB05 := Lib.hid B05
  clear C3 hyn oy r5 f5 gX5 gB5 B05 GX4 GB4 HB04
  have fin : Hid (∀ (V : World) (cs : Array Value), Below v5.heap.size v5 V → (Below w.heap.size w (V.alloc (.cells cs 45)) ∧ Rd (V.alloc (.cells cs 45)) RM l3 k3 ∧ (V.alloc (.cells cs 45)).heap[X]? = some (.cells #[.int .i64 e1, .int .i64 e2, .int .i64 0, .complex .f64 0 0, .complex .f64 0 0] 47) ∧ (V.alloc (.cells cs 45)).heap[B]? = some (.cells #[.int .i64 0, .int .i64 0, .int .i64 0, .complex .f64 0 0, .complex .f64 0 0] 47))) := Lib.hid (fun V cs b => by
    have b2 : Below v5.heap.size v5 (V.alloc (.cells cs 45)) := b.alloc b.size _
    exact ⟨HB05.out.trans (b2.mono HB05.out.size), HR5.out.below' b2, (b2.block X (Array.getElem?_eq_some_iff.1 GX5.out).1).trans GX5.out, (b2.block B (Array.getElem?_eq_some_iff.1 GB5.out).1).trans GB5.out⟩)
  go_wp2_with fail
  refine C4.out.mono ?_
  rintro e v6 ⟨he, b6⟩
  clear C4
  cases hda : QT.decAn y with
  | none =>
    rw [hda] at he
    have hd := Hdec.out
    rw [hda] at hd
    simp only at hd
    simp only [EAn, vAn, QT.an0, fB_zero] at he
    subst he
    obtain ⟨w8, hw8⟩ : ∃ W, W = v6.alloc (.cells #[.int .i64 0, .complex .f64 0 0, .complex .f64 0 0] 45) := ⟨_, rfl⟩
    obtain ⟨b8, r8, x8, g8⟩ := fin.out v6 #[.int .i64 0, .complex .f64 0 0, .complex .f64 0 0] b6
    rw [← hw8] at b8 r8 x8 g8
    have C5 := Lib.hid (done_any RM l3 k3 w8 r8)
    have HW8 := Lib.hid hw8.symm
    have B08 := Lib.hid b8
    have GB8 := Lib.hid g8
    obtain ⟨w6, hw6⟩ : ∃ W, W = (((((w8.setCell ⟨B, 0, none⟩ (.int .i64 0)).setCell ⟨B, 1, none⟩ (.int .i64 0)).setCell ⟨B, 2, none⟩ (.int .i64 0)).setCell ⟨B, 3, none⟩ (.complex .f64 0 0)).setCell ⟨B, 4, none⟩ (.complex .f64 0 0)) := ⟨_, rfl⟩
    have g6 : w6.heap[B]? = some (.cells #[.int .i64 0, .int .i64 0, .int .i64 0, .complex .f64 0 0, .complex .f64 0 0] 47) := by rw [hw6]; exact stored5 GB8.out _ _ _ _ _
    have b6x : Below w.heap.size w w6 := by rw [hw6]; exact belowSet B08.out (fr5s w8 B _ _ _ _ _) hlB.out
    have EW := Lib.hid (cells5f g6).1
    have Fin : Hid ((Ending.returned (.tuple #[.agg #[.int .i64 0, .int .i64 0, .int .i64 0, .complex .f64 0 0, .complex .f64 0 0], .iface 78 (.int .i64 3)])) = ERp (QT.decRp l) ∧ Below w.heap.size w w6) := Lib.hid ⟨by rw [hd, ERp, vRp, QT.rp0, QT.an0, fB_zero], b6x⟩
    have HW6 := Lib.hid hw6.symm
    obtain ⟨⟨y0, y1, y2, y3, y4⟩, q0, q1, q2, q3, q4⟩ := cells5f g8
    clear hw6 g6 b6x hd Hdec hda b8 r8 x8 g8 hw8 b6 fin GX5 GB5 HB05 HR5
    go_wp2_with fail
    rw [HW8.out]
    clear HW8
    refine C5.out.mono ?_
    rintro e v9 ⟨rfl, rfl⟩
    clear C5
    rcases hdn : PK.doneP l3 k3 with _ | d
    · unfold errV
      clear hdn
      go_wp2_with (rw [HW6.out]; obtain ⟨e0', e1', e2', e3', e4'⟩ := EW.out; refine bodyPost_ret (v := .tuple #[.agg #[.int .i64 0, .int .i64 0, .int .i64 0, .complex .f64 0 0, .complex .f64 0 0], .iface 78 (.int .i64 3)]) (by simp [results, Tryz.results20, go_sem, e0', e1', e2', e3', e4']) rfl ?_; exact Fin.out)
    · unfold errV
      clear hdn
      go_wp2_with (rw [HW6.out]; obtain ⟨e0', e1', e2', e3', e4'⟩ := EW.out; refine bodyPost_ret (v := .tuple #[.agg #[.int .i64 0, .int .i64 0, .int .i64 0, .complex .f64 0 0, .complex .f64 0 0], .iface 78 (.int .i64 3)]) (by simp [results, Tryz.results20, go_sem, e0', e1', e2', e3', e4']) rfl ?_; exact Fin.out)
  | some x =>
    rw [hda] at he
    have hd := Hdec.out
    rw [hda] at hd
    simp only at hd
    simp only [EAn, vAn] at he
    subst he
    obtain ⟨w8, hw8⟩ : ∃ W, W = v6.alloc (.cells #[.int .i64 x.er, .complex .f64 (FL.fB x.u1) (FL.fB x.u2), .complex .f64 (FL.fB x.t1) (FL.fB x.t2)] 45) := ⟨_, rfl⟩
    obtain ⟨b8, r8, x8, g8⟩ := fin.out v6 #[.int .i64 x.er, .complex .f64 (FL.fB x.u1) (FL.fB x.u2), .complex .f64 (FL.fB x.t1) (FL.fB x.t2)] b6
    obtain ⟨YB, hYB⟩ : ∃ B, B = v6.heap.size := ⟨_, rfl⟩
    have gY : w8.heap[YB]? = some (.cells #[.int .i64 x.er, .complex .f64 (FL.fB x.u1) (FL.fB x.u2), .complex .f64 (FL.fB x.t1) (FL.fB x.t2)] 45) := by rw [hw8, hYB]; exact heap_alloc_new _ _
    rw [← hw8] at b8 r8 x8 g8
    have C5 := Lib.hid (done_any RM l3 k3 w8 r8)
    have HW8 := Lib.hid hw8.symm
    have HYB := Lib.hid hYB.symm
    have B08 := Lib.hid b8
    have GB8 := Lib.hid g8
    have hXB : ¬ X = B := by have := HRX.out; have := HRMB.out; omega
    have hlX : w.heap.size ≤ X := by have := hlB.out; have := HRX.out; have := HRMB.out; omega
    by_cases hz : k3 = 0 ∧ l3 = []
    · obtain ⟨rfl, rfl⟩ := hz
      rw [if_pos ⟨rfl, rfl⟩] at hd
      rw [PK.doneP_zero] at C5
      obtain ⟨wa, hwa⟩ : ∃ W, W = (((w8.setCell ⟨X, 2, none⟩ (.int .i64 x.er)).setCell ⟨X, 3, none⟩ (.complex .f64 (FL.fB x.u1) (FL.fB x.u2))).setCell ⟨X, 4, none⟩ (.complex .f64 (FL.fB x.t1) (FL.fB x.t2))) := ⟨_, rfl⟩
      have fa : Fr (fun j => j = X) w8 wa := by rw [hwa]; exact fr3at w8 X _ _ _
      have ga : wa.heap[X]? = some (.cells #[.int .i64 e1, .int .i64 e2, .int .i64 x.er, .complex .f64 (FL.fB x.u1) (FL.fB x.u2), .complex .f64 (FL.fB x.t1) (FL.fB x.t2)] 47) := by rw [hwa]; exact stored3of5 x8 _ _ _
      have gBa := fa.heap g8 (fun e => hXB e.symm)
      obtain ⟨w6, hw6⟩ : ∃ W, W = (((((wa.setCell ⟨B, 0, none⟩ (.int .i64 e1)).setCell ⟨B, 1, none⟩ (.int .i64 e2)).setCell ⟨B, 2, none⟩ (.int .i64 x.er)).setCell ⟨B, 3, none⟩ (.complex .f64 (FL.fB x.u1) (FL.fB x.u2))).setCell ⟨B, 4, none⟩ (.complex .f64 (FL.fB x.t1) (FL.fB x.t2))) := ⟨_, rfl⟩
      have g6 : w6.heap[B]? = some (.cells #[.int .i64 e1, .int .i64 e2, .int .i64 x.er, .complex .f64 (FL.fB x.u1) (FL.fB x.u2), .complex .f64 (FL.fB x.t1) (FL.fB x.t2)] 47) := by rw [hw6]; exact stored5 gBa _ _ _ _ _
      have b6' : Below w.heap.size w w6 := by rw [hw6]; exact belowSet (belowSet b8 fa hlX) (fr5s wa B _ _ _ _ _) hlB.out
      have EW := Lib.hid (cells5f g6).1
      have Fin : Hid ((Ending.returned (.tuple #[.agg #[.int .i64 e1, .int .i64 e2, .int .i64 x.er, .complex .f64 (FL.fB x.u1) (FL.fB x.u2), .complex .f64 (FL.fB x.t1) (FL.fB x.t2)], .nilIface])) = ERp (QT.decRp l) ∧ Below w.heap.size w w6) := Lib.hid ⟨by rw [hd]; rfl, b6'⟩
      have HW6 := Lib.hid hw6.symm
      have HWa := Lib.hid hwa.symm
      obtain ⟨⟨u0, u1, u2⟩, _⟩ := cells3f gY
      obtain ⟨⟨v0, v1', v2', v3', v4'⟩, p0, p1, p2, p3, p4⟩ := cells5f x8
      obtain ⟨⟨t0, t1, t2, t3, t4⟩, _⟩ := cells5f ga
      obtain ⟨⟨y0, y1, y2, y3, y4⟩, q0, q1, q2, q3, q4⟩ := cells5f gBa
      clear hw6 g6 b6' hd Hdec hda b8 r8 g8 x8 hw8 hYB gY b6 fin GX5 GB5 HB05 HR5 hwa fa ga gBa hXB hlX GB8 B08
      go_wp2_with fail
      rw [HW8.out, HYB.out]
      clear HW8 HYB
      refine C5.out.mono ?_
      rintro e v9 ⟨rfl, rfl⟩
      clear C5
      unfold errV
      go_wp2_with (first | rw [HWa.out] | (rw [HW6.out]; obtain ⟨e0', e1', e2', e3', e4'⟩ := EW.out; refine bodyPost_ret (v := .tuple #[.agg #[.int .i64 e1, .int .i64 e2, .int .i64 x.er, .complex .f64 (FL.fB x.u1) (FL.fB x.u2), .complex .f64 (FL.fB x.t1) (FL.fB x.t2)], .nilIface]) (by simp [results, Tryz.results20, go_sem, e0', e1', e2', e3', e4']) rfl ?_; exact Fin.out))
    · rw [if_neg hz] at hd
      obtain ⟨d, hdn⟩ := doneP_bad hz
      rw [hdn] at C5
      obtain ⟨w6, hw6⟩ : ∃ W, W = (((((w8.setCell ⟨B, 0, none⟩ (.int .i64 0)).setCell ⟨B, 1, none⟩ (.int .i64 0)).setCell ⟨B, 2, none⟩ (.int .i64 0)).setCell ⟨B, 3, none⟩ (.complex .f64 0 0)).setCell ⟨B, 4, none⟩ (.complex .f64 0 0)) := ⟨_, rfl⟩
      have g6 : w6.heap[B]? = some (.cells #[.int .i64 0, .int .i64 0, .int .i64 0, .complex .f64 0 0, .complex .f64 0 0] 47) := by rw [hw6]; exact stored5 GB8.out _ _ _ _ _
      have b6x : Below w.heap.size w w6 := by rw [hw6]; exact belowSet B08.out (fr5s w8 B _ _ _ _ _) hlB.out
      have EW := Lib.hid (cells5f g6).1
      have Fin : Hid ((Ending.returned (.tuple #[.agg #[.int .i64 0, .int .i64 0, .int .i64 0, .complex .f64 0 0, .complex .f64 0 0], .iface 78 (.int .i64 3)])) = ERp (QT.decRp l) ∧ Below w.heap.size w w6) := Lib.hid ⟨by rw [hd, ERp, vRp, QT.rp0, QT.an0, fB_zero], b6x⟩
      have HW6 := Lib.hid hw6.symm
      obtain ⟨⟨y0, y1, y2, y3, y4⟩, q0, q1, q2, q3, q4⟩ := cells5f g8
      clear hw6 g6 b6x b6 hd Hdec hda b8 r8 x8 g8 hw8 hYB gY fin GX5 GB5 HB05 HR5 hz hdn hXB hlX
      go_wp2_with fail
      rw [HW8.out, HYB.out]
      clear HW8 HYB
      refine C5.out.mono ?_
      rintro e v9 ⟨rfl, rfl⟩
      clear C5
      unfold errV
      go_wp2_with (rw [HW6.out]; obtain ⟨e0', e1', e2', e3', e4'⟩ := EW.out; refine bodyPost_ret (v := .tuple #[.agg #[.int .i64 0, .int .i64 0, .int .i64 0, .complex .f64 0 0, .complex .f64 0 0], .iface 78 (.int .i64 3)]) (by simp [results, Tryz.results20, go_sem, e0', e1', e2', e3', e4']) rfl ?_; exact Fin.out)
structure DrS (w V : World) (B X : Nat) (a : Option Addr) (n c : Nat) (l : List UInt8) (k : Nat) (cs : Array Value) (t : TypeId) (K : List (Nat × Obj)) : Prop where
  be : Below w.heap.size w V
  rb : V.heap[B]? = some (.cells #[.slice a n c, .int .i64 (k : Nat)] 80)
  xb : V.heap[X]? = some (.cells cs t)
  is : IsB V (.slice a n c) l
  hn : l.length = n
  lr : l.length ≤ roomB
  ne : B ≠ X ∧ w.heap.size ≤ B ∧ w.heap.size ≤ X
  n8 : ∀ (j : Nat) (m : Int), cs[j]? ≠ some (.int .u8 m)
  kp : ∀ p ∈ K, V.heap[p.1]? = some p.2 ∧ p.1 ≠ B ∧ p.1 ≠ X
section
variable {w V V' : World} {B X : Nat} {a a' : Option Addr} {n c n' c' : Nat} {l l' : List UInt8} {k k' : Nat} {cs cs' : Array Value} {t : TypeId} {K : List (Nat × Obj)}
theorem DrS.below (h : DrS w V B X a n c l k cs t K) (f : Below V.heap.size V V') : DrS w V' B X a n c l k cs t K :=
  ⟨h.be.trans (f.mono h.be.size), (f.block B (Array.getElem?_eq_some_iff.1 h.rb).1).trans h.rb, (f.block X (Array.getElem?_eq_some_iff.1 h.xb).1).trans h.xb, h.is.below f, h.hn, h.lr, h.ne, h.n8, fun p hp => by
    obtain ⟨h1, h2, h3⟩ := h.kp p hp
    exact ⟨(f.block p.1 (Array.getElem?_eq_some_iff.1 h1).1).trans h1, h2, h3⟩⟩
theorem DrS.noB (h : DrS w V B X a n c l k cs t K) (j : Nat) (m : Int) : V.cell? ⟨B, j, none⟩ ≠ some (.int .u8 m) := by
  simp only [World.cell?, h.rb]
  match j with
  | 0 => simp
  | 1 => simp
  | j + 2 => simp
theorem DrS.noX (h : DrS w V B X a n c l k cs t K) (j : Nat) (m : Int) : V.cell? ⟨X, j, none⟩ ≠ some (.int .u8 m) := by
  simp only [World.cell?, h.xb]
  exact h.n8 j m
/-- The reader's box turns. -/
theorem DrS.putR (h : DrS w V B X a n c l k cs t K) (hi : IsB V (.slice a' n' c') l') (hn : l'.length = n') (hl : l'.length ≤ roomB) : DrS w (put2q V B a' n' c' k') B X a' n' c' l' k' cs t K := by
  have f : Fr (fun j => j = B) V (put2q V B a' n' c' k') := put2q_fr (fun j => j = B) V B rfl a' n' c' k'
  refine ⟨belowSet h.be f h.ne.2.1, ?_, f.heap h.xb (fun e => h.ne.1 e.symm), hi.kept8q f (fun q hq => by subst hq; exact h.noB), hn, hl, h.ne, h.n8, fun p hp => ?_⟩
  · unfold put2q
    exact stored2 h.rb _ _
  · obtain ⟨h1, h2, h3⟩ := h.kp p hp
    exact ⟨f.heap h1 h2, h2, h3⟩
/-- A cell of the other box turns. -/
theorem DrS.putX (h : DrS w V B X a n c l k cs t K) (i : Nat) (v : Value) (hv : ∀ m, v ≠ .int .u8 m) (hs : cs.setIfInBounds i v = cs') : DrS w (V.setCell ⟨X, i, none⟩ v) B X a n c l k cs' t K := by
  have f : Fr (fun j => j = X) V (V.setCell ⟨X, i, none⟩ v) := Fr.setCell (X := fun j => j = X) (Fr.refl _ _) (fun _ => rfl) _
  refine ⟨belowSet h.be f h.ne.2.2, f.heap h.rb (fun e => h.ne.1 e), ?_, h.is.kept8q f (fun q hq => by subst hq; exact h.noX), h.hn, h.lr, h.ne, ?_, fun p hp => ?_⟩
  · rw [← hs]
    simp only [World.setCell, Array.getElem?_modify, if_true, h.xb, Option.map_some]
    simp
  · rw [← hs]
    intro j m
    rw [Array.getElem?_setIfInBounds]
    split
    · split
      · intro e
        exact hv m (Option.some.inj e)
      · simp
    · exact h.n8 j m
  · obtain ⟨h1, h2, h3⟩ := h.kp p hp
    exact ⟨f.heap h1 h3, h2, h3⟩
end
structure TbS (w v2 V : World) (B X : Nat) (a : Option Addr) (n c : Nat) (l : List UInt8) (k : Nat) (vN vU vS : Value) (L : List QT.Sn) : Prop where
  be : Below w.heap.size w V
  fv : Fr (fun j => j = B) v2 V
  zb : V.heap[w.heap.size]? = some (.cells #[.slice none 0 0, .slice none 0 0, .slice none 0 0] 35)
  rb : V.heap[B]? = some (.cells #[.slice a n c, .int .i64 (k : Nat)] 80)
  xb : V.heap[X]? = some (.cells #[vN, vU, vS] 35)
  is : IsB V (.slice a n c) l
  hn : l.length = n
  lr : l.length ≤ roomB
  oS : OwnSn V vS L
  bS : ∀ b, vS.ownBlock = some b → X < b
  ne : w.heap.size < B ∧ B < v2.heap.size ∧ v2.heap.size ≤ X
  n8 : (∀ m, vN ≠ .int .u8 m) ∧ ∀ m, vU ≠ .int .u8 m
section
variable {w v2 V V' : World} {B X : Nat} {a a' : Option Addr} {n c n' c' : Nat} {l l' : List UInt8} {k k' : Nat} {vN vU vS : Value} {L : List QT.Sn}
theorem TbS.lt (h : TbS w v2 V B X a n c l k vN vU vS L) : X < V.heap.size := (Array.getElem?_eq_some_iff.1 h.xb).1
theorem TbS.fr {Q : Nat → Prop} (h : TbS w v2 V B X a n c l k vN vU vS L) (f : Fr Q V V') (hq : ∀ q, Q q → X < q) (h8 : ∀ q, Q q → ∀ j m, V.cell? ⟨q, j, none⟩ ≠ some (.int .u8 m)) (hS : ∀ b, vS.ownBlock = some b → ¬ Q b) : TbS w v2 V' B X a n c l k vN vU vS L := by
  have hne := h.ne
  have f1 : ∀ q, q ≤ X → ¬ Q q := fun q hX e => by have := hq q e; omega
  exact ⟨h.be.trans ⟨f.os, f.tape, f.output, f.size, fun q hq => f.block q (Nat.lt_of_lt_of_le hq h.be.size) (f1 q (by omega))⟩,
    ⟨f.os.trans h.fv.os, f.tape.trans h.fv.tape, f.output.trans h.fv.output, Nat.le_trans h.fv.size f.size, fun q hq hb => (f.block q (Nat.lt_of_lt_of_le hq h.fv.size) (f1 q (by omega))).trans (h.fv.block q hq hb)⟩,
    f.heap h.zb (f1 _ (by omega)), f.heap h.rb (f1 _ (by omega)), f.heap h.xb (f1 _ (by omega)), h.is.kept8q f h8, h.hn, h.lr, h.oS.kept f hS, h.bS, hne, h.n8⟩
theorem TbS.below (h : TbS w v2 V B X a n c l k vN vU vS L) (f : Below V.heap.size V V') : TbS w v2 V' B X a n c l k vN vU vS L :=
  h.fr (Q := fun _ => False) (Fr.of_below f) (fun _ x => x.elim) (fun _ x => x.elim) (fun _ _ x => x)
theorem TbS.noB (h : TbS w v2 V B X a n c l k vN vU vS L) (j : Nat) (m : Int) : V.cell? ⟨B, j, none⟩ ≠ some (.int .u8 m) := by
  intro e
  simp only [World.cell?, h.rb] at e
  rcases j with _ | _ | j <;> simp at e
theorem TbS.noX (h : TbS w v2 V B X a n c l k vN vU vS L) (j : Nat) (m : Int) : V.cell? ⟨X, j, none⟩ ≠ some (.int .u8 m) := by
  intro e
  simp only [World.cell?, h.xb] at e
  rcases j with _ | _ | _ | j
  · simp at e; exact h.n8.1 m e
  · simp at e; exact h.n8.2 m e
  · simp at e; exact h.oS.v8 m e
  · simp at e
/-- The reader turns. -/
theorem TbS.putR (h : TbS w v2 V B X a n c l k vN vU vS L) (hi : IsB V (.slice a' n' c') l') (hn : l'.length = n') (hl : l'.length ≤ roomB) : TbS w v2 (put2q V B a' n' c' k') B X a' n' c' l' k' vN vU vS L := by
  have f : Fr (fun j => j = B) V (put2q V B a' n' c' k') := put2q_fr (fun j => j = B) V B rfl a' n' c' k'
  have hne := h.ne
  exact ⟨belowSet h.be f (by omega),
    ⟨f.os.trans h.fv.os, f.tape.trans h.fv.tape, f.output.trans h.fv.output, Nat.le_trans h.fv.size f.size, fun q hq hb => (f.block q (Nat.lt_of_lt_of_le hq h.fv.size) hb).trans (h.fv.block q hq hb)⟩,
    f.heap h.zb (by omega), stored2 h.rb _ _, f.heap h.xb (by omega), hi.kept8q f (fun q hq => by subst hq; exact h.noB), hn, hl, h.oS.kept f (fun b hb e => by have := h.bS b hb; omega), h.bS, hne, h.n8⟩
theorem stored3at2 {w : World} {M : Nat} {x0 x1 x2 : Value} {t : TypeId} (h : w.heap[M]? = some (.cells #[x0, x1, x2] t)) (y : Value) : (w.setCell ⟨M, 2, none⟩ y).heap[M]? = some (.cells #[x0, x1, y] t) := by
  simp only [World.setCell, Array.getElem?_modify, if_true, h, Option.map_some]
  simp
/-- A session more. -/
theorem TbS.putS (h : TbS w v2 V B X a n c l k vN vU vS L) (o : Obj) {V8 V9 : World} (e8 : V8 = V.alloc o) (f : Fr (fun q => vS.ownBlock = some q) V8 V9) {a' : Option Addr} {n' c' : Nat} {L' : List QT.Sn} (o9 : OwnSn V9 (.slice a' n' c') L')
    (nb : Value.ownBlock (.slice a' n' c') = vS.ownBlock ∨ ∃ g, a' = some ⟨g, 0, none⟩ ∧ V8.heap.size ≤ g) : TbS w v2 (V9.setCell ⟨X, 2, none⟩ (.slice a' n' c')) B X a n c l k vN vU (.slice a' n' c') L' := by
  subst e8
  have h1 := h.below ((Below.refl _ V).alloc (Nat.le_refl _) o)
  have hlt := h.lt
  have hne := h.ne
  have hsz : (V.alloc o).heap.size = V.heap.size + 1 := by simp
  have f2 : Fr (fun j => j = X) V9 (V9.setCell ⟨X, 2, none⟩ (.slice a' n' c')) := Fr.setCell (X := fun j => j = X) (Fr.refl _ _) (fun _ => rfl) _
  have b9 : ∀ b, Value.ownBlock (.slice a' n' c') = some b → X < b := fun b hb => by
    rcases nb with e | ⟨g, rfl, hg⟩
    · rw [e] at hb; exact h1.bS b hb
    · simp [Value.ownBlock] at hb
      omega
  have nS : ∀ q, q ≤ X → ¬ vS.ownBlock = some q := fun q hq e => by have := h1.bS q e; omega
  have is9 := h1.is.kept8q f (fun q hq => h1.oS.no8 q hq)
  have zb9 := f.heap h1.zb (nS _ (by omega))
  have rb9 := f.heap h1.rb (nS _ (by omega))
  have xb9 := f.heap h1.xb (nS _ (by omega))
  have no9 : ∀ j m, V9.cell? ⟨X, j, none⟩ ≠ some (.int .u8 m) := fun j m e => by
    simp only [World.cell?, xb9] at e
    rcases j with _ | _ | _ | j
    · simp at e; exact h1.n8.1 m e
    · simp at e; exact h1.n8.2 m e
    · simp at e; exact h1.oS.v8 m e
    · simp at e
  have be9 : Below w.heap.size w V9 := h1.be.trans ⟨f.os, f.tape, f.output, f.size, fun q hq => f.block q (Nat.lt_of_lt_of_le hq h1.be.size) (nS q (by omega))⟩
  have fv9 : Fr (fun j => j = B) v2 V9 := ⟨f.os.trans h1.fv.os, f.tape.trans h1.fv.tape, f.output.trans h1.fv.output, Nat.le_trans h1.fv.size f.size, fun q hq hb => (f.block q (Nat.lt_of_lt_of_le hq h1.fv.size) (nS q (by omega))).trans (h1.fv.block q hq hb)⟩
  exact ⟨belowSet be9 f2 (by omega), ⟨f2.os.trans fv9.os, f2.tape.trans fv9.tape, f2.output.trans fv9.output, Nat.le_trans fv9.size f2.size, fun q hq hb => (f2.block q (Nat.lt_of_lt_of_le hq fv9.size) (by omega)).trans (fv9.block q hq hb)⟩,
    f2.heap zb9 (by omega), f2.heap rb9 (by omega), stored3at2 xb9 _, is9.kept8q f2 (fun q hq => by subst hq; exact no9), h.hn, h.lr,
    o9.kept f2 (fun b hb e => by have := b9 b hb; omega), b9, hne, h.n8⟩
/-- What the tree's slices read is read still. -/
theorem TbS.nodes (h : TbS w v2 V B X a n c l k vN vU vS L) {N : List QT.Nd} {u : Value} (hB : ∃ (a0 : Option Addr) (n0 c0 : Nat) (k0 : Int), v2.heap[B]? = some (.cells #[.slice a0 n0 c0, .int .i64 k0] 80)) (hN : RdsNd v2 u N) : RdsNd V u N := by
  obtain ⟨a0, n0, c0, k0, hB⟩ := hB
  exact hN.kept8 h.fv (fun q hq j x u hu e => by
    subst hq
    simp only [World.cell?, hB] at e
    rcases j with _ | _ | j
    · simp at e; subst e; simp [valsNd] at hu
    · simp at e; subst e; simp [valsNd] at hu
    · simp at e)
theorem TbS.uses (h : TbS w v2 V B X a n c l k vN vU vS L) {N : List QT.Us} {u : Value} (hB : ∃ (a0 : Option Addr) (n0 c0 : Nat) (k0 : Int), v2.heap[B]? = some (.cells #[.slice a0 n0 c0, .int .i64 k0] 80)) (hN : RdsUs v2 u N) : RdsUs V u N := by
  obtain ⟨a0, n0, c0, k0, hB⟩ := hB
  exact hN.kept8 h.fv (fun q hq j x u hu e => by
    subst hq
    simp only [World.cell?, hB] at e
    rcases j with _ | _ | j
    · simp at e; subst e; simp [valsUs] at hu
    · simp at e; subst e; simp [valsUs] at hu
    · simp at e)
end
end Go.Proofs.YtkanjdijmdjbaaaGreatDoor
