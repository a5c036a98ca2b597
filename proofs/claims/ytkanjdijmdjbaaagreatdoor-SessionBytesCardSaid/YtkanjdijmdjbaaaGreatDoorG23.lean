/-
  The program's answers and replies as bytes: order.EncodeAnswer, session.EncodeReply.
  Conditions: the listed variables read as listed ('Env'); numbers of 64 bits, amounts as such.
  The document's answers and replies as bytes: tollbarref07.EncodeAnswer, tollbarref08.EncodeReply.
  Conditions: numbers of 64 bits, amounts as such.
-/
import Derived.Test.YtkanjdijmdjbaaaGreatDoorG21
import Derived.Test.YtkanjdijmdjbaaaGreatDoorEncQ
import Derived.Test.YtkanjdijmdjbaaaGreatDoorG3
namespace Go.Proofs.YtkanjdijmdjbaaaGreatDoor
open Go Go.RowKit

theorem QT.uB_len64 (n : Nat) (h : n ≤ 1099511627776) : (PK.uB n).length ≤ 22 := PK.uB_len n (by omega)
theorem QT.encAn_len {x : QT.An} (h : QT.fineAn x) : (QT.encAn x).length ≤ 118 := by
  obtain ⟨h0, h1, h2, h3, h4⟩ := h
  simp only [QT.cap] at h1 h2 h3 h4
  have := QT.iB_len h0
  have := QT.uB_len64 _ h1
  have := QT.uB_len64 _ h2
  have := QT.uB_len64 _ h3
  have := QT.uB_len64 _ h4
  unfold QT.encAn
  simp only [List.length_append]
  omega
theorem QT.bB_len {d : List UInt8} (h : d.length < 18446744073709551616) : (QT.bB d).length ≤ d.length + 22 := by
  have := decDigits_le d.length (by omega)
  unfold QT.bB
  simp only [List.length_append, List.length_cons, List.length_nil]
  omega
theorem QT.encRp_len {x : QT.Rp} (h : QT.fineRp x) : (QT.encRp x).length ≤ 200 := by
  have h1 := QT.iB_len h.1
  have h2 := QT.iB_len h.2.1
  have h3 := QT.encAn_len h.2.2
  have h4 := QT.bB_len (d := QT.encAn x.an) (by omega)
  unfold QT.encRp
  simp only [List.length_append]
  omega
set_option maxRecDepth 100000 in
set_option maxHeartbeats 4000000 in
theorem eanswer_any (x : QT.An) (w : World) (hE : Env w) (hx : QT.fineAn x) :
    Calls Tryz.prog 81 #[.agg #[.int .i64 x.er, .complex .f64 (FL.fB x.u1) (FL.fB x.u2), .complex .f64 (FL.fB x.t1) (FL.fB x.t2)]] w fun e w' => RW w w' e (QT.encAn x) := by
  obtain ⟨hf, h1, h2, h3, h4⟩ := hx
  simp only [QT.cap] at h1 h2 h3 h4
  have hi := QT.iB_len hf
  have u1 := QT.uB_len64 x.u1 h1
  have u2 := QT.uB_len64 x.u2 h2
  obtain ⟨W0, hW0⟩ : ∃ W, W = w.alloc (.cells #[.int .i64 x.er, .complex .f64 (FL.fB x.u1) (FL.fB x.u2), .complex .f64 (FL.fB x.t1) (FL.fB x.t2)] 45) := ⟨_, rfl⟩
  obtain ⟨B, hB⟩ : ∃ B, B = w.heap.size := ⟨_, rfl⟩
  have b0 : Below w.heap.size w W0 := by rw [hW0]; exact (Below.refl _ _).alloc (Nat.le_refl _) _
  have g0 : W0.heap[B]? = some (.cells #[.int .i64 x.er, .complex .f64 (FL.fB x.u1) (FL.fB x.u2), .complex .f64 (FL.fB x.t1) (FL.fB x.t2)] 45) := by rw [hW0, hB]; exact heap_alloc_new _ _
  have hBlt : B < W0.heap.size := (Array.getElem?_eq_some_iff.1 g0).1
  have cont : Hid (∀ V, Below W0.heap.size W0 V → (Hid (Below W0.heap.size W0 V) ∧ V.cell? ⟨B, 0, none⟩ = some (.int .i64 x.er) ∧ V.cell? ⟨B, 1, none⟩ = some (.complex .f64 (FL.fB x.u1) (FL.fB x.u2)) ∧ V.cell? ⟨B, 2, none⟩ = some (.complex .f64 (FL.fB x.t1) (FL.fB x.t2)))) := Lib.hid (fun V b => by
    obtain ⟨⟨y0, y1, y2⟩, _⟩ := cells3f ((b.block B hBlt).trans g0)
    exact ⟨Lib.hid b, y0, y1, y2⟩)
  have hEg := hE.big
  have HEn := Lib.hid (fun (V : World) (b : Below W0.heap.size W0 V) => hE.wr (b0.trans (b.mono b0.size)) hEg)
  have S0 := cont.out W0.drew (Below.refl _ _).drew
  have C0 := Lib.hid (new_any W0.drew (HEn.out W0.drew (Below.refl _ _).drew))
  have C1 : Hid (∀ V, Wr V W0.heap.size W0.heap.size [] → Below W0.heap.size W0 V → Calls Tryz.prog 80 #[.pointer (some ⟨W0.heap.size, 0, none⟩), .int .i64 x.er] V fun e w' => e = .returned (.pointer (some ⟨W0.heap.size, 0, none⟩)) ∧ Wr w' W0.heap.size W0.heap.size (QT.iB x.er) ∧ Below W0.heap.size V w') := Lib.hid (fun V r b => wint_any W0.heap.size W0.heap.size [] x.er V r hf.1 hf.2 (by
    unfold QT.iB at hi
    simp only [List.length_append, List.length_cons, List.length_nil] at hi ⊢
    simp only [roomB]
    omega) (HEn.out V b))
  have C2 : Hid (∀ V, Wr V W0.heap.size W0.heap.size (QT.iB x.er) → Calls Tryz.prog 35 #[.pointer (some ⟨W0.heap.size, 0, none⟩)] V fun e w' => (∃ a c, e = .returned (.slice a (QT.iB x.er).length c) ∧ OwnB w' (.slice a (QT.iB x.er).length c) (QT.iB x.er)) ∧ Below V.heap.size V w') := Lib.hid (fun V r => (wdone_any W0.heap.size W0.heap.size _ V r (by simp only [roomB]; omega)).mono fun e w' ⟨⟨a, c, q1, q2, _⟩, q3⟩ => ⟨⟨a, c, q1, q2⟩, q3⟩)
  have C3 : Hid (∀ (V : World) a c, OwnB V (.slice a (QT.iB x.er).length c) (QT.iB x.er) → Below W0.heap.size W0 V → Calls Tryz.prog 123 #[.slice a (QT.iB x.er).length c, .complex .f64 (FL.fB x.u1) (FL.fB x.u2)] V fun e w' => RW V w' e (QT.iB x.er ++ PK.uB x.u1 ++ PK.uB x.u2)) := Lib.hid (fun V a c o b => putA_any a _ c _ x.u1 x.u2 V (HEn.out V b) rfl o.isB h1 h2 (by simp only [roomB]; omega))
  have C4 : Hid (∀ (V : World) a n c, (QT.iB x.er ++ PK.uB x.u1 ++ PK.uB x.u2).length = n → OwnB V (.slice a n c) (QT.iB x.er ++ PK.uB x.u1 ++ PK.uB x.u2) → Below W0.heap.size W0 V → Calls Tryz.prog 123 #[.slice a n c, .complex .f64 (FL.fB x.t1) (FL.fB x.t2)] V fun e w' => RW V w' e (QT.encAn x)) := Lib.hid (fun V a n c hn o b => putA_any a n c _ x.t1 x.t2 V (HEn.out V b) hn o.isB h3 h4 (by
    rw [← hn]
    simp only [List.length_append, roomB]
    omega))
  have HW0 := Lib.hid hW0.symm
  have HB := Lib.hid hB.symm
  have B0 := Lib.hid b0
  clear hW0 b0 g0 hBlt hE hEg hf hi u1 u2 h1 h2 h3 h4 hB HEn
  go_enter Tryz.func81, Tryz.ntmps81
  go_wp2_with fail
  rw [HW0.out, HB.out]
  clear HW0 HB
  generalize QT.iB x.er = LI at *
  refine wp_region_noPanic ?_
  refine wp_region_held_drew (S := fun V => (Hid (Below W0.heap.size W0 V) ∧ V.cell? ⟨B, 0, none⟩ = some (.int .i64 x.er) ∧ V.cell? ⟨B, 1, none⟩ = some (.complex .f64 (FL.fB x.u1) (FL.fB x.u2)) ∧ V.cell? ⟨B, 2, none⟩ = some (.complex .f64 (FL.fB x.t1) (FL.fB x.t2)))) (by kernel_rfl) S0 (fun hHeld => ?_)
  refine rTk 1 ?_; try simp only [Act.put, rP1, rP2, rP3]
  refine rTk 2 ?_; try simp only [Act.put, rP1, rP2, rP3]
  refine rTk 5 ?_; try simp only [Act.put, rP1, rP2, rP3]
  refine rTk 6 ?_; try simp only [Act.put, rP1, rP2, rP3]
  refine rTk 8 ?_; try simp only [Act.put, rP1, rP2, rP3]
  refine rTk 9 ?_; try simp only [Act.put, rP1, rP2, rP3]
  refine rBr 0 fun K hK => ?_
  go_simp
  go_at_call 29
  refine C0.out.mono ?_
  rintro e v1 ⟨rfl, r1, b1⟩
  have B1 : Below W0.heap.size W0 v1 := (Below.refl W0.heap.size W0).drew.trans b1
  have S1 := cont.out v1 B1
  clear C0 S0 b1
  try (go_wp2_with fail)
  refine hK.out _ _ (by (try dsimp only); assumption) (fun hHeld => ?_)
  clear hK K
  try simp only [Act.put, rP1, rP2, rP3]
  refine rBr 3 fun K hK => ?_
  go_simp
  go_at_call 80
  refine (C1.out v1 r1 B1).mono ?_
  rintro e v2 ⟨rfl, r2, b2⟩
  have B2 := B1.trans b2
  have S2 := cont.out v2 B2
  clear C1 S1 r1 b2 B1
  try (go_wp2_with fail)
  refine hK.out _ _ (by (try dsimp only); assumption) (fun hHeld => ?_)
  clear hK K
  try simp only [Act.put, rP1, rP2, rP3]
  refine rBr 4 fun K hK => ?_
  go_simp
  go_at_call 35
  refine (C2.out v2 r2).mono ?_
  rintro e v3 ⟨⟨a3, c3, rfl, o3⟩, b3⟩
  have B3 := B2.trans (b3.mono B2.size)
  have S3 := cont.out v3 B3
  clear C2 S2 r2 b3 B2
  try (go_wp2_with fail)
  refine hK.out _ _ (by (try dsimp only); assumption) (fun hHeld => ?_)
  clear hK K
  try simp only [Act.put, rP1, rP2, rP3]
  refine rBr 7 fun K hK => ?_
  go_simp
  go_at_call 123
  refine (C3.out v3 a3 c3 o3 B3).mono ?_
  rintro e v4 ⟨⟨a4, n4, c4, rfl, hn4, o4, _⟩, b4⟩
  have B4 := B3.trans (b4.mono B3.size)
  have S4 := cont.out v4 B4
  have Hn4 := Lib.hid hn4
  clear C3 S3 o3 b4 B3 hn4
  try (go_wp2_with fail)
  refine hK.out _ _ (by (try dsimp only); assumption) (fun hHeld => ?_)
  clear hK K
  try simp only [Act.put, rP1, rP2, rP3]
  refine rBr 10 fun K hK => ?_
  go_simp
  go_at_call 123
  refine (C4.out v4 a4 n4 c4 Hn4.out o4 B4).mono ?_
  rintro e v5 ⟨⟨a5, n5, c5, rfl, hn5, o5, q5⟩, b5⟩
  have B5 := B4.trans (b5.mono B4.size)
  have S5 := cont.out v5 B5
  have Hn5 := Lib.hid hn5
  have Q5 := Lib.hid q5
  have O5 := Lib.hid o5
  have Bs := Lib.hid B4.size
  clear C4 S4 o4 b5 B4 hn5 q5 o5
  try (go_wp2_with fail)
  refine hK.out _ _ (by (try dsimp only); assumption) (fun hHeld => ?_)
  clear hK K
  try simp only [Act.put, rP1, rP2, rP3]
  refine rTk 11 ?_; try simp only [Act.put, rP1, rP2, rP3]
  refine wpAnyH_done (by kernel_rfl) ?_ _
  refine NoPanic.normal ?_
  have Fin := Lib.hid (B0.out.trans (B5.mono B0.out.size))
  clear S5 B5 hHeld
  go_wp2
  go_ret
  exact ⟨⟨a5, n5, c5, rfl, Hn5.out, O5.out, fun b hb => by have := Q5.out b hb; have := Bs.out; have := B0.out.size; omega⟩, Fin.out⟩
set_option maxRecDepth 100000 in
set_option maxHeartbeats 4000000 in
theorem ereply_any (x : QT.Rp) (w : World) (hE : Env w) (hx : QT.fineRp x) :
    Calls Tryz.prog 34 #[.agg #[.int .i64 x.er, .int .i64 x.se, .int .i64 x.an.er, .complex .f64 (FL.fB x.an.u1) (FL.fB x.an.u2), .complex .f64 (FL.fB x.an.t1) (FL.fB x.an.t2)]] w fun e w' => RW w w' e (QT.encRp x) := by
  obtain ⟨hf, hs, ha⟩ := hx
  have hi := QT.iB_len hf
  have hj := QT.iB_len hs
  have hal := QT.encAn_len ha
  obtain ⟨W0, hW0⟩ : ∃ W, W = w.alloc (.cells #[.int .i64 x.er, .int .i64 x.se, .int .i64 x.an.er, .complex .f64 (FL.fB x.an.u1) (FL.fB x.an.u2), .complex .f64 (FL.fB x.an.t1) (FL.fB x.an.t2)] 47) := ⟨_, rfl⟩
  obtain ⟨B, hB⟩ : ∃ B, B = w.heap.size := ⟨_, rfl⟩
  have b0 : Below w.heap.size w W0 := by rw [hW0]; exact (Below.refl _ _).alloc (Nat.le_refl _) _
  have g0 : W0.heap[B]? = some (.cells #[.int .i64 x.er, .int .i64 x.se, .int .i64 x.an.er, .complex .f64 (FL.fB x.an.u1) (FL.fB x.an.u2), .complex .f64 (FL.fB x.an.t1) (FL.fB x.an.t2)] 47) := by rw [hW0, hB]; exact heap_alloc_new _ _
  have hBlt : B < W0.heap.size := (Array.getElem?_eq_some_iff.1 g0).1
  have cont : Hid (∀ V, Below W0.heap.size W0 V → (Hid (Below W0.heap.size W0 V) ∧ V.cell? ⟨B, 0, none⟩ = some (.int .i64 x.er) ∧ V.cell? ⟨B, 1, none⟩ = some (.int .i64 x.se) ∧ V.cell? ⟨B, 2, none⟩ = some (.int .i64 x.an.er) ∧ V.cell? ⟨B, 3, none⟩ = some (.complex .f64 (FL.fB x.an.u1) (FL.fB x.an.u2)) ∧ V.cell? ⟨B, 4, none⟩ = some (.complex .f64 (FL.fB x.an.t1) (FL.fB x.an.t2)))) := Lib.hid (fun V b => by
    obtain ⟨⟨y0, y1, y2, y3, y4⟩, _⟩ := cells5f ((b.block B hBlt).trans g0)
    exact ⟨Lib.hid b, y0, y1, y2, y3, y4⟩)
  have hEg := hE.big
  have hg0 : glob ≤ W0.heap.size := Nat.le_trans hEg b0.size
  have HEn := Lib.hid (fun (V : World) (b : Below W0.heap.size W0 V) => hE.wr (b0.trans (b.mono b0.size)) hEg)
  have S0 := cont.out W0.drew (Below.refl _ _).drew
  have C0 := Lib.hid (new_any W0.drew (HEn.out W0.drew (Below.refl _ _).drew))
  have C1 : Hid (∀ V, Wr V W0.heap.size W0.heap.size [] → Below W0.heap.size W0 V → Calls Tryz.prog 80 #[.pointer (some ⟨W0.heap.size, 0, none⟩), .int .i64 x.er] V fun e w' => e = .returned (.pointer (some ⟨W0.heap.size, 0, none⟩)) ∧ Wr w' W0.heap.size W0.heap.size (QT.iB x.er) ∧ Below W0.heap.size V w') := Lib.hid (fun V r b => wint_any W0.heap.size W0.heap.size [] x.er V r hf.1 hf.2 (by
    unfold QT.iB at hi
    simp only [List.length_append, List.length_cons, List.length_nil] at hi ⊢
    simp only [roomB]
    omega) (HEn.out V b))
  have C2 : Hid (∀ V, Wr V W0.heap.size W0.heap.size (QT.iB x.er) → Below W0.heap.size W0 V → Calls Tryz.prog 80 #[.pointer (some ⟨W0.heap.size, 0, none⟩), .int .i64 x.se] V fun e w' => e = .returned (.pointer (some ⟨W0.heap.size, 0, none⟩)) ∧ Wr w' W0.heap.size W0.heap.size (QT.iB x.er ++ QT.iB x.se) ∧ Below W0.heap.size V w') := Lib.hid (fun V r b => wint_any W0.heap.size W0.heap.size (QT.iB x.er) x.se V r hs.1 hs.2 (by
    unfold QT.iB at hj
    simp only [List.length_append, List.length_cons, List.length_nil] at hj ⊢
    simp only [roomB]
    omega) (HEn.out V b))
  have C3 := Lib.hid (fun (V : World) (b : Below W0.heap.size W0 V) => eanswer_any x.an V (HEn.out V b) ha)
  have C4 : Hid (∀ (V V' : World) a n c, Wr V W0.heap.size W0.heap.size (QT.iB x.er ++ QT.iB x.se) → Below W0.heap.size W0 V → Below V.heap.size V V' → (QT.encAn x.an).length = n → OwnB V' (.slice a n c) (QT.encAn x.an) → (∀ b, Value.ownBlock (.slice a n c) = some b → V.heap.size ≤ b) →
      Calls Tryz.prog 30 #[.pointer (some ⟨W0.heap.size, 0, none⟩), .slice a n c] V' fun e w' => e = .returned (.pointer (some ⟨W0.heap.size, 0, none⟩)) ∧ (∃ G, Wg w' G W0.heap.size (QT.encRp x)) ∧ Below W0.heap.size V' w') := Lib.hid (fun V V' a n c r b b' hn o q => by
    have hvs := b.size
    have hvs' := b'.size
    obtain ⟨G, hG⟩ : ∃ G : Nat → Prop, ∀ k, G k ↔ ((W0.heap.size ≤ k ∧ k < V.heap.size) ∨ V'.heap.size ≤ k) := ⟨fun k => (W0.heap.size ≤ k ∧ k < V.heap.size) ∨ V'.heap.size ≤ k, fun k => Iff.rfl⟩
    have W1 : Wg V' G W0.heap.size (QT.iB x.er ++ QT.iB x.se) := (r.wg.turn (fun k hk => by rw [hG] at hk; omega) (fun k hk hg => (hG k).2 (.inl ⟨hg, hk⟩))).below b'
    have := wbytes_g G W0.heap.size _ a n c (QT.encAn x.an) V' W1 (fun k hk => (hG k).2 (.inr hk)) hn o.isB (fun hne bb hb => by
      have h1 := q bb hb
      have h2 := IsB.own_lt o.isB hne bb hb
      rw [hG]
      omega) (by
      have := decDigits_le (QT.encAn x.an).length (by omega)
      simp only [List.length_append, roomB]
      omega) (HEn.out V' (b.trans (b'.mono hvs)))
    refine this.mono fun e w' ⟨q1, q2, q3⟩ => ⟨q1, ⟨G, ?_⟩, ?_⟩
    · have e1 : (QT.iB x.er ++ QT.iB x.se) ++ (98 :: Lib.decDigits (QT.encAn x.an).length ++ [58]) ++ QT.encAn x.an = QT.encRp x := by
        rw [QT.encRp, QT.bB, List.append_assoc]
      rw [e1] at q2
      exact q2
    · exact ⟨q3.os, q3.tape, q3.output, q3.size, fun k hk => q3.block k (Nat.lt_of_lt_of_le hk (Nat.le_trans hvs hvs')) (fun h => by rw [hG] at h; omega)⟩)
  have C5 : Hid (∀ V G, Wg V G W0.heap.size (QT.encRp x) → Calls Tryz.prog 35 #[.pointer (some ⟨W0.heap.size, 0, none⟩)] V fun e w' => (∃ a c, e = .returned (.slice a (QT.encRp x).length c) ∧ OwnB w' (.slice a (QT.encRp x).length c) (QT.encRp x) ∧ ∀ b, Value.ownBlock (.slice a (QT.encRp x).length c) = some b → V.heap.size ≤ b) ∧ Below V.heap.size V w') := Lib.hid (fun V G r => wdone_g G W0.heap.size _ V r (by
    have := QT.encRp_len ⟨hf, hs, ha⟩
    simp only [roomB]
    omega))
  have HW0 := Lib.hid hW0.symm
  have HB := Lib.hid hB.symm
  have B0 := Lib.hid b0
  clear hW0 b0 g0 hBlt hE hEg hf hi hs hj ha hal hB HEn hg0
  go_enter Tryz.func34, Tryz.ntmps34
  go_wp2_with fail
  rw [HW0.out, HB.out]
  clear HW0 HB
  generalize QT.iB x.er = LI at *
  generalize QT.iB x.se = LJ at *
  refine wp_region_noPanic ?_
  refine wp_region_held_drew (S := fun V => (Hid (Below W0.heap.size W0 V) ∧ V.cell? ⟨B, 0, none⟩ = some (.int .i64 x.er) ∧ V.cell? ⟨B, 1, none⟩ = some (.int .i64 x.se) ∧ V.cell? ⟨B, 2, none⟩ = some (.int .i64 x.an.er) ∧ V.cell? ⟨B, 3, none⟩ = some (.complex .f64 (FL.fB x.an.u1) (FL.fB x.an.u2)) ∧ V.cell? ⟨B, 4, none⟩ = some (.complex .f64 (FL.fB x.an.t1) (FL.fB x.an.t2)))) (by kernel_rfl) S0 (fun hHeld => ?_)
  refine rTk 1 ?_; try simp only [Act.put, rP1, rP2, rP3]
  refine rTk 2 ?_; try simp only [Act.put, rP1, rP2, rP3]
  refine rTk 4 ?_; try simp only [Act.put, rP1, rP2, rP3]
  refine rTk 5 ?_; try simp only [Act.put, rP1, rP2, rP3]
  refine rTk 7 ?_; try simp only [Act.put, rP1, rP2, rP3]
  refine rTk 8 ?_; try simp only [Act.put, rP1, rP2, rP3]
  refine rBr 0 fun K hK => ?_
  go_simp
  go_at_call 29
  refine C0.out.mono ?_
  rintro e v1 ⟨rfl, r1, b1⟩
  have B1 : Below W0.heap.size W0 v1 := (Below.refl W0.heap.size W0).drew.trans b1
  have S1 := cont.out v1 B1
  clear C0 S0 b1
  try (go_wp2_with fail)
  refine hK.out _ _ (by (try dsimp only); assumption) (fun hHeld => ?_)
  clear hK K
  try simp only [Act.put, rP1, rP2, rP3]
  refine rBr 3 fun K hK => ?_
  go_simp
  go_at_call 80
  refine (C1.out v1 r1 B1).mono ?_
  rintro e v2 ⟨rfl, r2, b2⟩
  have B2 := B1.trans b2
  have S2 := cont.out v2 B2
  clear C1 S1 r1 b2 B1
  try (go_wp2_with fail)
  refine hK.out _ _ (by (try dsimp only); assumption) (fun hHeld => ?_)
  clear hK K
  try simp only [Act.put, rP1, rP2, rP3]
  refine rBr 6 fun K hK => ?_
  go_simp
  go_at_call 80
  refine (C2.out v2 r2 B2).mono ?_
  rintro e v3 ⟨rfl, r3, b3⟩
  have B3 := B2.trans b3
  have S3 := cont.out v3 B3
  clear C2 S2 r2 b3 B2
  try (go_wp2_with fail)
  refine hK.out _ _ (by (try dsimp only); assumption) (fun hHeld => ?_)
  clear hK K
  try simp only [Act.put, rP1, rP2, rP3]
  refine rBr 9 fun K hK => ?_
  go_simp
  go_at_call 81
  refine (C3.out v3 B3).mono ?_
  rintro e v4 ⟨⟨a4, n4, c4, rfl, hn4, o4, q4⟩, b4⟩
  have B4 := B3.trans (b4.mono B3.size)
  have S4 := cont.out v4 B4
  have C4' := Lib.hid (C4.out v3 v4 a4 n4 c4 r3 B3 b4 hn4 o4 q4)
  clear C3 C4 S3 o4 b4 B3 hn4 q4 r3
  try (go_wp2_with fail)
  refine hK.out _ _ (by (try dsimp only); assumption) (fun hHeld => ?_)
  clear hK K
  try simp only [Act.put, rP1, rP2, rP3]
  refine rBr 10 fun K hK => ?_
  go_simp
  go_at_call 30
  refine C4'.out.mono ?_
  rintro e v5 ⟨rfl, ⟨G, r5⟩, b5⟩
  have B5 := B4.trans b5
  have S5 := cont.out v5 B5
  have C5' := Lib.hid (C5.out v5 G r5)
  clear C4' C5 S4 b5 B4 r5
  try (go_wp2_with fail)
  refine hK.out _ _ (by (try dsimp only); assumption) (fun hHeld => ?_)
  clear hK K
  try simp only [Act.put, rP1, rP2, rP3]
  refine rBr 11 fun K hK => ?_
  go_simp
  go_at_call 35
  refine C5'.out.mono ?_
  rintro e v6 ⟨⟨a6, c6, rfl, o6, q6⟩, b6⟩
  have B6 := B5.trans (b6.mono B5.size)
  have S6 := cont.out v6 B6
  have Q6 := Lib.hid q6
  have O6 := Lib.hid o6
  have Bs := Lib.hid B5.size
  clear C5' S5 b6 B5 q6 o6
  try (go_wp2_with fail)
  refine hK.out _ _ (by (try dsimp only); assumption) (fun hHeld => ?_)
  clear hK K
  try simp only [Act.put, rP1, rP2, rP3]
  refine rTk 12 ?_; try simp only [Act.put, rP1, rP2, rP3]
  refine wpAnyH_done (by kernel_rfl) ?_ _
  refine NoPanic.normal ?_
  have Fin := Lib.hid (B0.out.trans (B6.mono B0.out.size))
  clear S6 B6 hHeld
  go_wp2
  go_ret
  exact ⟨⟨a6, _, c6, rfl, rfl, O6.out, fun b hb => by have := Q6.out b hb; have := Bs.out; have := B0.out.size; omega⟩, Fin.out⟩
set_option maxRecDepth 100000 in
set_option maxHeartbeats 4000000 in
theorem ranswer_w (x : QT.An) (w : World) (hx : QT.fineAn x) :
    Calls Tryz.prog 88 #[.agg #[.int .i64 x.er, .complex .f64 (FL.fB x.u1) (FL.fB x.u2), .complex .f64 (FL.fB x.t1) (FL.fB x.t2)]] w fun e w' => RW w w' e (QT.encAn x) := by
  obtain ⟨hf, h1, h2, h3, h4⟩ := hx
  simp only [QT.cap] at h1 h2 h3 h4
  have hi := QT.iB_len hf
  have u1 := QT.uB_len64 x.u1 h1
  have u2 := QT.uB_len64 x.u2 h2
  obtain ⟨W0, hW0⟩ : ∃ W, W = w.alloc (.cells #[.int .i64 x.er, .complex .f64 (FL.fB x.u1) (FL.fB x.u2), .complex .f64 (FL.fB x.t1) (FL.fB x.t2)] 89) := ⟨_, rfl⟩
  obtain ⟨B, hB⟩ : ∃ B, B = w.heap.size := ⟨_, rfl⟩
  have b0 : Below w.heap.size w W0 := by rw [hW0]; exact (Below.refl _ _).alloc (Nat.le_refl _) _
  have g0 : W0.heap[B]? = some (.cells #[.int .i64 x.er, .complex .f64 (FL.fB x.u1) (FL.fB x.u2), .complex .f64 (FL.fB x.t1) (FL.fB x.t2)] 89) := by rw [hW0, hB]; exact heap_alloc_new _ _
  have hBlt : B < W0.heap.size := (Array.getElem?_eq_some_iff.1 g0).1
  have cont : Hid (∀ V, Below W0.heap.size W0 V → (Hid (Below W0.heap.size W0 V) ∧ V.cell? ⟨B, 0, none⟩ = some (.int .i64 x.er) ∧ V.cell? ⟨B, 1, none⟩ = some (.complex .f64 (FL.fB x.u1) (FL.fB x.u2)) ∧ V.cell? ⟨B, 2, none⟩ = some (.complex .f64 (FL.fB x.t1) (FL.fB x.t2)))) := Lib.hid (fun V b => by
    obtain ⟨⟨y0, y1, y2⟩, _⟩ := cells3f ((b.block B hBlt).trans g0)
    exact ⟨Lib.hid b, y0, y1, y2⟩)
  have S0 := cont.out W0.drew (Below.refl _ _).drew
  have C0 : Hid (∀ V, Calls Tryz.prog 87 #[.slice none 0 0, .int .i64 x.er] V fun e w' => RW V w' e (QT.iB x.er)) := Lib.hid (fun V => rint_w none 0 0 [] x.er V rfl (IsB.nil V) hf.1 hf.2 (by simp only [roomB]; omega))
  have C3 : Hid (∀ (V : World) a n c, (QT.iB x.er).length = n → OwnB V (.slice a n c) (QT.iB x.er) → Calls Tryz.prog 85 #[.slice a n c, .complex .f64 (FL.fB x.u1) (FL.fB x.u2)] V fun e w' => RW V w' e (QT.iB x.er ++ PK.uB x.u1 ++ PK.uB x.u2)) := Lib.hid (fun V a n c hn o => rputA_w a n c _ x.u1 x.u2 V hn o.isB h1 h2 (by rw [← hn]; simp only [roomB]; omega))
  have C4 : Hid (∀ (V : World) a n c, (QT.iB x.er ++ PK.uB x.u1 ++ PK.uB x.u2).length = n → OwnB V (.slice a n c) (QT.iB x.er ++ PK.uB x.u1 ++ PK.uB x.u2) → Calls Tryz.prog 85 #[.slice a n c, .complex .f64 (FL.fB x.t1) (FL.fB x.t2)] V fun e w' => RW V w' e (QT.encAn x)) := Lib.hid (fun V a n c hn o => rputA_w a n c _ x.t1 x.t2 V hn o.isB h3 h4 (by
    rw [← hn]
    simp only [List.length_append, roomB]
    omega))
  have HW0 := Lib.hid hW0.symm
  have HB := Lib.hid hB.symm
  have B0 := Lib.hid b0
  clear hW0 b0 g0 hBlt hf hi u1 u2 h1 h2 h3 h4 hB
  go_enter Tryz.func88, Tryz.ntmps88
  go_wp2_with fail
  rw [HW0.out, HB.out]
  clear HW0 HB
  generalize QT.iB x.er = LI at *
  refine wp_region_noPanic ?_
  refine wp_region_held_drew (S := fun V => (Hid (Below W0.heap.size W0 V) ∧ V.cell? ⟨B, 0, none⟩ = some (.int .i64 x.er) ∧ V.cell? ⟨B, 1, none⟩ = some (.complex .f64 (FL.fB x.u1) (FL.fB x.u2)) ∧ V.cell? ⟨B, 2, none⟩ = some (.complex .f64 (FL.fB x.t1) (FL.fB x.t2)))) (by kernel_rfl) S0 (fun hHeld => ?_)
  refine rTk 0 ?_; try simp only [Act.put, rP1, rP2, rP3]
  refine rTk 1 ?_; try simp only [Act.put, rP1, rP2, rP3]
  refine rTk 3 ?_; try simp only [Act.put, rP1, rP2, rP3]
  refine rTk 4 ?_; try simp only [Act.put, rP1, rP2, rP3]
  refine rTk 6 ?_; try simp only [Act.put, rP1, rP2, rP3]
  refine rTk 7 ?_; try simp only [Act.put, rP1, rP2, rP3]
  refine rBr 2 fun K hK => ?_
  go_simp
  go_at_call 87
  refine (C0.out _).mono ?_
  rintro e v1 ⟨⟨a1, n1, c1, rfl, hn1, o1, _⟩, b1⟩
  have B1 : Below W0.heap.size W0 v1 := (Below.refl W0.heap.size W0).drew.trans b1
  have S1 := cont.out v1 B1
  have Hn1 := Lib.hid hn1
  clear C0 S0 b1 hn1
  try (go_wp2_with fail)
  refine hK.out _ _ (by (try dsimp only); assumption) (fun hHeld => ?_)
  clear hK K
  try simp only [Act.put, rP1, rP2, rP3]
  refine rBr 5 fun K hK => ?_
  go_simp
  go_at_call 85
  refine (C3.out v1 a1 n1 c1 Hn1.out o1).mono ?_
  rintro e v4 ⟨⟨a4, n4, c4, rfl, hn4, o4, _⟩, b4⟩
  have B4 := B1.trans (b4.mono B1.size)
  have S4 := cont.out v4 B4
  have Hn4 := Lib.hid hn4
  clear C3 S1 o1 b4 B1 hn4
  try (go_wp2_with fail)
  refine hK.out _ _ (by (try dsimp only); assumption) (fun hHeld => ?_)
  clear hK K
  try simp only [Act.put, rP1, rP2, rP3]
  refine rBr 8 fun K hK => ?_
  go_simp
  go_at_call 85
  refine (C4.out v4 a4 n4 c4 Hn4.out o4).mono ?_
  rintro e v5 ⟨⟨a5, n5, c5, rfl, hn5, o5, q5⟩, b5⟩
  have B5 := B4.trans (b5.mono B4.size)
  have S5 := cont.out v5 B5
  have Hn5 := Lib.hid hn5
  have Q5 := Lib.hid q5
  have O5 := Lib.hid o5
  have Bs := Lib.hid B4.size
  clear C4 S4 o4 b5 B4 hn5 q5 o5
  try (go_wp2_with fail)
  refine hK.out _ _ (by (try dsimp only); assumption) (fun hHeld => ?_)
  clear hK K
  try simp only [Act.put, rP1, rP2, rP3]
  refine rTk 9 ?_; try simp only [Act.put, rP1, rP2, rP3]
  refine wpAnyH_done (by kernel_rfl) ?_ _
  refine NoPanic.normal ?_
  have Fin := Lib.hid (B0.out.trans (B5.mono B0.out.size))
  clear S5 B5 hHeld
  go_wp2
  go_ret
  exact ⟨⟨a5, n5, c5, rfl, Hn5.out, O5.out, fun b hb => by have := Q5.out b hb; have := Bs.out; have := B0.out.size; omega⟩, Fin.out⟩
set_option maxRecDepth 100000 in
set_option maxHeartbeats 4000000 in
theorem rreply_w (x : QT.Rp) (w : World) (hx : QT.fineRp x) :
    Calls Tryz.prog 39 #[.agg #[.int .i64 x.er, .int .i64 x.se, .int .i64 x.an.er, .complex .f64 (FL.fB x.an.u1) (FL.fB x.an.u2), .complex .f64 (FL.fB x.an.t1) (FL.fB x.an.t2)]] w fun e w' => RW w w' e (QT.encRp x) := by
  obtain ⟨hf, hs, ha⟩ := hx
  have hi := QT.iB_len hf
  have hj := QT.iB_len hs
  have hal := QT.encAn_len ha
  obtain ⟨W0, hW0⟩ : ∃ W, W = w.alloc (.cells #[.int .i64 x.er, .int .i64 x.se, .int .i64 x.an.er, .complex .f64 (FL.fB x.an.u1) (FL.fB x.an.u2), .complex .f64 (FL.fB x.an.t1) (FL.fB x.an.t2)] 91) := ⟨_, rfl⟩
  obtain ⟨B, hB⟩ : ∃ B, B = w.heap.size := ⟨_, rfl⟩
  have b0 : Below w.heap.size w W0 := by rw [hW0]; exact (Below.refl _ _).alloc (Nat.le_refl _) _
  have g0 : W0.heap[B]? = some (.cells #[.int .i64 x.er, .int .i64 x.se, .int .i64 x.an.er, .complex .f64 (FL.fB x.an.u1) (FL.fB x.an.u2), .complex .f64 (FL.fB x.an.t1) (FL.fB x.an.t2)] 91) := by rw [hW0, hB]; exact heap_alloc_new _ _
  have hBlt : B < W0.heap.size := (Array.getElem?_eq_some_iff.1 g0).1
  have cont : Hid (∀ V, Below W0.heap.size W0 V → (Hid (Below W0.heap.size W0 V) ∧ V.cell? ⟨B, 0, none⟩ = some (.int .i64 x.er) ∧ V.cell? ⟨B, 1, none⟩ = some (.int .i64 x.se) ∧ V.cell? ⟨B, 2, none⟩ = some (.int .i64 x.an.er) ∧ V.cell? ⟨B, 3, none⟩ = some (.complex .f64 (FL.fB x.an.u1) (FL.fB x.an.u2)) ∧ V.cell? ⟨B, 4, none⟩ = some (.complex .f64 (FL.fB x.an.t1) (FL.fB x.an.t2)))) := Lib.hid (fun V b => by
    obtain ⟨⟨y0, y1, y2, y3, y4⟩, _⟩ := cells5f ((b.block B hBlt).trans g0)
    exact ⟨Lib.hid b, y0, y1, y2, y3, y4⟩)
  have S0 := cont.out W0.drew (Below.refl _ _).drew
  have C0 : Hid (∀ V, Calls Tryz.prog 87 #[.slice none 0 0, .int .i64 x.er] V fun e w' => RW V w' e (QT.iB x.er)) := Lib.hid (fun V => rint_w none 0 0 [] x.er V rfl (IsB.nil V) hf.1 hf.2 (by simp only [roomB]; omega))
  have C2 : Hid (∀ (V : World) a n c, (QT.iB x.er).length = n → OwnB V (.slice a n c) (QT.iB x.er) → Calls Tryz.prog 87 #[.slice a n c, .int .i64 x.se] V fun e w' => RW V w' e (QT.iB x.er ++ QT.iB x.se)) := Lib.hid (fun V a n c hn o => rint_w a n c _ x.se V hn o.isB hs.1 hs.2 (by rw [← hn]; simp only [roomB]; omega))
  have C3 := Lib.hid (fun (V : World) => ranswer_w x.an V ha)
  have C4 : Hid (∀ (V : World) a n c a' n' c', (QT.iB x.er ++ QT.iB x.se).length = n → IsB V (.slice a n c) (QT.iB x.er ++ QT.iB x.se) → (QT.encAn x.an).length = n' → OwnB V (.slice a' n' c') (QT.encAn x.an) →
      Calls Tryz.prog 37 #[.slice a n c, .slice a' n' c'] V fun e w' => RW V w' e (QT.encRp x)) := Lib.hid (fun V a n c a' n' c' hn o hn' o' => by
    have := rbytes_w a n c _ a' n' c' (QT.encAn x.an) V hn hn' o o'.isB (by rw [← hn, ← hn']; simp only [List.length_append, roomB]; omega)
    refine this.mono fun e w' q => ?_
    have e1 : (QT.iB x.er ++ QT.iB x.se) ++ (98 :: Lib.decDigits n' ++ [58]) ++ QT.encAn x.an = QT.encRp x := by
      rw [QT.encRp, QT.bB, ← hn', List.append_assoc]
    rw [e1] at q
    exact q)
  have HW0 := Lib.hid hW0.symm
  have HB := Lib.hid hB.symm
  have B0 := Lib.hid b0
  clear hW0 b0 g0 hBlt hf hi hs hj ha hal hB
  go_enter Tryz.func39, Tryz.ntmps39
  go_wp2_with fail
  rw [HW0.out, HB.out]
  clear HW0 HB
  generalize QT.iB x.er = LI at *
  generalize QT.iB x.se = LJ at *
  refine wp_region_noPanic ?_
  refine wp_region_held_drew (S := fun V => (Hid (Below W0.heap.size W0 V) ∧ V.cell? ⟨B, 0, none⟩ = some (.int .i64 x.er) ∧ V.cell? ⟨B, 1, none⟩ = some (.int .i64 x.se) ∧ V.cell? ⟨B, 2, none⟩ = some (.int .i64 x.an.er) ∧ V.cell? ⟨B, 3, none⟩ = some (.complex .f64 (FL.fB x.an.u1) (FL.fB x.an.u2)) ∧ V.cell? ⟨B, 4, none⟩ = some (.complex .f64 (FL.fB x.an.t1) (FL.fB x.an.t2)))) (by kernel_rfl) S0 (fun hHeld => ?_)
  refine rTk 0 ?_; try simp only [Act.put, rP1, rP2, rP3]
  refine rTk 1 ?_; try simp only [Act.put, rP1, rP2, rP3]
  refine rTk 3 ?_; try simp only [Act.put, rP1, rP2, rP3]
  refine rTk 4 ?_; try simp only [Act.put, rP1, rP2, rP3]
  refine rTk 6 ?_; try simp only [Act.put, rP1, rP2, rP3]
  refine rTk 7 ?_; try simp only [Act.put, rP1, rP2, rP3]
  refine rBr 2 fun K hK => ?_
  go_simp
  go_at_call 87
  refine (C0.out _).mono ?_
  rintro e v1 ⟨⟨a1, n1, c1, rfl, hn1, o1, _⟩, b1⟩
  have B1 : Below W0.heap.size W0 v1 := (Below.refl W0.heap.size W0).drew.trans b1
  have S1 := cont.out v1 B1
  have Hn1 := Lib.hid hn1
  clear C0 S0 b1 hn1
  try (go_wp2_with fail)
  refine hK.out _ _ (by (try dsimp only); assumption) (fun hHeld => ?_)
  clear hK K
  try simp only [Act.put, rP1, rP2, rP3]
  refine rBr 5 fun K hK => ?_
  go_simp
  go_at_call 87
  refine (C2.out v1 a1 n1 c1 Hn1.out o1).mono ?_
  rintro e v2 ⟨⟨a2, n2, c2, rfl, hn2, o2, _⟩, b2⟩
  have B2 := B1.trans (b2.mono B1.size)
  have S2 := cont.out v2 B2
  have Hn2 := Lib.hid hn2
  clear C2 S1 o1 b2 B1 hn2
  try (go_wp2_with fail)
  refine hK.out _ _ (by (try dsimp only); assumption) (fun hHeld => ?_)
  clear hK K
  try simp only [Act.put, rP1, rP2, rP3]
  refine rBr 8 fun K hK => ?_
  go_simp
  go_at_call 88
  refine (C3.out v2).mono ?_
  rintro e v4 ⟨⟨a4, n4, c4, rfl, hn4, o4, _⟩, b4⟩
  have i4 := o2.isB.below b4
  have B4 := B2.trans (b4.mono B2.size)
  have S4 := cont.out v4 B4
  have Hn4 := Lib.hid hn4
  clear C3 S2 o2 b4 B2 hn4
  try (go_wp2_with fail)
  refine hK.out _ _ (by (try dsimp only); assumption) (fun hHeld => ?_)
  clear hK K
  try simp only [Act.put, rP1, rP2, rP3]
  refine rBr 9 fun K hK => ?_
  go_simp
  go_at_call 37
  refine (C4.out v4 a2 n2 c2 a4 n4 c4 Hn2.out i4 Hn4.out o4).mono ?_
  rintro e v5 ⟨⟨a5, n5, c5, rfl, hn5, o5, q5⟩, b5⟩
  have B5 := B4.trans (b5.mono B4.size)
  have S5 := cont.out v5 B5
  have Hn5 := Lib.hid hn5
  have Q5 := Lib.hid q5
  have O5 := Lib.hid o5
  have Bs := Lib.hid B4.size
  clear C4 S4 o4 i4 b5 B4 hn5 q5 o5
  try (go_wp2_with fail)
  refine hK.out _ _ (by (try dsimp only); assumption) (fun hHeld => ?_)
  clear hK K
  try simp only [Act.put, rP1, rP2, rP3]
  refine rTk 10 ?_; try simp only [Act.put, rP1, rP2, rP3]
  refine wpAnyH_done (by kernel_rfl) ?_ _
  refine NoPanic.normal ?_
  have Fin := Lib.hid (B0.out.trans (B5.mono B0.out.size))
  clear S5 B5 hHeld
  go_wp2
  go_ret
  exact ⟨⟨a5, n5, c5, rfl, Hn5.out, O5.out, fun b hb => by have := Q5.out b hb; have := Bs.out; have := B0.out.size; omega⟩, Fin.out⟩
end Go.Proofs.YtkanjdijmdjbaaaGreatDoor
