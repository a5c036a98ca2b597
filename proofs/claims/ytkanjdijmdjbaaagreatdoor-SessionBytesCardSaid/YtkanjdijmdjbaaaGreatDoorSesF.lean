/-
  The program's table as bytes: session.Table.Encode.
  Conditions: the listed variables read as listed ('Env'); the table's maps hold the lists'; what is laid comes to at most 2^47 - 4000 bytes.
-/
import Derived.Test.YtkanjdijmdjbaaaGreatDoorG22
import Derived.Test.YtkanjdijmdjbaaaGreatDoorG23
namespace Go.Proofs.YtkanjdijmdjbaaaGreatDoor
open Go Go.RowKit

theorem QT.encSn_len {x : QT.Sn} (h : QT.fineSn x) : (QT.encSn x).length ≤ 300 := by
  obtain ⟨h1, h2, h3⟩ := h
  simp only [QT.cap] at h1 h2
  have := QT.uB_len64 _ h1
  have := QT.uB_len64 _ h2
  have h4 := QT.encRp_len h3
  have := QT.bB_len (d := QT.encRp x.rp) (by omega)
  unfold QT.encSn
  simp only [List.length_append]
  omega
theorem TabQ.below {w w' : World} {TB mb T bn bu n m k : Nat} {N : List QT.Nd} {U : List QT.Us} {L : List QT.Sn} (h : TabQ w TB mb T bn bu n m k N U L) (f : Below w.heap.size w w') : TabQ w' TB mb T bn bu n m k N U L :=
  ⟨(f.block TB (Array.getElem?_eq_some_iff.1 h.tb).1).trans h.tb, h.tr.below f, h.mp.below f⟩
/-- The blocks of a writer behind a call that has made blocks of its own. -/
def nextG (G : Nat → Prop) (a b : Nat) (k : Nat) : Prop := (G k ∧ k < a) ∨ b ≤ k
theorem Wg.next {G : Nat → Prop} {M : Nat} {l : List UInt8} {V V' : World} (h : Wg V G M l) (b : Below V.heap.size V V') (hg : Go.Proofs.YtkanjdijmdjbaaaGreatDoor.glob ≤ V.heap.size) : Wg V' (nextG G V.heap.size V'.heap.size) M l :=
  (h.turn (fun k hk => by
    rcases hk with hk | hk
    · exact h.glob k hk.1
    · exact Nat.le_trans hg (Nat.le_trans b.size hk)) (fun k hk hg => .inl ⟨hg, hk⟩)).below b
/-- Bytes that a call has just made, laid by a writer. -/
theorem wbytes_next (G : Nat → Prop) (M : Nat) (l : List UInt8) (a : Option Addr) (n c : Nat) (d : List UInt8) (V V' : World) (h : Wg V G M l) (b : Below V.heap.size V V') (hn : d.length = n) (o : OwnB V' (.slice a n c) d) (q : ∀ b, Value.ownBlock (.slice a n c) = some b → V.heap.size ≤ b)
    (hroom : l.length + d.length + 100 ≤ roomB) (hE : Env V') (hg : glob ≤ V.heap.size) :
    Calls Tryz.prog 30 #[.pointer (some ⟨M, 0, none⟩), .slice a n c] V' fun e w' => e = .returned (.pointer (some ⟨M, 0, none⟩)) ∧ Wg w' (nextG G V.heap.size V'.heap.size) M (l ++ QT.bB d) ∧ Fr (nextG G V.heap.size V'.heap.size) V' w' := by
  have hs := b.size
  have W1 : Wg V' (nextG G V.heap.size V'.heap.size) M l := (h.turn (fun k hk => by
    rcases hk with hk | hk
    · exact h.glob k hk.1
    · exact Nat.le_trans hg (Nat.le_trans hs hk)) (fun k hk hg => .inl ⟨hg, hk⟩)).below b
  have := wbytes_g _ M l a n c d V' W1 (fun k hk => .inr hk) hn o.isB (fun hne bb hb => by
    have h1 := q bb hb
    have h2 := IsB.own_lt o.isB hne bb hb
    intro hG
    rcases hG with hG | hG <;> omega) (by
    have hr : roomB = 140737488355328 := rfl
    have := decDigits_le d.length (by omega)
    omega) hE
  refine this.mono fun e w' ⟨q1, q2, q3⟩ => ⟨q1, ?_, q3⟩
  rw [List.append_assoc] at q2
  exact q2
theorem cells6 {W : World} {B : Nat} {x0 x1 x2 x3 x4 x5 : Value} {t : TypeId} (h : W.heap[B]? = some (.cells #[x0, x1, x2, x3, x4, x5] t)) :
    W.cell? ⟨B, 0, none⟩ = some x0 ∧ W.cell? ⟨B, 1, none⟩ = some x1 ∧ W.cell? ⟨B, 2, none⟩ = some x2 ∧ W.cell? ⟨B, 3, none⟩ = some x3 ∧ W.cell? ⟨B, 4, none⟩ = some x4 ∧ W.cell? ⟨B, 5, none⟩ = some x5 := by simp [World.cell?, h]
theorem QT.fnI_of {L : List QT.Sn} (hr : L.Pairwise (fun a b => a.n < b.n)) {x : QT.Sn} (hx : x ∈ L) : QT.fnI L x.n = some x := by
  unfold QT.fnI
  induction L with
  | nil => cases hx
  | cons y r ih =>
    obtain ⟨h1, h2⟩ := List.pairwise_cons.1 hr
    rw [List.find?_cons]
    rcases List.mem_cons.1 hx with rfl | hx'
    · rw [beq_self_eq_true]
    · have := h1 x hx'
      rw [beq_eq_false_iff_ne.2 (show ¬ y.n = x.n by omega)]
      exact ih h2 hx'
set_option maxRecDepth 100000 in
set_option maxHeartbeats 8000000 in
theorem encodeS_any (TB mb T bn bu n m k : Nat) (N : List QT.Nd) (U : List QT.Us) (L : List QT.Sn) (w : World) (hT : TabQ w TB mb T bn bu n m k N U L) (hF : FullT N U L) (hE : Env w) (hroom : (QT.encTab N U L).length + 4000 ≤ roomB) :
    Calls Tryz.prog 8 #[.pointer (some ⟨TB, 0, none⟩)] w fun e w' => RW w w' e (QT.encTab N U L) := by
  have hstc := @run_store_complex Tryz.prog
  have hEg := hE.big
  have HEn := Lib.hid (fun (V : World) (b : Below w.heap.size w V) => hE.wr b hEg)
  have hr : roomB = 140737488355328 := rfl
  obtain ⟨ET, hET⟩ : ∃ l, l = QT.encT N U := ⟨_, rfl⟩
  obtain ⟨LC, hLC⟩ : ∃ l, l = QT.bB ET ++ PK.uB L.length := ⟨_, rfl⟩
  have hen : QT.encTab N U L = LC ++ QT.encL QT.encSn L := by rw [hLC, hET]; rfl
  have hrm : LC.length + (QT.encL QT.encSn L).length + 4000 ≤ roomB := by rw [hen, List.length_append] at hroom; exact hroom
  have hLCl : LC.length = ET.length + (98 :: Lib.decDigits ET.length ++ [58]).length + (PK.uB L.length).length := by
    rw [hLC, List.length_append, QT.bB, List.length_append]
    omega
  have hL64 := hF.len
  have hTl := hT.tb
  have cont : Hid (∀ V, Below w.heap.size w V → (Hid (Below w.heap.size w V) ∧ V.cell? ⟨TB, 0, none⟩ = some (.pointer (some ⟨T, 0, none⟩)) ∧ V.cell? ⟨TB, 1, none⟩ = some (.map (some mb)) ∧ (∀ ty, (Builtin.len_ #[67] ty #[.map (some mb)]).run Tryz.prog V = .ok (.int .i64 (L.length : Nat)) V))) := Lib.hid (fun V b => by
    have TV := hT.below b
    obtain ⟨t0, t1, _, _⟩ := cells2 TV.tb
    exact ⟨Lib.hid b, t0, t1, fun ty => TV.mp.len Tryz.underlying67 ty⟩)
  have CE := Lib.hid (fun (V : World) (b : Below w.heap.size w V) => encodeQ_any T bn bu n m N U V (hT.below b).tr hF.fu.rise (HEn.out V b) (by rw [← hET]; omega))
  rw [← hET] at CE
  have CB : Hid (∀ (V V' : World) a c, Wr V w.heap.size w.heap.size [] → Below w.heap.size w V → Below V.heap.size V V' → OwnB V' (.slice a ET.length c) ET → (∀ b, Value.ownBlock (.slice a ET.length c) = some b → V.heap.size ≤ b) →
      Calls Tryz.prog 30 #[.pointer (some ⟨w.heap.size, 0, none⟩), .slice a ET.length c] V' fun e w' => e = .returned (.pointer (some ⟨w.heap.size, 0, none⟩)) ∧ (∃ G, Wg w' G w.heap.size (QT.bB ET) ∧ (∀ k, w'.heap.size ≤ k → G k) ∧ ∀ k, G k → w.heap.size ≤ k) ∧ Below w.heap.size V' w') := Lib.hid (fun V V' a c r b b' o q => by
    have h1 := b.size
    have h2 := b'.size
    refine (wbytes_next _ w.heap.size [] a _ c ET V V' r.wg b' rfl o q (by simp only [List.length_nil]; omega) (HEn.out V' (b.trans (b'.mono h1))) (Nat.le_trans hEg h1)).mono fun e w' ⟨q1, q2, q3⟩ => ⟨q1, ⟨_, q2, fun k hk => .inr (Nat.le_trans q3.size hk), fun k hk => ?_⟩, ?_⟩
    · rcases hk with hk | hk
      · exact hk.1
      · omega
    · exact ⟨q3.os, q3.tape, q3.output, q3.size, fun k hk => q3.block k (by omega) (fun hk' => by rcases hk' with hk' | hk' <;> omega)⟩)
  have CU : Hid (∀ (V : World) (G : Nat → Prop) (l : List UInt8) (u : Nat), Wg V G w.heap.size l → (∀ k, V.heap.size ≤ k → G k) → (∀ k, G k → w.heap.size ≤ k) → Below w.heap.size w V → u ≤ 1099511627776 → l.length + 100 ≤ roomB →
      Calls Tryz.prog 32 #[.pointer (some ⟨w.heap.size, 0, none⟩), .int .u64 u] V fun e w' => e = .returned (.pointer (some ⟨w.heap.size, 0, none⟩)) ∧ Wg w' G w.heap.size (l ++ PK.uB u) ∧ Fr G V w' ∧ Below w.heap.size w w') := Lib.hid (fun V G l u hw hN hG b hu hl => by
    have := decDigits_le u (by omega)
    refine (wuint_g G w.heap.size l u V hw hN (by omega) (by omega) (HEn.out V b)).mono fun e w' ⟨q1, q2, q3⟩ => ⟨q1, q2, q3, b.trans ⟨q3.os, q3.tape, q3.output, q3.size, fun k hk => q3.block k (Nat.lt_of_lt_of_le hk b.size) (fun h => by have := hG k h; omega)⟩⟩)
  have wL : IntKind.u64.wrap (L.length : Int) = (L.length : Int) := by rw [IntKind.wrap_u64]; omega
  have S0 := cont.out w.drew (Below.refl _ _).drew
  have C0 := Lib.hid (new_any w.drew (HEn.out w.drew (Below.refl _ _).drew))
  have HT := Lib.hid hT
  have HF := Lib.hid hF
  have Hrm := Lib.hid hrm
  have Hen := Lib.hid hen
  have HLC := Lib.hid hLC
  have HlE : Hid (ET.length + 200 ≤ roomB) := Lib.hid (by omega)
  have HL64 := Lib.hid hL64
  clear hT hF hE hroom hEg hET hen hrm hLC hLCl hTl hr hL64
  go_enter Tryz.func8, Tryz.ntmps8
  go_wp2_with fail
  refine wp_region_noPanic ?_
  refine wp_region_held_drew (S := fun V => (Hid (Below w.heap.size w V) ∧ V.cell? ⟨TB, 0, none⟩ = some (.pointer (some ⟨T, 0, none⟩)) ∧ V.cell? ⟨TB, 1, none⟩ = some (.map (some mb)) ∧ (∀ ty, (Builtin.len_ #[67] ty #[.map (some mb)]).run Tryz.prog V = .ok (.int .i64 (L.length : Nat)) V))) (by kernel_rfl) S0 (fun hHeld => ?_)
  refine rTk 1 ?_; try simp only [Act.put, rP1, rP2, rP3]
  refine rTk 2 ?_; try simp only [Act.put, rP1, rP2, rP3]
  refine rTk 3 ?_; try simp only [Act.put, rP1, rP2, rP3]
  refine rTk 4 ?_; try simp only [Act.put, rP1, rP2, rP3]
  refine rTk 7 ?_; try simp only [Act.put, rP1, rP2, rP3]
  refine rTk 8 ?_; try simp only [Act.put, rP1, rP2, rP3]
  refine rTk 9 ?_; try simp only [Act.put, rP1, rP2, rP3]
  refine rTk 10 ?_; try simp only [Act.put, rP1, rP2, rP3]
  refine rBr 0 fun K hK => ?_
  go_simp
  go_at_call 29
  refine C0.out.mono ?_
  rintro e v1 ⟨rfl, r1, b1⟩
  have B1 : Below w.heap.size w v1 := (Below.refl w.heap.size w).drew.trans b1
  have S1 := cont.out v1 B1
  clear C0 S0 b1
  try (go_wp2_with fail)
  refine hK.out _ _ (by (try dsimp only); assumption) (fun hHeld => ?_)
  clear hK K
  try simp only [Act.put, rP1, rP2, rP3]
  refine rBr 5 fun K hK => ?_
  go_simp
  go_at_call 31
  refine (CE.out v1 B1).mono ?_
  rintro e v2 ⟨⟨a2, c2, rfl, o2, q2⟩, b2⟩
  have B2 := B1.trans (b2.mono B1.size)
  have S2 := cont.out v2 B2
  have C6 := Lib.hid (CB.out v1 v2 a2 c2 r1 B1 b2 o2 q2)
  clear CE CB S1 r1 o2 q2 b2 B1
  try (go_wp2_with fail)
  refine hK.out _ _ (by (try dsimp only); assumption) (fun hHeld => ?_)
  clear hK K
  try simp only [Act.put, rP1, rP2, rP3]
  refine rBr 6 fun K hK => ?_
  go_simp
  go_at_call 30
  refine C6.out.mono ?_
  rintro e v3 ⟨rfl, ⟨G, g1, g2, g3⟩, b3⟩
  have B3 := B2.trans b3
  have S3' := cont.out v3 B3
  have C13 := Lib.hid (CU.out v3 G (QT.bB ET) L.length g1 g2 g3 B3 (by have := HL64.out; omega) (by have := QT.bB_len (d := ET) (by have := HlE.out; simp only [roomB] at this; omega); have := HlE.out; omega))
  have G2 := Lib.hid g2
  have G3 := Lib.hid g3
  clear C6 S2 g1 g2 g3 b3 B2
  try (go_wp2_with fail)
  refine hK.out _ _ (by (try dsimp only); assumption) (fun hHeld => ?_)
  clear hK K
  try simp only [Act.put, rP1, rP2, rP3]
  refine rTk 11 ?_; try simp only [Act.put, rP1, rP2, rP3]
  refine rTk 12 ?_; try simp only [Act.put, rP1, rP2, rP3]
  refine rBr 13 fun K hK => ?_
  go_simp
  go_at_call 32
  refine C13.out.mono ?_
  rintro e v4 ⟨rfl, g4, f4, b4⟩
  have S4 := cont.out v4 b4
  clear C13 S3' B3
  try (go_wp2_with fail)
  refine hK.out _ _ (by (try dsimp only); assumption) (fun hHeld => ?_)
  clear hK K
  try simp only [Act.put, rP1, rP2, rP3]
  refine rTk 14 ?_; try simp only [Act.put, rP1, rP2, rP3]
  refine wpAnyH_done (by kernel_rfl) ?_ _
  refine NoPanic.normal ?_
  have hW4 : Wg v4 G w.heap.size LC := by rw [HLC.out]; exact g4
  have HS := Lib.hid (sessions_any TB mb T bn bu n m k N U L v4 (HT.out.below b4) HF.out.ris HF.out.len)
  have HB4 := Lib.hid b4
  have HW4 := Lib.hid hW4
  have hLm : (L.length : Int) ≤ 281474976710656 := by have := HL64.out; omega
  clear S4 hHeld g4 f4 b4 hW4 G2 HLC HlE
  go_wp2_with fail
  refine HS.out.mono ?_
  rintro e v5 ⟨v, rfl, hO, b5⟩
  obtain ⟨a5, c5, rfl, hat⟩ := hO
  have hgl := (HEn.out v4 HB4.out).big
  have W5 := HW4.out.next b5 hgl
  have hs5 := b5.size
  have D5 : Hid (Wg v5 (nextG G v4.heap.size v5.heap.size) w.heap.size (LC ++ QT.encL QT.encSn (L.take 0)) ∧ (∀ k, v5.heap.size ≤ k → nextG G v4.heap.size v5.heap.size k) ∧ (∀ k, nextG G v4.heap.size v5.heap.size k → w.heap.size ≤ k) ∧ Below w.heap.size w v5 ∧
      ∀ (j : Nat) (x : QT.Sn), L[j]? = some x → ∃ g, a5 = some ⟨g, 0, none⟩ ∧ v5.cell? ⟨g, j, none⟩ = some (.int .i64 (x.n : Nat)) ∧ ¬ nextG G v4.heap.size v5.heap.size g) := Lib.hid (by
    refine ⟨by simpa [QT.encL] using W5, fun k hk => .inr hk, fun k hk => ?_, HB4.out.trans (b5.mono HB4.out.size), fun j x hx => ?_⟩
    · rcases hk with hk | hk
      · exact G3.out k hk.1
      · have := HB4.out.size
        omega
    · obtain ⟨g, h1, h2, h3⟩ := hat j x hx
      have hlt := World.block_lt_of_cell? _ _ h3
      refine ⟨g, h1, h3, fun hk => ?_⟩
      simp only at hlt
      rcases hk with hk | hk <;> omega)
  generalize nextG G v4.heap.size v5.heap.size = G5 at *
  clear HS hat b5 W5 hs5 hgl HW4 HB4 G3
  go_wp2_with fail
  go_loopw [26] (fun v26 V => ∃ (j : Nat) (G : Nat → Prop), j ≤ L.length ∧ v26 = .int .i64 j ∧ Hid (Wg V G w.heap.size (LC ++ QT.encL QT.encSn (L.take j)) ∧ (∀ k, V.heap.size ≤ k → G k) ∧ (∀ k, G k → w.heap.size ≤ k) ∧ Below w.heap.size w V ∧
      ∀ (j : Nat) (x : QT.Sn), L[j]? = some x → ∃ g, a5 = some ⟨g, 0, none⟩ ∧ V.cell? ⟨g, j, none⟩ = some (.int .i64 (x.n : Nat)) ∧ ¬ G g)) (fun v _ => L.length - (intOf v).toNat)
  case atStart => exact ⟨0, G5, Nat.zero_le _, rfl, D5⟩
  case round =>
    obtain ⟨j, G6, hj, rfl, D⟩ := hrel
    clear D5
    by_cases hlt : j < L.length
    · have h1 : (j : Int) < (L.length : Int) := by omega
      obtain ⟨x, hx⟩ : ∃ x, L[j]? = some x := ⟨_, List.getElem?_eq_getElem hlt⟩
      have hxm := List.mem_of_getElem? hx
      obtain ⟨g, ea, hc, hng⟩ := D.out.2.2.2.2 j x hx
      subst ea
      have hfx := HF.out.fin x hxm
      have hxn := hfx.1
      have hxs := hfx.2.1
      simp only [QT.cap] at hxn hxs
      have TW := HT.out.below D.out.2.2.2.1
      obtain ⟨_, t1, _, _⟩ := cells2 TW.tb
      have hlk := TW.mp.look Tryz.underlying67 (zeroSn wr) ⟨_, zSn_val⟩ x.n hxn
      rw [QT.fnI_of HF.out.ris hxm] at hlk
      simp only [Option.map_some, Option.getD_some, vSn] at hlk
      have cn1 : IntKind.u64.wrap (x.n : Int) = (x.n : Int) := by rw [IntKind.wrap_u64]; omega
      have cn2 : IntKind.u64.wrap (x.sq : Int) = (x.sq : Int) := by rw [IntKind.wrap_u64]; omega
      obtain ⟨W6, hW6⟩ : ∃ W, W = wr.alloc (.cells #[.int .i64 (x.sq : Nat), .int .i64 x.rp.er, .int .i64 x.rp.se, .int .i64 x.rp.an.er, .complex .f64 (FL.fB x.rp.an.u1) (FL.fB x.rp.an.u2), .complex .f64 (FL.fB x.rp.an.t1) (FL.fB x.rp.an.t2)] 76) := ⟨_, rfl⟩
      obtain ⟨B6, hB6⟩ : ∃ B, B = wr.heap.size := ⟨_, rfl⟩
      have b6 : Below wr.heap.size wr W6 := by rw [hW6]; exact (Below.refl _ _).alloc (Nat.le_refl _) _
      have g6 : W6.heap[B6]? = some (.cells #[.int .i64 (x.sq : Nat), .int .i64 x.rp.er, .int .i64 x.rp.se, .int .i64 x.rp.an.er, .complex .f64 (FL.fB x.rp.an.u1) (FL.fB x.rp.an.u2), .complex .f64 (FL.fB x.rp.an.t1) (FL.fB x.rp.an.t2)] 76) := by rw [hW6, hB6]; exact heap_alloc_new _ _
      have s6 : W6.heap.size = wr.heap.size + 1 := by rw [hW6]; simp
      have hgl := (HEn.out wr D.out.2.2.2.1).big
      have hsw := D.out.2.2.2.1.size
      have W7 := D.out.1.next b6 hgl
      obtain ⟨G7, hG7⟩ : ∃ G : Nat → Prop, ∀ k, G k ↔ nextG G6 wr.heap.size W6.heap.size k := ⟨_, fun k => Iff.rfl⟩
      replace W7 : Wg W6 G7 w.heap.size (LC ++ QT.encL QT.encSn (L.take j)) := W7.turn (fun k hk => by
        rcases (hG7 k).1 hk with h | h
        · exact D.out.1.glob k h.1
        · exact Nat.le_trans hgl (by omega)) (fun k _ hg => (hG7 k).2 hg)
      have nB : ¬ G7 B6 := fun h => by
        rcases (hG7 B6).1 h with h | h
        · have := h.2
          omega
        · omega
      have N7 : ∀ k, W6.heap.size ≤ k → G7 k := fun k hk => (hG7 k).2 (.inr hk)
      have gw7 : ∀ k, G7 k → w.heap.size ≤ k := fun k hk => by
        rcases (hG7 k).1 hk with h | h
        · exact D.out.2.2.1 k h.1
        · omega
      have BW6 : Below w.heap.size w W6 := D.out.2.2.2.1.trans (b6.mono hsw)
      have cont8 : Hid (∀ V, Fr G7 W6 V → (Hid (Fr G7 W6 V) ∧ V.cell? ⟨B6, 0, none⟩ = some (.int .i64 (x.sq : Nat)) ∧ V.cell? ⟨B6, 1, none⟩ = some (.int .i64 x.rp.er) ∧ V.cell? ⟨B6, 2, none⟩ = some (.int .i64 x.rp.se) ∧ V.cell? ⟨B6, 3, none⟩ = some (.int .i64 x.rp.an.er) ∧ V.cell? ⟨B6, 4, none⟩ = some (.complex .f64 (FL.fB x.rp.an.u1) (FL.fB x.rp.an.u2)) ∧ V.cell? ⟨B6, 5, none⟩ = some (.complex .f64 (FL.fB x.rp.an.t1) (FL.fB x.rp.an.t2))) ∧ Below w.heap.size w V) := Lib.hid (fun V f => by
        obtain ⟨z0, z1, z2, z3, z4, z5⟩ := cells6 g6
        exact ⟨⟨Lib.hid f, f.cell z0 nB, f.cell z1 nB, f.cell z2 nB, f.cell z3 nB, f.cell z4 nB, f.cell z5 nB⟩, BW6.trans ⟨f.os, f.tape, f.output, f.size, fun q hq => f.block q (Nat.lt_of_lt_of_le hq BW6.size) (fun h => by have := gw7 q h; omega)⟩⟩)
      obtain ⟨Lk, hLk⟩ : ∃ l, l = LC ++ QT.encL QT.encSn (L.take j) := ⟨_, rfl⟩
      rw [← hLk] at W7
      have hle := QT.encL_take_le QT.encSn L j
      have hkl : Lk.length + 4000 ≤ roomB := by have := Hrm.out; rw [hLk, List.length_append]; omega
      have hnx := QT.encL_take QT.encSn hx
      have hnext : LC ++ QT.encL QT.encSn (L.take (j + 1)) = Lk ++ PK.uB x.n ++ PK.uB x.sq ++ QT.bB (QT.encRp x.rp) := by
        rw [hnx, hLk, QT.encSn]
        simp only [List.append_assoc]
      have un := QT.uB_len64 x.n hxn
      have us := QT.uB_len64 x.sq hxs
      have rl := QT.encRp_len hfx.2.2
      have C3 : Hid (∀ V, Fr G7 W6 V → Wg V G7 w.heap.size Lk → Calls Tryz.prog 32 #[.pointer (some ⟨w.heap.size, 0, none⟩), .int .u64 x.n] V fun e w' => e = .returned (.pointer (some ⟨w.heap.size, 0, none⟩)) ∧ Wg w' G7 w.heap.size (Lk ++ PK.uB x.n) ∧ Fr G7 W6 w') := Lib.hid (fun V f hw => (CU.out V G7 Lk x.n hw (fun k hk => N7 k (Nat.le_trans f.size hk)) gw7 (cont8.out V f).2 hxn (by omega)).mono fun e w' ⟨q1, q2, q3, _⟩ => ⟨q1, q2, f.trans q3⟩)
      have C7 : Hid (∀ V, Fr G7 W6 V → Wg V G7 w.heap.size (Lk ++ PK.uB x.n) → Calls Tryz.prog 32 #[.pointer (some ⟨w.heap.size, 0, none⟩), .int .u64 x.sq] V fun e w' => e = .returned (.pointer (some ⟨w.heap.size, 0, none⟩)) ∧ Wg w' G7 w.heap.size (Lk ++ PK.uB x.n ++ PK.uB x.sq) ∧ Fr G7 W6 w') := Lib.hid (fun V f hw => (CU.out V G7 _ x.sq hw (fun k hk => N7 k (Nat.le_trans f.size hk)) gw7 (cont8.out V f).2 hxs (by rw [List.length_append]; omega)).mono fun e w' ⟨q1, q2, q3, _⟩ => ⟨q1, q2, f.trans q3⟩)
      have C10 := Lib.hid (fun (V : World) (f : Fr G7 W6 V) => ereply_any x.rp V (HEn.out V (cont8.out V f).2) hfx.2.2)
      have C11 : Hid (∀ (V V' : World) a n c, Fr G7 W6 V → Wg V G7 w.heap.size (Lk ++ PK.uB x.n ++ PK.uB x.sq) → Below V.heap.size V V' → (QT.encRp x.rp).length = n → OwnB V' (.slice a n c) (QT.encRp x.rp) → (∀ b, Value.ownBlock (.slice a n c) = some b → V.heap.size ≤ b) →
          Calls Tryz.prog 30 #[.pointer (some ⟨w.heap.size, 0, none⟩), .slice a n c] V' fun e w' => e = .returned (.pointer (some ⟨w.heap.size, 0, none⟩)) ∧ Hid (∃ G, Wg w' G w.heap.size (LC ++ QT.encL QT.encSn (L.take (j + 1))) ∧ (∀ k, w'.heap.size ≤ k → G k) ∧ (∀ k, k < W6.heap.size → G k → G7 k) ∧ ∀ k, G k → w.heap.size ≤ k) ∧ Fr G7 W6 w') := Lib.hid (fun V V' a n c f hw b hn o q => by
        have hs1 := f.size
        have hs2 := b.size
        have hv := (cont8.out V f).2
        refine (wbytes_next G7 w.heap.size _ a n c _ V V' hw b hn o q (by rw [List.length_append, List.length_append]; omega) (HEn.out V' (hv.trans (b.mono hv.size))) (Nat.le_trans hgl (by omega))).mono fun e w' ⟨q1, q2, q3⟩ => ⟨q1, Lib.hid ⟨nextG G7 V.heap.size V'.heap.size, by rw [hnext]; exact q2, fun k hk => Or.inr (Nat.le_trans q3.size hk), fun k hk h => ?_, fun k h => ?_⟩, ?_⟩
        · rcases h with h | h
          · exact h.1
          · omega
        · rcases h with h | h
          · exact gw7 k h.1
          · omega
        · exact (f.trans (Fr.of_below b)).trans (q3.mono (fun k hk h => by
            rcases h with h | h
            · exact h.1
            · exact N7 k (by omega))))
      have hgw : g < wr.heap.size := by
        have := World.block_lt_of_cell? _ _ hc
        exact this
      have fin : Hid (∀ (V : World) (G : Nat → Prop), Fr G7 W6 V → (∀ k, k < W6.heap.size → G k → G7 k) → ∀ (j : Nat) (x : QT.Sn), L[j]? = some x → ∃ q, (some (⟨g, 0, none⟩ : Addr)) = some ⟨q, 0, none⟩ ∧ V.cell? ⟨q, j, none⟩ = some (.int .i64 (x.n : Nat)) ∧ ¬ G q) := Lib.hid (fun V G f hs j x hx => by
        obtain ⟨g, e1, e2, e3⟩ := D.out.2.2.2.2 j x hx
        have hl : g < wr.heap.size := by
          have := World.block_lt_of_cell? _ _ e2
          exact this
        have n7 : ¬ G7 g := fun h => by
          rcases (hG7 g).1 h with h | h
          · exact e3 h.1
          · omega
        exact ⟨g, e1, f.cell ((World.cell?_of_block (a := ⟨g, j, none⟩) (b6.block g hl)).trans e2) n7, fun h => n7 (hs g (by omega) h)⟩)
      have S0 := (cont8.out W6.drew (Fr.refl _ _).drew).1
      have W7d : Hid (Wg W6.drew G7 w.heap.size Lk) := Lib.hid (W7.below (Below.refl _ _).drew)
      have F0 : Hid (Fr G7 W6 W6.drew) := Lib.hid (Fr.refl _ _).drew
      have HW6 := Lib.hid hW6.symm
      have HB6 := Lib.hid hB6.symm
      have cont9 := Lib.hid (fun V f => (cont8.out V f).2)
      clear hW6 hB6 b6 g6 s6 hgl hsw W7 hG7 nB N7 gw7 BW6 hLk hle hkl hnx hnext un us rl hx hxm hfx hxn hxs TW hgw hng D
      go_wp2_with fail
      rw [HW6.out, HB6.out]
      clear HW6 HB6 hlk t1
      refine wp_region_noPanic ?_
      refine wp_region_held_drew (S := fun V => (Hid (Fr G7 W6 V) ∧ V.cell? ⟨B6, 0, none⟩ = some (.int .i64 (x.sq : Nat)) ∧ V.cell? ⟨B6, 1, none⟩ = some (.int .i64 x.rp.er) ∧ V.cell? ⟨B6, 2, none⟩ = some (.int .i64 x.rp.se) ∧ V.cell? ⟨B6, 3, none⟩ = some (.int .i64 x.rp.an.er) ∧ V.cell? ⟨B6, 4, none⟩ = some (.complex .f64 (FL.fB x.rp.an.u1) (FL.fB x.rp.an.u2)) ∧ V.cell? ⟨B6, 5, none⟩ = some (.complex .f64 (FL.fB x.rp.an.t1) (FL.fB x.rp.an.t2)))) (by kernel_rfl) S0 (fun hHeld => ?_)
      refine rTk 0 ?_; try simp only [Act.put, rP1, rP2, rP3]
      refine rTk 1 ?_; try simp only [Act.put, rP1, rP2, rP3]
      refine rTk 2 ?_; try simp only [Act.put, rP1, rP2, rP3]
      refine rTk 4 ?_; try simp only [Act.put, rP1, rP2, rP3]
      refine rTk 5 ?_; try simp only [Act.put, rP1, rP2, rP3]
      refine rTk 6 ?_; try simp only [Act.put, rP1, rP2, rP3]
      refine rTk 8 ?_; try simp only [Act.put, rP1, rP2, rP3]
      refine rTk 9 ?_; try simp only [Act.put, rP1, rP2, rP3]
      refine rBr 3 fun K hK => ?_
      go_simp
      go_at_call 32
      refine (C3.out _ F0.out W7d.out).mono ?_
      rintro e v1 ⟨rfl, w1, f1⟩
      have S1 := (cont8.out v1 f1).1
      clear C3 W7d F0 S0
      try (go_wp2_with fail)
      refine hK.out _ _ (by (try dsimp only); assumption) (fun hHeld => ?_)
      clear hK K
      try simp only [Act.put, rP1, rP2, rP3]
      refine rBr 7 fun K hK => ?_
      go_simp
      go_at_call 32
      refine (C7.out v1 f1 w1).mono ?_
      rintro e v2 ⟨rfl, w2, f2⟩
      have S2 := (cont8.out v2 f2).1
      clear C7 w1 f1 S1
      try (go_wp2_with fail)
      refine hK.out _ _ (by (try dsimp only); assumption) (fun hHeld => ?_)
      clear hK K
      try simp only [Act.put, rP1, rP2, rP3]
      refine rBr 10 fun K hK => ?_
      go_simp
      go_at_call 34
      refine (C10.out v2 f2).mono ?_
      rintro e v3 ⟨⟨a3, n3, c3, rfl, hn3, o3, q3⟩, b3⟩
      have S3 := (cont8.out v3 (f2.trans (Fr.of_below b3))).1
      have C12 := Lib.hid (C11.out v2 v3 a3 n3 c3 f2 w2 b3 hn3 o3 q3)
      clear C10 C11 w2 f2 S2 hn3 o3 q3 b3
      try (go_wp2_with fail)
      refine hK.out _ _ (by (try dsimp only); assumption) (fun hHeld => ?_)
      clear hK K
      try simp only [Act.put, rP1, rP2, rP3]
      refine rBr 11 fun K hK => ?_
      go_simp
      go_at_call 30
      refine C12.out.mono ?_
      rintro e v4 ⟨rfl, R4, f4⟩
      have S4 := (cont8.out v4 f4).1
      have F4 := Lib.hid f4
      clear C12 S3 f4
      try (go_wp2_with fail)
      refine hK.out _ _ (by (try dsimp only); assumption) (fun hHeld => ?_)
      clear hK K
      try simp only [Act.put, rP1, rP2, rP3]
      refine wpAnyH_done (by kernel_rfl) ?_ _
      refine NoPanic.normal ?_
      have R5 : ∃ G, Hid (Wg v4 G w.heap.size (LC ++ QT.encL QT.encSn (L.take (j + 1))) ∧ (∀ k, v4.heap.size ≤ k → G k) ∧ (∀ k, G k → w.heap.size ≤ k) ∧ Below w.heap.size w v4 ∧ ∀ (j : Nat) (x : QT.Sn), L[j]? = some x → ∃ q, (some (⟨g, 0, none⟩ : Addr)) = some ⟨q, 0, none⟩ ∧ v4.cell? ⟨q, j, none⟩ = some (.int .i64 (x.n : Nat)) ∧ ¬ G q) := by
        obtain ⟨G, r1, r2, r3, r4⟩ := R4.out
        exact ⟨G, Lib.hid ⟨r1, r2, r4, cont9.out v4 F4.out, fin.out v4 G F4.out r3⟩⟩
      obtain ⟨G8, R8⟩ := R5
      clear R4 S4 hHeld F4 fin cont8 cont9 cont
      go_wp2
      exact ⟨⟨j + 1, G8, hlt, by simp, R8⟩, by simp [intOf]; omega⟩
    · obtain rfl : j = L.length := by omega
      have hjj : ¬ ((L.length : Int) < (L.length : Int)) := by omega
      have W7 : Wg wr G6 w.heap.size (LC ++ QT.encL QT.encSn L) := by have := D.out.1; rw [List.take_length] at this; exact this
      have HDn := Lib.hid (wdone_g G6 w.heap.size (LC ++ QT.encL QT.encSn L) wr W7 (by have := Hrm.out; rw [List.length_append]; omega))
      have B7 := Lib.hid D.out.2.2.2.1
      clear D W7
      go_wp2_with fail
      refine HDn.out.mono ?_
      rintro e w9 ⟨⟨a9, c9, rfl, o9, q9⟩, b9⟩
      have O9 := Lib.hid o9
      have Q9 := Lib.hid (fun b hb => Nat.le_trans B7.out.size (q9 b hb))
      have B9 := Lib.hid (B7.out.trans (b9.mono B7.out.size))
      clear o9 b9 q9 HDn
      go_wp2
      go_ret
      rw [Hen.out]
      exact ⟨⟨a9, (LC ++ QT.encL QT.encSn L).length, c9, by rw [List.length_append]; rfl, rfl, O9.out, Q9.out⟩, B9.out⟩
end Go.Proofs.YtkanjdijmdjbaaaGreatDoor
