/-
  The document's ReadText, and its amount off what is read, by contracts.
  Conditions: what the reader holds reads as bytes and is at most 2^47 bytes long.
-/
import Derived.Test.YtflghelhdalhiaaGreatDoorCountQ
import Derived.Test.YtflghelhdalhiaaGreatDoorG7
import Derived.Test.YtflghelhdalhiaaGreatDoorG9
import Derived.Deep.RegionHeld3
namespace Go.Proofs.YtflghelhdalhiaaGreatDoor
open Go Go.RowKit

/-- A reader and a value. -/
def RVx (w w' : World) (v : Ending) (x : Value) (l : List UInt8) (k : Nat) : Prop :=
  (∃ a n c, v = .returned (.tuple #[.agg #[.slice a n c, .int .i64 (k : Nat)], x]) ∧ l.length = n ∧ IsB w' (.slice a n c) l) ∧ Below w.heap.size w w'
/-- What is read is stored into a box. -/
def put2q (W : World) (B : Nat) (a : Option Addr) (n c k : Nat) : World := (W.setCell ⟨B, 0, none⟩ (.slice a n c)).setCell ⟨B, 1, none⟩ (.int .i64 k)
theorem put2q_fr (X : Nat → Prop) (W : World) (B : Nat) (hX : X B) (a : Option Addr) (n c k : Nat) : Fr X W (put2q W B a n c k) := by
  unfold put2q
  exact Fr.setCell (X := X) (Fr.setCell (X := X) (Fr.refl _ _) (fun _ => hX) _) (fun _ => hX) _
/-- Bytes read on while two boxes of readers turn. -/
theorem two_boxes {w1 W : World} {B : Nat} {x0 y0 x1 y1 : Value} {t : TypeId} (g1 : w1.heap[B]? = some (.cells #[x0, y0] t)) (g2 : w1.heap[B + 1]? = some (.cells #[x1, y1] t))
    (h0 : ∀ n, x0 ≠ .int .u8 n) (h1 : ∀ n, y0 ≠ .int .u8 n) (h2 : ∀ n, x1 ≠ .int .u8 n) (h3 : ∀ n, y1 ≠ .int .u8 n)
    (f : Fr (fun j => j = B ∨ j = B + 1) w1 W) {v : Value} {m : List UInt8} (h : IsB w1 v m) : IsB W v m := by
  by_cases hl : m = []
  · subst hl; exact h.empty
  · refine h.kept f (fun b hb e => ?_)
    rcases e with e | e
    · exact h.apart2 g1 h0 h1 hl (by rw [hb, e])
    · exact h.apart2 g2 h2 h3 hl (by rw [hb, e])
set_option maxRecDepth 100000 in
set_option maxHeartbeats 4000000 in
/-- ReadText. -/
theorem rtext_any (a : Option Addr) (n c k : Nat) (l : List UInt8) (most : Int) (w : World) (hn : l.length = n) (hv : IsB w (.slice a n c) l) (hm : 0 ≤ most) (hm2 : most ≤ 4611686018427387904) (hl47 : l.length ≤ roomB) :
    Calls Tryz.prog 52 #[.agg #[.slice a n c, .int .i64 (k : Nat)], .int .i64 most] w fun v w' => RVx w w' v (.string (str (PK.runP 116 most l k).1)) (PK.runP 116 most l k).2.1 (PK.runP 116 most l k).2.2 := by
  subst hn
  have HR := Lib.hid (fun W (h : IsB W (.slice a l.length c) l) => rrun_any a c k l 116 116 most W h rfl hm hm2 hl47)
  have Hv := Lib.hid hv
  clear hv hm hm2 hl47
  generalize PK.runP 116 most l k = R at *
  obtain ⟨d, l1, k1⟩ := R
  simp only at HR ⊢
  go_enter Tryz.func52, Tryz.ntmps52
  go_wp2_with fail
  refine (HR.out _ ((Hv.out.alloc _).alloc _)).mono ?_
  rintro v w1 ⟨⟨a1, c1, a2, c2, rfl, i1, i2⟩, b1⟩
  simp only at i1 i2
  obtain ⟨g1, g2, bb⟩ := own2 b1
  obtain ⟨d0, d1, z0, z1⟩ := cells2 g1
  obtain ⟨p0, p1, q0, q1⟩ := cells2 g2
  have hM1 : w.heap.size + 1 < w1.heap.size := (Array.getElem?_eq_some_iff.1 g2).1
  obtain ⟨Vb, hV⟩ : ∃ Vb, Vb = put2q w1 w.heap.size a1 l1.length c1 k1 := ⟨_, rfl⟩
  have fV : Fr (fun j => j = w.heap.size ∨ j = w.heap.size + 1) w1 Vb := by rw [hV]; exact put2q_fr _ _ _ (.inl rfl) _ _ _ _
  have iV := two_boxes g1 g2 (by simp) (by simp) (by simp) (by simp) fV i1
  have jV := two_boxes g1 g2 (by simp) (by simp) (by simp) (by simp) fV i2
  have gV1 : Vb.heap[w.heap.size]? = some (.cells #[.slice a1 l1.length c1, .int .i64 k1] 66) := by rw [hV]; exact stored2 g1 _ _
  have gV2 := (show Vb.heap[w.heap.size + 1]? = w1.heap[w.heap.size + 1]? by rw [hV]; exact stored2_other _ _ (by omega)).trans g2
  have bV : Below w.heap.size w Vb := bb.trans ⟨fV.os, fV.tape, fV.output, fV.size, fun q hq => fV.block q (by omega) (by omega)⟩
  have hVlt : w.heap.size + 1 < Vb.heap.size := (Array.getElem?_eq_some_iff.1 gV2).1
  have HVs : Hid ((w1.setCell ⟨w.heap.size, 0, none⟩ (.slice a1 l1.length c1)).setCell ⟨w.heap.size, 1, none⟩ (.int .i64 k1) = Vb) := hV.symm
  clear b1 HR hV fV bb i1 i2 g1 g2 hM1 Hv
  have keep : ∀ {V' : World}, Fr (fun j => j = w.heap.size + 1) Vb V' → ∀ {v : Value} {m : List UInt8}, IsB Vb v m → IsB V' v m := fun {V'} f {v} {m} h => by
    by_cases hl : m = []
    · subst hl; exact h.empty
    · exact h.kept f (fun b hb e => h.apart2 gV2 (by simp) (by simp) hl (by rw [hb, e]))
  have econv : ∀ V' : World, Hid (Fr (fun j => j = w.heap.size + 1) Vb V') → (convert 22 9 (.slice a2 d.length c2)).run Tryz.prog V' = .ok (.string (str d)) V' := fun V' h => run_toStr T22 U9 (keep h.out jV)
  obtain ⟨v0, v1, _, _⟩ := cells2 gV1
  have cont : Hid (∀ V', Fr (fun j => j = w.heap.size + 1) Vb V' → (Hid (Fr (fun j => j = w.heap.size + 1) Vb V') ∧ V'.cell? ⟨w.heap.size, 0, none⟩ = some (.slice a1 l1.length c1) ∧ V'.cell? ⟨w.heap.size, 1, none⟩ = some (.int .i64 k1))) := fun V' f => ⟨Lib.hid f, (World.cell?_of_block (a := ⟨w.heap.size, 0, none⟩) (f.block w.heap.size (by omega) (by omega))).trans v0, (World.cell?_of_block (a := ⟨w.heap.size, 1, none⟩) (f.block w.heap.size (by omega) (by omega))).trans v1⟩
  have S0 := cont.out Vb.drew (Fr.refl _ _).drew
  obtain ⟨W, hW⟩ : ∃ W, W = put2q Vb.drew (w.heap.size + 1) a1 l1.length c1 k1 := ⟨_, rfl⟩
  have fW : Fr (fun j => j = w.heap.size + 1) Vb W := by rw [hW]; exact Fr.trans (Fr.refl _ _).drew (put2q_fr (fun j => j = w.heap.size + 1) Vb.drew _ rfl _ _ _ _)
  have SW := cont.out W fW
  rw [hW] at SW
  have TW : (Hid (Fr (fun j => j = w.heap.size + 1) Vb ((Vb.setCell ⟨w.heap.size + 1, 0, none⟩ (.slice a1 l1.length c1)).setCell ⟨w.heap.size + 1, 1, none⟩ (.int .i64 k1)).drew) ∧ ((Vb.setCell ⟨w.heap.size + 1, 0, none⟩ (.slice a1 l1.length c1)).setCell ⟨w.heap.size + 1, 1, none⟩ (.int .i64 k1)).drew.cell? ⟨w.heap.size, 0, none⟩ = some (.slice a1 l1.length c1) ∧ ((Vb.setCell ⟨w.heap.size + 1, 0, none⟩ (.slice a1 l1.length c1)).setCell ⟨w.heap.size + 1, 1, none⟩ (.int .i64 k1)).drew.cell? ⟨w.heap.size, 1, none⟩ = some (.int .i64 k1)) := SW
  have eW : W.heap[w.heap.size + 1]? = some (.cells #[.slice a1 l1.length c1, .int .i64 k1] 66) := by rw [hW]; exact stored2 gV2 _ _
  have iW : IsB W (.slice a1 l1.length c1) l1 := keep fW iV
  have bW : Below w.heap.size w W := bV.trans ⟨fW.os, fW.tape, fW.output, fW.size, fun q hq => fW.block q (by omega) (by omega)⟩
  have Fin : Hid (RVx w W (.returned (.tuple #[.agg #[.slice a1 l1.length c1, .int .i64 k1], .string (str d)])) (.string (str d)) l1 k1) := ⟨⟨a1, _, c1, rfl, rfl, iW⟩, bW⟩
  have EW := Lib.hid (cells2 eW)
  have HWs : Hid (((Vb.setCell ⟨w.heap.size + 1, 0, none⟩ (.slice a1 l1.length c1)).setCell ⟨w.heap.size + 1, 1, none⟩ (.int .i64 k1)).drew = W) := hW.symm
  go_wp2_with (rw [HVs.out])
  clear p0 p1 q0 q1 d0 d1 z0 z1
  obtain ⟨p0, p1, q0, q1⟩ := cells2 (show Vb.drew.heap[w.heap.size + 1]? = _ from gV2)
  obtain ⟨p2, p3, q2, q3⟩ := cells2 gV2
  clear HVs hW fW SW cont eW iW bW bV iV jV keep hVlt gV1 gV2 v0 v1
  refine wp_region_noPanic ?_
  refine wp_region_held_drew (S := fun V => (Hid (Fr (fun j => j = w.heap.size + 1) Vb V) ∧ V.cell? ⟨w.heap.size, 0, none⟩ = some (.slice a1 l1.length c1) ∧ V.cell? ⟨w.heap.size, 1, none⟩ = some (.int .i64 k1))) (by kernel_rfl) S0 (fun hHeld => ?_)
  refine wpAnyH_take (i := 0) (v := ?hv0) (List.getElem?_toArray.trans rfl) (by kernel_rfl) (by kernel_rfl) (by kernel_rfl) (fun _ _ _ h => h) (Or.inl ⟨by rfl, ?hy0⟩) (by assumption) ?hr0
  case hy0 => (intro wt hSw; (try dsimp only at hSw); go_simp; try (with_reducible rfl))
  try simp only [Act.put, List.setIfInBounds_toArray, List.set_cons_zero, List.set_cons_succ]
  refine wpAnyH_take (i := 1) (v := ?hv1) (List.getElem?_toArray.trans rfl) (by kernel_rfl) (by kernel_rfl) (by kernel_rfl) (fun _ _ _ h => h) (Or.inl ⟨by rfl, ?hy1⟩) (by assumption) ?hr1
  case hy1 => (intro wt hSw; (try dsimp only at hSw); go_simp; try (with_reducible rfl))
  try simp only [Act.put, List.setIfInBounds_toArray, List.set_cons_zero, List.set_cons_succ]
  refine wpAnyH_take (i := 2) (v := ?hv2) (List.getElem?_toArray.trans rfl) (by kernel_rfl) (by kernel_rfl) (by kernel_rfl) (fun _ _ _ h => h) (Or.inl ⟨by rfl, ?hy2⟩) (by assumption) ?hr2
  case hy2 => (intro wt hSw; (try dsimp only at hSw); go_simp; try (with_reducible rfl))
  try simp only [Act.put, List.setIfInBounds_toArray, List.set_cons_zero, List.set_cons_succ]
  refine wpAnyH_ready (rs := [3]) (by kernel_rfl) (by simp) ?_
  refine AllReadyH.cons (List.getElem?_toArray.trans rfl) (fun K hK => ?_) AllReadyH.nil
  go_simp
  try (go_wp2_with fail)
  refine hK.out _ _ ?_ (fun hHeld => ?_)
  · (try dsimp only)
    assumption
  clear hK K
  try simp only [Act.put, List.setIfInBounds_toArray, List.set_cons_zero, List.set_cons_succ]
  refine wpAnyH_take (i := 4) (v := ?hv4) (List.getElem?_toArray.trans rfl) (by kernel_rfl) (by kernel_rfl) (by kernel_rfl) (fun _ _ _ h => h) (Or.inl ⟨by rfl, ?hy4⟩) (by assumption) ?hr4
  case hy4 => (intro wt hSw; (try dsimp only at hSw); go_simp; try (with_reducible rfl))
  try simp only [Act.put, List.setIfInBounds_toArray, List.set_cons_zero, List.set_cons_succ]
  refine wpAnyH_done (by kernel_rfl) ?_ _
  refine NoPanic.normal ?_
  go_wp2_with (rw [HWs.out]; obtain ⟨e0, e1, _⟩ := EW.out; refine bodyPost_ret (v := .tuple #[.agg #[.slice a1 l1.length c1, .int .i64 k1], .string (str d)]) (by simp [results, Tryz.results52, go_sem, e0, e1]) rfl ?_; exact Fin.out)
set_option maxRecDepth 100000 in
set_option maxHeartbeats 4000000 in
/-- An amount off what is read. -/
theorem rtakeA_any (a : Option Addr) (n c k : Nat) (l : List UInt8) (w : World) (hn : l.length = n) (hv : IsB w (.slice a n c) l) :
    Calls Tryz.prog 53 #[.agg #[.slice a n c, .int .i64 (k : Nat)]] w fun v w' => RVx w w' v (.complex .f64 (FL.fB (PK.uintP QT.cap l k).1) (FL.fB (PK.uintP QT.cap (PK.uintP QT.cap l k).2.1 (PK.uintP QT.cap l k).2.2).1))
      (PK.uintP QT.cap (PK.uintP QT.cap l k).2.1 (PK.uintP QT.cap l k).2.2).2.1 (PK.uintP QT.cap (PK.uintP QT.cap l k).2.1 (PK.uintP QT.cap l k).2.2).2.2 := by
  subst hn
  have HU := Lib.hid (fun W (h : IsB W (.slice a l.length c) l) => rreadUint_any a c k 1099511627776 l W h)
  have HU2 := Lib.hid (fun (a : Option Addr) (c : Nat) W (h : IsB W (.slice a (PK.uintP 1099511627776 l k).2.1.length c) (PK.uintP 1099511627776 l k).2.1) => rreadUint_any a c (PK.uintP 1099511627776 l k).2.2 1099511627776 (PK.uintP 1099511627776 l k).2.1 W h)
  have Hv := Lib.hid hv
  clear hv
  show Calls _ _ _ _ fun v w' => RVx w w' v (.complex .f64 (FL.fB (PK.uintP 1099511627776 l k).1) (FL.fB (PK.uintP 1099511627776 (PK.uintP 1099511627776 l k).2.1 (PK.uintP 1099511627776 l k).2.2).1)) (PK.uintP 1099511627776 (PK.uintP 1099511627776 l k).2.1 (PK.uintP 1099511627776 l k).2.2).2.1 (PK.uintP 1099511627776 (PK.uintP 1099511627776 l k).2.1 (PK.uintP 1099511627776 l k).2.2).2.2
  generalize PK.uintP 1099511627776 l k = R at *
  obtain ⟨x, l1, k1⟩ := R
  simp only at HU HU2 ⊢
  generalize PK.uintP 1099511627776 l1 k1 = R at *
  obtain ⟨y, l2, k2⟩ := R
  simp only at HU2 ⊢
  have cx : floatOfInt .f64 (x : Int) = FL.fB x := rfl
  have cy : floatOfInt .f64 (y : Int) = FL.fB y := rfl
  go_enter Tryz.func53, Tryz.ntmps53
  go_wp2_with fail
  refine (HU.out _ ((Hv.out.alloc _).alloc _)).mono ?_
  rintro v w1 ⟨⟨a1, c1, rfl, i1⟩, b1⟩
  obtain ⟨g1, g2, bb⟩ := own2 b1
  obtain ⟨d0, d1, z0, z1⟩ := cells2 g1
  obtain ⟨p0, p1, q0, q1⟩ := cells2 g2
  have hM1 : w.heap.size + 1 < w1.heap.size := (Array.getElem?_eq_some_iff.1 g2).1
  obtain ⟨V, hV⟩ : ∃ V, V = put2q w1 w.heap.size a1 l1.length c1 k1 := ⟨_, rfl⟩
  have fV : Fr (fun j => j = w.heap.size ∨ j = w.heap.size + 1) w1 V := by rw [hV]; exact put2q_fr _ _ _ (.inl rfl) _ _ _ _
  have iV := Lib.hid (two_boxes g1 g2 (by simp) (by simp) (by simp) (by simp) fV i1)
  have GV1 : Hid (V.heap[w.heap.size]? = some (.cells #[.slice a1 l1.length c1, .int .i64 k1] 66)) := Lib.hid (by rw [hV]; exact stored2 g1 _ _)
  have GV2 := Lib.hid ((show V.heap[w.heap.size + 1]? = w1.heap[w.heap.size + 1]? by rw [hV]; exact stored2_other _ _ (by omega)).trans g2)
  have bV : Hid (Below w.heap.size w V) := Lib.hid (bb.trans ⟨fV.os, fV.tape, fV.output, fV.size, fun q hq => fV.block q (by omega) (by omega)⟩)
  have HVs : Hid ((w1.setCell ⟨w.heap.size, 0, none⟩ (.slice a1 l1.length c1)).setCell ⟨w.heap.size, 1, none⟩ (.int .i64 k1) = V) := hV.symm
  clear b1 HU hV fV bb i1 hM1 Hv
  obtain ⟨v0, v1, u0, u1⟩ := cells2 GV1.out
  go_wp2_with (rw [HVs.out])
  refine (HU2.out a1 c1 V iV.out).mono ?_
  rintro v w2 ⟨⟨a2, c2, rfl, i2⟩, b2⟩
  have g1 := (b2.block _ (Array.getElem?_eq_some_iff.1 GV1.out).1).trans GV1.out
  have g2 := (b2.block _ (Array.getElem?_eq_some_iff.1 GV2.out).1).trans GV2.out
  have bb : Below w.heap.size w w2 := bV.out.trans (b2.mono bV.out.size)
  clear p0 p1 q0 q1 d0 d1 z0 z1 v0 v1 u0 u1
  obtain ⟨d0, d1, z0, z1⟩ := cells2 g1
  obtain ⟨p0, p1, q0, q1⟩ := cells2 g2
  have hM1 : w.heap.size + 1 < w2.heap.size := (Array.getElem?_eq_some_iff.1 g2).1
  obtain ⟨W, hW⟩ : ∃ W, W = put2q (put2q w2 w.heap.size a2 l2.length c2 k2) (w.heap.size + 1) a2 l2.length c2 k2 := ⟨_, rfl⟩
  have fW : Fr (fun j => j = w.heap.size ∨ j = w.heap.size + 1) w2 W := by
    rw [hW]
    exact (put2q_fr _ _ _ (.inl rfl) _ _ _ _).trans (put2q_fr _ _ _ (.inr rfl) _ _ _ _)
  have eW : W.heap[w.heap.size + 1]? = some (.cells #[.slice a2 l2.length c2, .int .i64 k2] 66) := by
    rw [hW]
    exact stored2 ((stored2_other _ _ (by omega)).trans g2) _ _
  have iW : IsB W (.slice a2 l2.length c2) l2 := two_boxes g1 g2 (by simp) (by simp) (by simp) (by simp) fW i2
  have bW : Below w.heap.size w W := bb.trans ⟨fW.os, fW.tape, fW.output, fW.size, fun q hq => fW.block q (by omega) (by omega)⟩
  have Fin : Hid (RVx w W (.returned (.tuple #[.agg #[.slice a2 l2.length c2, .int .i64 k2], .complex .f64 (FL.fB x) (FL.fB y)])) (.complex .f64 (FL.fB x) (FL.fB y)) l2 k2) := ⟨⟨a2, _, c2, rfl, rfl, iW⟩, bW⟩
  have EW := Lib.hid (cells2 eW)
  have HWs : Hid ((((w2.setCell ⟨w.heap.size, 0, none⟩ (.slice a2 l2.length c2)).setCell ⟨w.heap.size, 1, none⟩ (.int .i64 k2)).setCell ⟨w.heap.size + 1, 0, none⟩ (.slice a2 l2.length c2)).setCell ⟨w.heap.size + 1, 1, none⟩ (.int .i64 k2) = W) := hW.symm
  clear HU2 HVs GV1 GV2 bV iV b2 hW fW eW iW bW bb i2 g1 g2 hM1
  go_wp2_with (rw [HWs.out]; obtain ⟨e0, e1, _⟩ := EW.out; refine bodyPost_ret (v := .tuple #[.agg #[.slice a2 l2.length c2, .int .i64 k2], .complex .f64 (FL.fB x) (FL.fB y)]) (by simp [results, Tryz.results53, go_sem, e0, e1]) rfl ?_; exact Fin.out)
end Go.Proofs.YtflghelhdalhiaaGreatDoor
