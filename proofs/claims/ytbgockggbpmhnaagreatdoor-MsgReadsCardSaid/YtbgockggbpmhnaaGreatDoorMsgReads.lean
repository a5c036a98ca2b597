/-
  THE LAW 'MsgReads' (tollbarlaw11): for every row of bytes it answers true and leaves what came in as it was: the given row, and the card that ties the row's listed variables to the program's text.
  Conditions: the given row's own, no other.
-/
import Derived.Test.YtbgockggbpmhnaaGreatDoorCards
import Derived.Test.YtbgockggbpmhnaaGreatDoorTie
import Derived.Test.YtbgockggbpmhnaaGreatDoorMsgE
import Derived.WalkKit
import Derived.ProofKit
import Derived.OpenShut
import Derived.ChangeOld
import Derived.Below
import Derived.Carry
import Derived.Deep.DeepHandedRow
import Derived.SevenTiedAt
namespace Go.Proofs.YtbgockggbpmhnaaGreatDoor
open Go Go.RowKit

set_option maxRecDepth 100000 in
set_option maxHeartbeats 16000000 in
theorem msgReads_any (a : Option Addr) (c : Nat) (l : List UInt8) (w : World) (hE : Env w) (hv : IsB w (.slice a l.length c) l) (hl47 : l.length ≤ roomB) :
    Calls Tryz.prog 7 #[.slice a l.length c] w fun e w' => e = .returned (.bool true) ∧ Below w.heap.size w w' := by
  have hback : ∀ m, PK.decM l = some m → l = PK.encM m ∧ PK.mayM m := fun m h => PK.decM_back h
  have hroom := PK.resM_room (r := PK.decM l) (fun m h => (hback m h).2)
  have HD : Hid (∀ V, Below w.heap.size w V → Calls Tryz.prog 11 #[.slice a l.length c] V fun e w' => (∃ y : RM, e = .returned (.tuple #[y.val, errV (PK.errM (PK.decM l))]) ∧ y.Fit w' ∧ y.msg = PK.resM (PK.decM l)) ∧ Below V.heap.size V w') := fun V b => (decM_any a c l V (hE.below b) (hv.below b) hl47).mono fun _ _ h => h.uni
  have HR : Hid (∀ V, Below w.heap.size w V → Calls Tryz.prog 12 #[.slice a l.length c] V fun e w' => (∃ y : RM, e = .returned (.tuple #[y.val, intV (PK.errM (PK.decM l))]) ∧ y.Fit w' ∧ y.msg = PK.resM (PK.decM l)) ∧ Below V.heap.size V w') := fun V b => (rdecM_any a c l V (hv.below b) hl47).mono fun _ _ h => h.uni
  have HNum : Hid (∀ V, Below w.heap.size w V → Calls Tryz.prog 18 #[errV (PK.errM (PK.decM l))] V fun e w' => e = .returned (.int .i64 (PK.errM (PK.decM l) : Nat)) ∧ Below V.heap.size V w') := fun V b => num_any _ V (hE.below b)
  have HEn : Hid (∀ (V : World) (y : RM), Below w.heap.size w V → y.Fit V → y.msg = PK.resM (PK.decM l) → Calls Tryz.prog 16 #[y.val] V fun e w' => RW V w' e (PK.encM (PK.resM (PK.decM l)))) := fun V y b hy hm => by
    rw [← hm] at hroom ⊢
    exact encM_any y V (hE.below b) hy hroom
  have HRn : Hid (∀ (V : World) (y : RM), y.Fit V → y.msg = PK.resM (PK.decM l) → Calls Tryz.prog 17 #[y.val] V fun e w' => RW V w' e (PK.encM (PK.resM (PK.decM l)))) := fun V y hy hm => by
    rw [← hm] at hroom ⊢
    exact rencM_any y V hy hroom
  have HCk : Hid (∀ (V : World) (y : RM), y.Fit V → y.msg = PK.resM (PK.decM l) → PK.mayM (PK.resM (PK.decM l)) → Calls Tryz.prog 13 #[y.val] V fun e w' => e = .returned (errV 0) ∧ Below V.heap.size V w') := fun V y hy hm hmay => by
    rw [← hm] at hmay
    have := check_any y V hy
    rw [if_pos hmay] at this
    exact this
  have HSu := Lib.hid (fun (V : World) (b : Below w.heap.size w V) => sure_any V (hE.below b))
  have HV := Lib.hid hv
  have HB := Lib.hid hback
  clear hE hv hl47 hback hroom
  generalize PK.decM l = r at *
  have HD1 := Lib.hid (HD.out w (Below.refl _ _))
  clear HD
  go_enter Tryz.func7, Tryz.ntmps7
  go_wp2_with fail
  refine HD1.out.mono ?_
  rintro e w1 ⟨⟨x, rfl, hx, hxm⟩, b1⟩
  have B1 : Hid (Below w.heap.size w w1) := Lib.hid b1
  have I1 := Lib.hid (HV.out.below b1)
  have FX1 := Lib.hid hx
  have HXM := Lib.hid hxm
  clear HD1 b1 hx hxm HV
  obtain ⟨xkd, xfr, xto, xtm, xix, xlt, xcm, xro, xok, xoff, xda, xdn, xdc, xd, xea, xen, xec, xes⟩ := x
  simp only [RM.val]
  obtain ⟨Wa, hWa⟩ : ∃ W, W = w1.alloc (.cells #[.int .i64 xkd, .int .i64 xfr, .int .i64 xto, .int .i64 xtm, .int .i64 xix, .int .i64 xlt, .int .i64 xcm, .int .i64 xro, .bool xok, .int .i64 xoff, .slice xda xdn xdc, .slice xea xen xec] 30) := ⟨_, rfl⟩
  obtain ⟨Xb, hXb⟩ : ∃ Z, w1.heap.size = Z := ⟨_, rfl⟩
  have bWa : Below w1.heap.size w1 Wa := by rw [hWa]; exact (Below.refl _ _).alloc (Nat.le_refl _) _
  have gX0 : Wa.heap[Xb]? = some (.cells #[.int .i64 xkd, .int .i64 xfr, .int .i64 xto, .int .i64 xtm, .int .i64 xix, .int .i64 xlt, .int .i64 xcm, .int .i64 xro, .bool xok, .int .i64 xoff, .slice xda xdn xdc, .slice xea xen xec] 30) := by rw [hWa, ← hXb]; exact heap_alloc_new _ _
  have Ba : Hid (Below w.heap.size w Wa) := Lib.hid (B1.out.trans (bWa.mono B1.out.size))
  have IVa := Lib.hid (I1.out.below bWa)
  have FXa := Lib.hid (FX1.out.below bWa)
  have GX := Lib.hid gX0
  have HR1 := Lib.hid (HR.out Wa Ba.out)
  go_wp2_with fail
  rw [← hWa]
  try rw [hXb]
  clear hWa hXb bWa gX0 HR I1 FX1 B1
  refine HR1.out.mono ?_
  rintro e w2 ⟨⟨y, rfl, hy, hym⟩, b2⟩
  have hXlt : Xb < Wa.heap.size := (Array.getElem?_eq_some_iff.1 GX.out).1
  have gX2 := (b2.block _ hXlt).trans GX.out
  obtain ⟨Wb, hWb⟩ : ∃ W, W = w2.alloc (.cells #[.int .i64 y.kd, .int .i64 y.fr, .int .i64 y.to, .int .i64 y.tm, .int .i64 y.ix, .int .i64 y.lt, .int .i64 y.cm, .int .i64 y.ro, .bool y.ok, .int .i64 y.off, .slice y.da y.dn y.dc, .slice y.ea y.en y.ec] 25) := ⟨_, rfl⟩
  obtain ⟨Yb, hYb⟩ : ∃ Z, w2.heap.size = Z := ⟨_, rfl⟩
  have bWb : Below w2.heap.size w2 Wb := by rw [hWb]; exact (Below.refl _ _).alloc (Nat.le_refl _) _
  have gY := heap_alloc_new w2 (.cells #[.int .i64 y.kd, .int .i64 y.fr, .int .i64 y.to, .int .i64 y.tm, .int .i64 y.ix, .int .i64 y.lt, .int .i64 y.cm, .int .i64 y.ro, .bool y.ok, .int .i64 y.off, .slice y.da y.dn y.dc, .slice y.ea y.en y.ec] 25)
  rw [← hWb, hYb] at gY
  have hXl2 : Xb < w2.heap.size := (Array.getElem?_eq_some_iff.1 gX2).1
  have gXb := (bWb.block _ hXl2).trans gX2
  have hXlb : Xb < Wb.heap.size := (Array.getElem?_eq_some_iff.1 gXb).1
  have hYlb : Yb < Wb.heap.size := (Array.getElem?_eq_some_iff.1 gY).1
  have bab : Below Wa.heap.size Wa Wb := b2.trans (bWb.mono b2.size)
  have Bb : Hid (Below w.heap.size w Wb) := Lib.hid (Ba.out.trans (bab.mono Ba.out.size))
  have FXb := Lib.hid (FXa.out.below bab)
  have FYb := Lib.hid (hy.below bWb)
  have IVb := Lib.hid (IVa.out.below bab)
  have HYM := Lib.hid hym
  clear hy hym bab hXl2 hXlt gX2 IVa FXa GX Ba b2 HR1
  obtain ⟨ykd, yfr, yto, ytm, yix, ylt, ycm, yro, yok, yoff, yda, ydn, ydc, yd, yea, yen, yec, yes⟩ := y
  simp only at hWb gY
  simp only [RM.val]
  obtain ⟨⟨p0, p1, p2, p3, p4, p5, p6, p7, p8, p9, pa, pb⟩, _⟩ := cells12 gXb
  obtain ⟨⟨q0, q1, q2, q3, q4, q5, q6, q7, q8, q9, qa, qb⟩, _⟩ := cells12 gY
  have cont : Hid (∀ V, Below Wb.heap.size Wb V → (Hid (Below Wb.heap.size Wb V) ∧ (V.cell? ⟨Xb, 0, none⟩ = some (.int .i64 xkd) ∧ V.cell? ⟨Xb, 1, none⟩ = some (.int .i64 xfr) ∧ V.cell? ⟨Xb, 2, none⟩ = some (.int .i64 xto) ∧ V.cell? ⟨Xb, 3, none⟩ = some (.int .i64 xtm) ∧ V.cell? ⟨Xb, 4, none⟩ = some (.int .i64 xix) ∧ V.cell? ⟨Xb, 5, none⟩ = some (.int .i64 xlt) ∧ V.cell? ⟨Xb, 6, none⟩ = some (.int .i64 xcm) ∧ V.cell? ⟨Xb, 7, none⟩ = some (.int .i64 xro) ∧ V.cell? ⟨Xb, 8, none⟩ = some (.bool xok) ∧ V.cell? ⟨Xb, 9, none⟩ = some (.int .i64 xoff) ∧ V.cell? ⟨Xb, 10, none⟩ = some (.slice xda xdn xdc) ∧ V.cell? ⟨Xb, 11, none⟩ = some (.slice xea xen xec)) ∧ V.cell? ⟨Yb, 0, none⟩ = some (.int .i64 ykd) ∧ V.cell? ⟨Yb, 1, none⟩ = some (.int .i64 yfr) ∧ V.cell? ⟨Yb, 2, none⟩ = some (.int .i64 yto) ∧ V.cell? ⟨Yb, 3, none⟩ = some (.int .i64 ytm) ∧ V.cell? ⟨Yb, 4, none⟩ = some (.int .i64 yix) ∧ V.cell? ⟨Yb, 5, none⟩ = some (.int .i64 ylt) ∧ V.cell? ⟨Yb, 6, none⟩ = some (.int .i64 ycm) ∧ V.cell? ⟨Yb, 7, none⟩ = some (.int .i64 yro) ∧ V.cell? ⟨Yb, 8, none⟩ = some (.bool yok) ∧ V.cell? ⟨Yb, 9, none⟩ = some (.int .i64 yoff) ∧ V.cell? ⟨Yb, 10, none⟩ = some (.slice yda ydn ydc) ∧ V.cell? ⟨Yb, 11, none⟩ = some (.slice yea yen yec))) := fun V h => by
    have hk := h.block Xb hXlb
    have hk2 := h.block Yb hYlb
    exact ⟨Lib.hid h, ⟨(World.cell?_of_block hk).trans p0, (World.cell?_of_block hk).trans p1, (World.cell?_of_block hk).trans p2, (World.cell?_of_block hk).trans p3, (World.cell?_of_block hk).trans p4, (World.cell?_of_block hk).trans p5, (World.cell?_of_block hk).trans p6, (World.cell?_of_block hk).trans p7, (World.cell?_of_block hk).trans p8, (World.cell?_of_block hk).trans p9, (World.cell?_of_block hk).trans pa, (World.cell?_of_block hk).trans pb⟩, (World.cell?_of_block hk2).trans q0, (World.cell?_of_block hk2).trans q1, (World.cell?_of_block hk2).trans q2, (World.cell?_of_block hk2).trans q3, (World.cell?_of_block hk2).trans q4, (World.cell?_of_block hk2).trans q5, (World.cell?_of_block hk2).trans q6, (World.cell?_of_block hk2).trans q7, (World.cell?_of_block hk2).trans q8, (World.cell?_of_block hk2).trans q9, (World.cell?_of_block hk2).trans qa, (World.cell?_of_block hk2).trans qb⟩
  have fin : Hid (∀ V, (Hid (Below Wb.heap.size Wb V) ∧ (V.cell? ⟨Xb, 0, none⟩ = some (.int .i64 xkd) ∧ V.cell? ⟨Xb, 1, none⟩ = some (.int .i64 xfr) ∧ V.cell? ⟨Xb, 2, none⟩ = some (.int .i64 xto) ∧ V.cell? ⟨Xb, 3, none⟩ = some (.int .i64 xtm) ∧ V.cell? ⟨Xb, 4, none⟩ = some (.int .i64 xix) ∧ V.cell? ⟨Xb, 5, none⟩ = some (.int .i64 xlt) ∧ V.cell? ⟨Xb, 6, none⟩ = some (.int .i64 xcm) ∧ V.cell? ⟨Xb, 7, none⟩ = some (.int .i64 xro) ∧ V.cell? ⟨Xb, 8, none⟩ = some (.bool xok) ∧ V.cell? ⟨Xb, 9, none⟩ = some (.int .i64 xoff) ∧ V.cell? ⟨Xb, 10, none⟩ = some (.slice xda xdn xdc) ∧ V.cell? ⟨Xb, 11, none⟩ = some (.slice xea xen xec)) ∧ V.cell? ⟨Yb, 0, none⟩ = some (.int .i64 ykd) ∧ V.cell? ⟨Yb, 1, none⟩ = some (.int .i64 yfr) ∧ V.cell? ⟨Yb, 2, none⟩ = some (.int .i64 yto) ∧ V.cell? ⟨Yb, 3, none⟩ = some (.int .i64 ytm) ∧ V.cell? ⟨Yb, 4, none⟩ = some (.int .i64 yix) ∧ V.cell? ⟨Yb, 5, none⟩ = some (.int .i64 ylt) ∧ V.cell? ⟨Yb, 6, none⟩ = some (.int .i64 ycm) ∧ V.cell? ⟨Yb, 7, none⟩ = some (.int .i64 yro) ∧ V.cell? ⟨Yb, 8, none⟩ = some (.bool yok) ∧ V.cell? ⟨Yb, 9, none⟩ = some (.int .i64 yoff) ∧ V.cell? ⟨Yb, 10, none⟩ = some (.slice yda ydn ydc) ∧ V.cell? ⟨Yb, 11, none⟩ = some (.slice yea yen yec)) → Below w.heap.size w V) := fun V h => Bb.out.trans (h.1.out.mono Bb.out.size)
  have step : Hid (∀ V V', (Hid (Below Wb.heap.size Wb V) ∧ (V.cell? ⟨Xb, 0, none⟩ = some (.int .i64 xkd) ∧ V.cell? ⟨Xb, 1, none⟩ = some (.int .i64 xfr) ∧ V.cell? ⟨Xb, 2, none⟩ = some (.int .i64 xto) ∧ V.cell? ⟨Xb, 3, none⟩ = some (.int .i64 xtm) ∧ V.cell? ⟨Xb, 4, none⟩ = some (.int .i64 xix) ∧ V.cell? ⟨Xb, 5, none⟩ = some (.int .i64 xlt) ∧ V.cell? ⟨Xb, 6, none⟩ = some (.int .i64 xcm) ∧ V.cell? ⟨Xb, 7, none⟩ = some (.int .i64 xro) ∧ V.cell? ⟨Xb, 8, none⟩ = some (.bool xok) ∧ V.cell? ⟨Xb, 9, none⟩ = some (.int .i64 xoff) ∧ V.cell? ⟨Xb, 10, none⟩ = some (.slice xda xdn xdc) ∧ V.cell? ⟨Xb, 11, none⟩ = some (.slice xea xen xec)) ∧ V.cell? ⟨Yb, 0, none⟩ = some (.int .i64 ykd) ∧ V.cell? ⟨Yb, 1, none⟩ = some (.int .i64 yfr) ∧ V.cell? ⟨Yb, 2, none⟩ = some (.int .i64 yto) ∧ V.cell? ⟨Yb, 3, none⟩ = some (.int .i64 ytm) ∧ V.cell? ⟨Yb, 4, none⟩ = some (.int .i64 yix) ∧ V.cell? ⟨Yb, 5, none⟩ = some (.int .i64 ylt) ∧ V.cell? ⟨Yb, 6, none⟩ = some (.int .i64 ycm) ∧ V.cell? ⟨Yb, 7, none⟩ = some (.int .i64 yro) ∧ V.cell? ⟨Yb, 8, none⟩ = some (.bool yok) ∧ V.cell? ⟨Yb, 9, none⟩ = some (.int .i64 yoff) ∧ V.cell? ⟨Yb, 10, none⟩ = some (.slice yda ydn ydc) ∧ V.cell? ⟨Yb, 11, none⟩ = some (.slice yea yen yec)) → Below V.heap.size V V' → (Hid (Below Wb.heap.size Wb V') ∧ (V'.cell? ⟨Xb, 0, none⟩ = some (.int .i64 xkd) ∧ V'.cell? ⟨Xb, 1, none⟩ = some (.int .i64 xfr) ∧ V'.cell? ⟨Xb, 2, none⟩ = some (.int .i64 xto) ∧ V'.cell? ⟨Xb, 3, none⟩ = some (.int .i64 xtm) ∧ V'.cell? ⟨Xb, 4, none⟩ = some (.int .i64 xix) ∧ V'.cell? ⟨Xb, 5, none⟩ = some (.int .i64 xlt) ∧ V'.cell? ⟨Xb, 6, none⟩ = some (.int .i64 xcm) ∧ V'.cell? ⟨Xb, 7, none⟩ = some (.int .i64 xro) ∧ V'.cell? ⟨Xb, 8, none⟩ = some (.bool xok) ∧ V'.cell? ⟨Xb, 9, none⟩ = some (.int .i64 xoff) ∧ V'.cell? ⟨Xb, 10, none⟩ = some (.slice xda xdn xdc) ∧ V'.cell? ⟨Xb, 11, none⟩ = some (.slice xea xen xec)) ∧ V'.cell? ⟨Yb, 0, none⟩ = some (.int .i64 ykd) ∧ V'.cell? ⟨Yb, 1, none⟩ = some (.int .i64 yfr) ∧ V'.cell? ⟨Yb, 2, none⟩ = some (.int .i64 yto) ∧ V'.cell? ⟨Yb, 3, none⟩ = some (.int .i64 ytm) ∧ V'.cell? ⟨Yb, 4, none⟩ = some (.int .i64 yix) ∧ V'.cell? ⟨Yb, 5, none⟩ = some (.int .i64 ylt) ∧ V'.cell? ⟨Yb, 6, none⟩ = some (.int .i64 ycm) ∧ V'.cell? ⟨Yb, 7, none⟩ = some (.int .i64 yro) ∧ V'.cell? ⟨Yb, 8, none⟩ = some (.bool yok) ∧ V'.cell? ⟨Yb, 9, none⟩ = some (.int .i64 yoff) ∧ V'.cell? ⟨Yb, 10, none⟩ = some (.slice yda ydn ydc) ∧ V'.cell? ⟨Yb, 11, none⟩ = some (.slice yea yen yec))) := fun V V' h b => cont.out V' (h.1.out.trans (b.mono h.1.out.size))
  have C18 : Hid (∀ V, (Hid (Below Wb.heap.size Wb V) ∧ (V.cell? ⟨Xb, 0, none⟩ = some (.int .i64 xkd) ∧ V.cell? ⟨Xb, 1, none⟩ = some (.int .i64 xfr) ∧ V.cell? ⟨Xb, 2, none⟩ = some (.int .i64 xto) ∧ V.cell? ⟨Xb, 3, none⟩ = some (.int .i64 xtm) ∧ V.cell? ⟨Xb, 4, none⟩ = some (.int .i64 xix) ∧ V.cell? ⟨Xb, 5, none⟩ = some (.int .i64 xlt) ∧ V.cell? ⟨Xb, 6, none⟩ = some (.int .i64 xcm) ∧ V.cell? ⟨Xb, 7, none⟩ = some (.int .i64 xro) ∧ V.cell? ⟨Xb, 8, none⟩ = some (.bool xok) ∧ V.cell? ⟨Xb, 9, none⟩ = some (.int .i64 xoff) ∧ V.cell? ⟨Xb, 10, none⟩ = some (.slice xda xdn xdc) ∧ V.cell? ⟨Xb, 11, none⟩ = some (.slice xea xen xec)) ∧ V.cell? ⟨Yb, 0, none⟩ = some (.int .i64 ykd) ∧ V.cell? ⟨Yb, 1, none⟩ = some (.int .i64 yfr) ∧ V.cell? ⟨Yb, 2, none⟩ = some (.int .i64 yto) ∧ V.cell? ⟨Yb, 3, none⟩ = some (.int .i64 ytm) ∧ V.cell? ⟨Yb, 4, none⟩ = some (.int .i64 yix) ∧ V.cell? ⟨Yb, 5, none⟩ = some (.int .i64 ylt) ∧ V.cell? ⟨Yb, 6, none⟩ = some (.int .i64 ycm) ∧ V.cell? ⟨Yb, 7, none⟩ = some (.int .i64 yro) ∧ V.cell? ⟨Yb, 8, none⟩ = some (.bool yok) ∧ V.cell? ⟨Yb, 9, none⟩ = some (.int .i64 yoff) ∧ V.cell? ⟨Yb, 10, none⟩ = some (.slice yda ydn ydc) ∧ V.cell? ⟨Yb, 11, none⟩ = some (.slice yea yen yec)) → Calls Tryz.prog 18 #[errV (PK.errM r)] V fun e w' => e = .returned (.int .i64 (PK.errM r : Nat)) ∧ (Hid (Below Wb.heap.size Wb w') ∧ (w'.cell? ⟨Xb, 0, none⟩ = some (.int .i64 xkd) ∧ w'.cell? ⟨Xb, 1, none⟩ = some (.int .i64 xfr) ∧ w'.cell? ⟨Xb, 2, none⟩ = some (.int .i64 xto) ∧ w'.cell? ⟨Xb, 3, none⟩ = some (.int .i64 xtm) ∧ w'.cell? ⟨Xb, 4, none⟩ = some (.int .i64 xix) ∧ w'.cell? ⟨Xb, 5, none⟩ = some (.int .i64 xlt) ∧ w'.cell? ⟨Xb, 6, none⟩ = some (.int .i64 xcm) ∧ w'.cell? ⟨Xb, 7, none⟩ = some (.int .i64 xro) ∧ w'.cell? ⟨Xb, 8, none⟩ = some (.bool xok) ∧ w'.cell? ⟨Xb, 9, none⟩ = some (.int .i64 xoff) ∧ w'.cell? ⟨Xb, 10, none⟩ = some (.slice xda xdn xdc) ∧ w'.cell? ⟨Xb, 11, none⟩ = some (.slice xea xen xec)) ∧ w'.cell? ⟨Yb, 0, none⟩ = some (.int .i64 ykd) ∧ w'.cell? ⟨Yb, 1, none⟩ = some (.int .i64 yfr) ∧ w'.cell? ⟨Yb, 2, none⟩ = some (.int .i64 yto) ∧ w'.cell? ⟨Yb, 3, none⟩ = some (.int .i64 ytm) ∧ w'.cell? ⟨Yb, 4, none⟩ = some (.int .i64 yix) ∧ w'.cell? ⟨Yb, 5, none⟩ = some (.int .i64 ylt) ∧ w'.cell? ⟨Yb, 6, none⟩ = some (.int .i64 ycm) ∧ w'.cell? ⟨Yb, 7, none⟩ = some (.int .i64 yro) ∧ w'.cell? ⟨Yb, 8, none⟩ = some (.bool yok) ∧ w'.cell? ⟨Yb, 9, none⟩ = some (.int .i64 yoff) ∧ w'.cell? ⟨Yb, 10, none⟩ = some (.slice yda ydn ydc) ∧ w'.cell? ⟨Yb, 11, none⟩ = some (.slice yea yen yec)) ∧ Hid (Below V.heap.size V w')) := fun V h => (HNum.out V (fin.out V h)).mono fun e w' ⟨e1, e2⟩ => ⟨e1, step.out V w' h e2, Lib.hid e2⟩
  have C10 : Hid (∀ V, (Hid (Below Wb.heap.size Wb V) ∧ (V.cell? ⟨Xb, 0, none⟩ = some (.int .i64 xkd) ∧ V.cell? ⟨Xb, 1, none⟩ = some (.int .i64 xfr) ∧ V.cell? ⟨Xb, 2, none⟩ = some (.int .i64 xto) ∧ V.cell? ⟨Xb, 3, none⟩ = some (.int .i64 xtm) ∧ V.cell? ⟨Xb, 4, none⟩ = some (.int .i64 xix) ∧ V.cell? ⟨Xb, 5, none⟩ = some (.int .i64 xlt) ∧ V.cell? ⟨Xb, 6, none⟩ = some (.int .i64 xcm) ∧ V.cell? ⟨Xb, 7, none⟩ = some (.int .i64 xro) ∧ V.cell? ⟨Xb, 8, none⟩ = some (.bool xok) ∧ V.cell? ⟨Xb, 9, none⟩ = some (.int .i64 xoff) ∧ V.cell? ⟨Xb, 10, none⟩ = some (.slice xda xdn xdc) ∧ V.cell? ⟨Xb, 11, none⟩ = some (.slice xea xen xec)) ∧ V.cell? ⟨Yb, 0, none⟩ = some (.int .i64 ykd) ∧ V.cell? ⟨Yb, 1, none⟩ = some (.int .i64 yfr) ∧ V.cell? ⟨Yb, 2, none⟩ = some (.int .i64 yto) ∧ V.cell? ⟨Yb, 3, none⟩ = some (.int .i64 ytm) ∧ V.cell? ⟨Yb, 4, none⟩ = some (.int .i64 yix) ∧ V.cell? ⟨Yb, 5, none⟩ = some (.int .i64 ylt) ∧ V.cell? ⟨Yb, 6, none⟩ = some (.int .i64 ycm) ∧ V.cell? ⟨Yb, 7, none⟩ = some (.int .i64 yro) ∧ V.cell? ⟨Yb, 8, none⟩ = some (.bool yok) ∧ V.cell? ⟨Yb, 9, none⟩ = some (.int .i64 yoff) ∧ V.cell? ⟨Yb, 10, none⟩ = some (.slice yda ydn ydc) ∧ V.cell? ⟨Yb, 11, none⟩ = some (.slice yea yen yec)) → Calls Tryz.prog 10 #[] V fun e w' => e = .returned (.bool true) ∧ (Hid (Below Wb.heap.size Wb w') ∧ (w'.cell? ⟨Xb, 0, none⟩ = some (.int .i64 xkd) ∧ w'.cell? ⟨Xb, 1, none⟩ = some (.int .i64 xfr) ∧ w'.cell? ⟨Xb, 2, none⟩ = some (.int .i64 xto) ∧ w'.cell? ⟨Xb, 3, none⟩ = some (.int .i64 xtm) ∧ w'.cell? ⟨Xb, 4, none⟩ = some (.int .i64 xix) ∧ w'.cell? ⟨Xb, 5, none⟩ = some (.int .i64 xlt) ∧ w'.cell? ⟨Xb, 6, none⟩ = some (.int .i64 xcm) ∧ w'.cell? ⟨Xb, 7, none⟩ = some (.int .i64 xro) ∧ w'.cell? ⟨Xb, 8, none⟩ = some (.bool xok) ∧ w'.cell? ⟨Xb, 9, none⟩ = some (.int .i64 xoff) ∧ w'.cell? ⟨Xb, 10, none⟩ = some (.slice xda xdn xdc) ∧ w'.cell? ⟨Xb, 11, none⟩ = some (.slice xea xen xec)) ∧ w'.cell? ⟨Yb, 0, none⟩ = some (.int .i64 ykd) ∧ w'.cell? ⟨Yb, 1, none⟩ = some (.int .i64 yfr) ∧ w'.cell? ⟨Yb, 2, none⟩ = some (.int .i64 yto) ∧ w'.cell? ⟨Yb, 3, none⟩ = some (.int .i64 ytm) ∧ w'.cell? ⟨Yb, 4, none⟩ = some (.int .i64 yix) ∧ w'.cell? ⟨Yb, 5, none⟩ = some (.int .i64 ylt) ∧ w'.cell? ⟨Yb, 6, none⟩ = some (.int .i64 ycm) ∧ w'.cell? ⟨Yb, 7, none⟩ = some (.int .i64 yro) ∧ w'.cell? ⟨Yb, 8, none⟩ = some (.bool yok) ∧ w'.cell? ⟨Yb, 9, none⟩ = some (.int .i64 yoff) ∧ w'.cell? ⟨Yb, 10, none⟩ = some (.slice yda ydn ydc) ∧ w'.cell? ⟨Yb, 11, none⟩ = some (.slice yea yen yec))) := fun V h => (HSu.out V (fin.out V h)).mono fun e w' ⟨e1, e2⟩ => ⟨e1, step.out V w' h e2⟩
  have cv : Hid (∀ (V V' : World) (e : Ending), (Hid (Below Wb.heap.size Wb V) ∧ (V.cell? ⟨Xb, 0, none⟩ = some (.int .i64 xkd) ∧ V.cell? ⟨Xb, 1, none⟩ = some (.int .i64 xfr) ∧ V.cell? ⟨Xb, 2, none⟩ = some (.int .i64 xto) ∧ V.cell? ⟨Xb, 3, none⟩ = some (.int .i64 xtm) ∧ V.cell? ⟨Xb, 4, none⟩ = some (.int .i64 xix) ∧ V.cell? ⟨Xb, 5, none⟩ = some (.int .i64 xlt) ∧ V.cell? ⟨Xb, 6, none⟩ = some (.int .i64 xcm) ∧ V.cell? ⟨Xb, 7, none⟩ = some (.int .i64 xro) ∧ V.cell? ⟨Xb, 8, none⟩ = some (.bool xok) ∧ V.cell? ⟨Xb, 9, none⟩ = some (.int .i64 xoff) ∧ V.cell? ⟨Xb, 10, none⟩ = some (.slice xda xdn xdc) ∧ V.cell? ⟨Xb, 11, none⟩ = some (.slice xea xen xec)) ∧ V.cell? ⟨Yb, 0, none⟩ = some (.int .i64 ykd) ∧ V.cell? ⟨Yb, 1, none⟩ = some (.int .i64 yfr) ∧ V.cell? ⟨Yb, 2, none⟩ = some (.int .i64 yto) ∧ V.cell? ⟨Yb, 3, none⟩ = some (.int .i64 ytm) ∧ V.cell? ⟨Yb, 4, none⟩ = some (.int .i64 yix) ∧ V.cell? ⟨Yb, 5, none⟩ = some (.int .i64 ylt) ∧ V.cell? ⟨Yb, 6, none⟩ = some (.int .i64 ycm) ∧ V.cell? ⟨Yb, 7, none⟩ = some (.int .i64 yro) ∧ V.cell? ⟨Yb, 8, none⟩ = some (.bool yok) ∧ V.cell? ⟨Yb, 9, none⟩ = some (.int .i64 yoff) ∧ V.cell? ⟨Yb, 10, none⟩ = some (.slice yda ydn ydc) ∧ V.cell? ⟨Yb, 11, none⟩ = some (.slice yea yen yec)) → RW V V' e (PK.encM (PK.resM r)) → (∃ a n c, e = .returned (.slice a n c) ∧ Hid (IsB V' (.slice a n c) (PK.encM (PK.resM r)))) ∧ (Hid (Below Wb.heap.size Wb V') ∧ (V'.cell? ⟨Xb, 0, none⟩ = some (.int .i64 xkd) ∧ V'.cell? ⟨Xb, 1, none⟩ = some (.int .i64 xfr) ∧ V'.cell? ⟨Xb, 2, none⟩ = some (.int .i64 xto) ∧ V'.cell? ⟨Xb, 3, none⟩ = some (.int .i64 xtm) ∧ V'.cell? ⟨Xb, 4, none⟩ = some (.int .i64 xix) ∧ V'.cell? ⟨Xb, 5, none⟩ = some (.int .i64 xlt) ∧ V'.cell? ⟨Xb, 6, none⟩ = some (.int .i64 xcm) ∧ V'.cell? ⟨Xb, 7, none⟩ = some (.int .i64 xro) ∧ V'.cell? ⟨Xb, 8, none⟩ = some (.bool xok) ∧ V'.cell? ⟨Xb, 9, none⟩ = some (.int .i64 xoff) ∧ V'.cell? ⟨Xb, 10, none⟩ = some (.slice xda xdn xdc) ∧ V'.cell? ⟨Xb, 11, none⟩ = some (.slice xea xen xec)) ∧ V'.cell? ⟨Yb, 0, none⟩ = some (.int .i64 ykd) ∧ V'.cell? ⟨Yb, 1, none⟩ = some (.int .i64 yfr) ∧ V'.cell? ⟨Yb, 2, none⟩ = some (.int .i64 yto) ∧ V'.cell? ⟨Yb, 3, none⟩ = some (.int .i64 ytm) ∧ V'.cell? ⟨Yb, 4, none⟩ = some (.int .i64 yix) ∧ V'.cell? ⟨Yb, 5, none⟩ = some (.int .i64 ylt) ∧ V'.cell? ⟨Yb, 6, none⟩ = some (.int .i64 ycm) ∧ V'.cell? ⟨Yb, 7, none⟩ = some (.int .i64 yro) ∧ V'.cell? ⟨Yb, 8, none⟩ = some (.bool yok) ∧ V'.cell? ⟨Yb, 9, none⟩ = some (.int .i64 yoff) ∧ V'.cell? ⟨Yb, 10, none⟩ = some (.slice yda ydn ydc) ∧ V'.cell? ⟨Yb, 11, none⟩ = some (.slice yea yen yec)) ∧ Hid (Below V.heap.size V V')) := fun V V' e h ⟨⟨a, n, c, e1, _, e2, _⟩, e3⟩ => ⟨⟨a, n, c, e1, Lib.hid e2.isB⟩, step.out V V' h e3, Lib.hid e3⟩
  have C16 : Hid (∀ V, (Hid (Below Wb.heap.size Wb V) ∧ (V.cell? ⟨Xb, 0, none⟩ = some (.int .i64 xkd) ∧ V.cell? ⟨Xb, 1, none⟩ = some (.int .i64 xfr) ∧ V.cell? ⟨Xb, 2, none⟩ = some (.int .i64 xto) ∧ V.cell? ⟨Xb, 3, none⟩ = some (.int .i64 xtm) ∧ V.cell? ⟨Xb, 4, none⟩ = some (.int .i64 xix) ∧ V.cell? ⟨Xb, 5, none⟩ = some (.int .i64 xlt) ∧ V.cell? ⟨Xb, 6, none⟩ = some (.int .i64 xcm) ∧ V.cell? ⟨Xb, 7, none⟩ = some (.int .i64 xro) ∧ V.cell? ⟨Xb, 8, none⟩ = some (.bool xok) ∧ V.cell? ⟨Xb, 9, none⟩ = some (.int .i64 xoff) ∧ V.cell? ⟨Xb, 10, none⟩ = some (.slice xda xdn xdc) ∧ V.cell? ⟨Xb, 11, none⟩ = some (.slice xea xen xec)) ∧ V.cell? ⟨Yb, 0, none⟩ = some (.int .i64 ykd) ∧ V.cell? ⟨Yb, 1, none⟩ = some (.int .i64 yfr) ∧ V.cell? ⟨Yb, 2, none⟩ = some (.int .i64 yto) ∧ V.cell? ⟨Yb, 3, none⟩ = some (.int .i64 ytm) ∧ V.cell? ⟨Yb, 4, none⟩ = some (.int .i64 yix) ∧ V.cell? ⟨Yb, 5, none⟩ = some (.int .i64 ylt) ∧ V.cell? ⟨Yb, 6, none⟩ = some (.int .i64 ycm) ∧ V.cell? ⟨Yb, 7, none⟩ = some (.int .i64 yro) ∧ V.cell? ⟨Yb, 8, none⟩ = some (.bool yok) ∧ V.cell? ⟨Yb, 9, none⟩ = some (.int .i64 yoff) ∧ V.cell? ⟨Yb, 10, none⟩ = some (.slice yda ydn ydc) ∧ V.cell? ⟨Yb, 11, none⟩ = some (.slice yea yen yec)) → Calls Tryz.prog 16 #[.agg #[.int .i64 xkd, .int .i64 xfr, .int .i64 xto, .int .i64 xtm, .int .i64 xix, .int .i64 xlt, .int .i64 xcm, .int .i64 xro, .bool xok, .int .i64 xoff, .slice xda xdn xdc, .slice xea xen xec]] V fun e w' => (∃ a n c, e = .returned (.slice a n c) ∧ Hid (IsB w' (.slice a n c) (PK.encM (PK.resM r)))) ∧ (Hid (Below Wb.heap.size Wb w') ∧ (w'.cell? ⟨Xb, 0, none⟩ = some (.int .i64 xkd) ∧ w'.cell? ⟨Xb, 1, none⟩ = some (.int .i64 xfr) ∧ w'.cell? ⟨Xb, 2, none⟩ = some (.int .i64 xto) ∧ w'.cell? ⟨Xb, 3, none⟩ = some (.int .i64 xtm) ∧ w'.cell? ⟨Xb, 4, none⟩ = some (.int .i64 xix) ∧ w'.cell? ⟨Xb, 5, none⟩ = some (.int .i64 xlt) ∧ w'.cell? ⟨Xb, 6, none⟩ = some (.int .i64 xcm) ∧ w'.cell? ⟨Xb, 7, none⟩ = some (.int .i64 xro) ∧ w'.cell? ⟨Xb, 8, none⟩ = some (.bool xok) ∧ w'.cell? ⟨Xb, 9, none⟩ = some (.int .i64 xoff) ∧ w'.cell? ⟨Xb, 10, none⟩ = some (.slice xda xdn xdc) ∧ w'.cell? ⟨Xb, 11, none⟩ = some (.slice xea xen xec)) ∧ w'.cell? ⟨Yb, 0, none⟩ = some (.int .i64 ykd) ∧ w'.cell? ⟨Yb, 1, none⟩ = some (.int .i64 yfr) ∧ w'.cell? ⟨Yb, 2, none⟩ = some (.int .i64 yto) ∧ w'.cell? ⟨Yb, 3, none⟩ = some (.int .i64 ytm) ∧ w'.cell? ⟨Yb, 4, none⟩ = some (.int .i64 yix) ∧ w'.cell? ⟨Yb, 5, none⟩ = some (.int .i64 ylt) ∧ w'.cell? ⟨Yb, 6, none⟩ = some (.int .i64 ycm) ∧ w'.cell? ⟨Yb, 7, none⟩ = some (.int .i64 yro) ∧ w'.cell? ⟨Yb, 8, none⟩ = some (.bool yok) ∧ w'.cell? ⟨Yb, 9, none⟩ = some (.int .i64 yoff) ∧ w'.cell? ⟨Yb, 10, none⟩ = some (.slice yda ydn ydc) ∧ w'.cell? ⟨Yb, 11, none⟩ = some (.slice yea yen yec)) ∧ Hid (Below V.heap.size V w')) := fun V h => (HEn.out V ⟨xkd, xfr, xto, xtm, xix, xlt, xcm, xro, xok, xoff, xda, xdn, xdc, xd, xea, xen, xec, xes⟩ (fin.out V h) (FXb.out.below h.1.out) HXM.out).mono fun e w' q => cv.out V w' e h q
  have C17 : Hid (∀ V, (Hid (Below Wb.heap.size Wb V) ∧ (V.cell? ⟨Xb, 0, none⟩ = some (.int .i64 xkd) ∧ V.cell? ⟨Xb, 1, none⟩ = some (.int .i64 xfr) ∧ V.cell? ⟨Xb, 2, none⟩ = some (.int .i64 xto) ∧ V.cell? ⟨Xb, 3, none⟩ = some (.int .i64 xtm) ∧ V.cell? ⟨Xb, 4, none⟩ = some (.int .i64 xix) ∧ V.cell? ⟨Xb, 5, none⟩ = some (.int .i64 xlt) ∧ V.cell? ⟨Xb, 6, none⟩ = some (.int .i64 xcm) ∧ V.cell? ⟨Xb, 7, none⟩ = some (.int .i64 xro) ∧ V.cell? ⟨Xb, 8, none⟩ = some (.bool xok) ∧ V.cell? ⟨Xb, 9, none⟩ = some (.int .i64 xoff) ∧ V.cell? ⟨Xb, 10, none⟩ = some (.slice xda xdn xdc) ∧ V.cell? ⟨Xb, 11, none⟩ = some (.slice xea xen xec)) ∧ V.cell? ⟨Yb, 0, none⟩ = some (.int .i64 ykd) ∧ V.cell? ⟨Yb, 1, none⟩ = some (.int .i64 yfr) ∧ V.cell? ⟨Yb, 2, none⟩ = some (.int .i64 yto) ∧ V.cell? ⟨Yb, 3, none⟩ = some (.int .i64 ytm) ∧ V.cell? ⟨Yb, 4, none⟩ = some (.int .i64 yix) ∧ V.cell? ⟨Yb, 5, none⟩ = some (.int .i64 ylt) ∧ V.cell? ⟨Yb, 6, none⟩ = some (.int .i64 ycm) ∧ V.cell? ⟨Yb, 7, none⟩ = some (.int .i64 yro) ∧ V.cell? ⟨Yb, 8, none⟩ = some (.bool yok) ∧ V.cell? ⟨Yb, 9, none⟩ = some (.int .i64 yoff) ∧ V.cell? ⟨Yb, 10, none⟩ = some (.slice yda ydn ydc) ∧ V.cell? ⟨Yb, 11, none⟩ = some (.slice yea yen yec)) → Calls Tryz.prog 17 #[.agg #[.int .i64 ykd, .int .i64 yfr, .int .i64 yto, .int .i64 ytm, .int .i64 yix, .int .i64 ylt, .int .i64 ycm, .int .i64 yro, .bool yok, .int .i64 yoff, .slice yda ydn ydc, .slice yea yen yec]] V fun e w' => (∃ a n c, e = .returned (.slice a n c) ∧ Hid (IsB w' (.slice a n c) (PK.encM (PK.resM r)))) ∧ (Hid (Below Wb.heap.size Wb w') ∧ (w'.cell? ⟨Xb, 0, none⟩ = some (.int .i64 xkd) ∧ w'.cell? ⟨Xb, 1, none⟩ = some (.int .i64 xfr) ∧ w'.cell? ⟨Xb, 2, none⟩ = some (.int .i64 xto) ∧ w'.cell? ⟨Xb, 3, none⟩ = some (.int .i64 xtm) ∧ w'.cell? ⟨Xb, 4, none⟩ = some (.int .i64 xix) ∧ w'.cell? ⟨Xb, 5, none⟩ = some (.int .i64 xlt) ∧ w'.cell? ⟨Xb, 6, none⟩ = some (.int .i64 xcm) ∧ w'.cell? ⟨Xb, 7, none⟩ = some (.int .i64 xro) ∧ w'.cell? ⟨Xb, 8, none⟩ = some (.bool xok) ∧ w'.cell? ⟨Xb, 9, none⟩ = some (.int .i64 xoff) ∧ w'.cell? ⟨Xb, 10, none⟩ = some (.slice xda xdn xdc) ∧ w'.cell? ⟨Xb, 11, none⟩ = some (.slice xea xen xec)) ∧ w'.cell? ⟨Yb, 0, none⟩ = some (.int .i64 ykd) ∧ w'.cell? ⟨Yb, 1, none⟩ = some (.int .i64 yfr) ∧ w'.cell? ⟨Yb, 2, none⟩ = some (.int .i64 yto) ∧ w'.cell? ⟨Yb, 3, none⟩ = some (.int .i64 ytm) ∧ w'.cell? ⟨Yb, 4, none⟩ = some (.int .i64 yix) ∧ w'.cell? ⟨Yb, 5, none⟩ = some (.int .i64 ylt) ∧ w'.cell? ⟨Yb, 6, none⟩ = some (.int .i64 ycm) ∧ w'.cell? ⟨Yb, 7, none⟩ = some (.int .i64 yro) ∧ w'.cell? ⟨Yb, 8, none⟩ = some (.bool yok) ∧ w'.cell? ⟨Yb, 9, none⟩ = some (.int .i64 yoff) ∧ w'.cell? ⟨Yb, 10, none⟩ = some (.slice yda ydn ydc) ∧ w'.cell? ⟨Yb, 11, none⟩ = some (.slice yea yen yec)) ∧ Hid (Below V.heap.size V w')) := fun V h => (HRn.out V ⟨ykd, yfr, yto, ytm, yix, ylt, ycm, yro, yok, yoff, yda, ydn, ydc, yd, yea, yen, yec, yes⟩ (FYb.out.below h.1.out) HYM.out).mono fun e w' q => cv.out V w' e h q
  have C13 : Hid (PK.mayM (PK.resM r) → ∀ V, (Hid (Below Wb.heap.size Wb V) ∧ (V.cell? ⟨Xb, 0, none⟩ = some (.int .i64 xkd) ∧ V.cell? ⟨Xb, 1, none⟩ = some (.int .i64 xfr) ∧ V.cell? ⟨Xb, 2, none⟩ = some (.int .i64 xto) ∧ V.cell? ⟨Xb, 3, none⟩ = some (.int .i64 xtm) ∧ V.cell? ⟨Xb, 4, none⟩ = some (.int .i64 xix) ∧ V.cell? ⟨Xb, 5, none⟩ = some (.int .i64 xlt) ∧ V.cell? ⟨Xb, 6, none⟩ = some (.int .i64 xcm) ∧ V.cell? ⟨Xb, 7, none⟩ = some (.int .i64 xro) ∧ V.cell? ⟨Xb, 8, none⟩ = some (.bool xok) ∧ V.cell? ⟨Xb, 9, none⟩ = some (.int .i64 xoff) ∧ V.cell? ⟨Xb, 10, none⟩ = some (.slice xda xdn xdc) ∧ V.cell? ⟨Xb, 11, none⟩ = some (.slice xea xen xec)) ∧ V.cell? ⟨Yb, 0, none⟩ = some (.int .i64 ykd) ∧ V.cell? ⟨Yb, 1, none⟩ = some (.int .i64 yfr) ∧ V.cell? ⟨Yb, 2, none⟩ = some (.int .i64 yto) ∧ V.cell? ⟨Yb, 3, none⟩ = some (.int .i64 ytm) ∧ V.cell? ⟨Yb, 4, none⟩ = some (.int .i64 yix) ∧ V.cell? ⟨Yb, 5, none⟩ = some (.int .i64 ylt) ∧ V.cell? ⟨Yb, 6, none⟩ = some (.int .i64 ycm) ∧ V.cell? ⟨Yb, 7, none⟩ = some (.int .i64 yro) ∧ V.cell? ⟨Yb, 8, none⟩ = some (.bool yok) ∧ V.cell? ⟨Yb, 9, none⟩ = some (.int .i64 yoff) ∧ V.cell? ⟨Yb, 10, none⟩ = some (.slice yda ydn ydc) ∧ V.cell? ⟨Yb, 11, none⟩ = some (.slice yea yen yec)) → Calls Tryz.prog 13 #[.agg #[.int .i64 xkd, .int .i64 xfr, .int .i64 xto, .int .i64 xtm, .int .i64 xix, .int .i64 xlt, .int .i64 xcm, .int .i64 xro, .bool xok, .int .i64 xoff, .slice xda xdn xdc, .slice xea xen xec]] V fun e w' => e = .returned (errV 0) ∧ (Hid (Below Wb.heap.size Wb w') ∧ (w'.cell? ⟨Xb, 0, none⟩ = some (.int .i64 xkd) ∧ w'.cell? ⟨Xb, 1, none⟩ = some (.int .i64 xfr) ∧ w'.cell? ⟨Xb, 2, none⟩ = some (.int .i64 xto) ∧ w'.cell? ⟨Xb, 3, none⟩ = some (.int .i64 xtm) ∧ w'.cell? ⟨Xb, 4, none⟩ = some (.int .i64 xix) ∧ w'.cell? ⟨Xb, 5, none⟩ = some (.int .i64 xlt) ∧ w'.cell? ⟨Xb, 6, none⟩ = some (.int .i64 xcm) ∧ w'.cell? ⟨Xb, 7, none⟩ = some (.int .i64 xro) ∧ w'.cell? ⟨Xb, 8, none⟩ = some (.bool xok) ∧ w'.cell? ⟨Xb, 9, none⟩ = some (.int .i64 xoff) ∧ w'.cell? ⟨Xb, 10, none⟩ = some (.slice xda xdn xdc) ∧ w'.cell? ⟨Xb, 11, none⟩ = some (.slice xea xen xec)) ∧ w'.cell? ⟨Yb, 0, none⟩ = some (.int .i64 ykd) ∧ w'.cell? ⟨Yb, 1, none⟩ = some (.int .i64 yfr) ∧ w'.cell? ⟨Yb, 2, none⟩ = some (.int .i64 yto) ∧ w'.cell? ⟨Yb, 3, none⟩ = some (.int .i64 ytm) ∧ w'.cell? ⟨Yb, 4, none⟩ = some (.int .i64 yix) ∧ w'.cell? ⟨Yb, 5, none⟩ = some (.int .i64 ylt) ∧ w'.cell? ⟨Yb, 6, none⟩ = some (.int .i64 ycm) ∧ w'.cell? ⟨Yb, 7, none⟩ = some (.int .i64 yro) ∧ w'.cell? ⟨Yb, 8, none⟩ = some (.bool yok) ∧ w'.cell? ⟨Yb, 9, none⟩ = some (.int .i64 yoff) ∧ w'.cell? ⟨Yb, 10, none⟩ = some (.slice yda ydn ydc) ∧ w'.cell? ⟨Yb, 11, none⟩ = some (.slice yea yen yec))) := fun hmay V h => (HCk.out V ⟨xkd, xfr, xto, xtm, xix, xlt, xcm, xro, xok, xoff, xda, xdn, xdc, xd, xea, xen, xec, xes⟩ (FXb.out.below h.1.out) HXM.out hmay).mono fun e w' ⟨e1, e2⟩ => ⟨e1, step.out V w' h e2⟩
  have econv : ∀ V : World, Hid (Below Wb.heap.size Wb V) → (convert 22 9 (.slice a l.length c)).run Tryz.prog V = .ok (.string (str l)) V := fun V h => run_toStr T22 U9 (IVb.out.below h.out)
  have S0 := cont.out Wb.drew (Below.refl _ _).drew
  clear cv cont step HNum HEn HRn HCk HSu HXM HYM FXb FYb IVb Bb gXb gY hXlb hYlb bWb p0 p1 p2 p3 p4 p5 p6 p7 p8 p9 pa pb q0 q1 q2 q3 q4 q5 q6 q7 q8 q9 qa qb
  cases r with
  | none =>
    simp only [PK.errM, PK.resM, errV] at C18 C16 C17
    clear C13 HB
    simp only [PK.errM, errV, intV]
    generalize PK.encM PK.msg0 = EM at *
    go_wp2_with fail
    rw [← hWb]
    try rw [hYb]
    clear hWb hYb
    refine wp_region_noPanic ?_
    refine wp_region_held_drew (S := fun V => (Hid (Below Wb.heap.size Wb V) ∧ (V.cell? ⟨Xb, 0, none⟩ = some (.int .i64 xkd) ∧ V.cell? ⟨Xb, 1, none⟩ = some (.int .i64 xfr) ∧ V.cell? ⟨Xb, 2, none⟩ = some (.int .i64 xto) ∧ V.cell? ⟨Xb, 3, none⟩ = some (.int .i64 xtm) ∧ V.cell? ⟨Xb, 4, none⟩ = some (.int .i64 xix) ∧ V.cell? ⟨Xb, 5, none⟩ = some (.int .i64 xlt) ∧ V.cell? ⟨Xb, 6, none⟩ = some (.int .i64 xcm) ∧ V.cell? ⟨Xb, 7, none⟩ = some (.int .i64 xro) ∧ V.cell? ⟨Xb, 8, none⟩ = some (.bool xok) ∧ V.cell? ⟨Xb, 9, none⟩ = some (.int .i64 xoff) ∧ V.cell? ⟨Xb, 10, none⟩ = some (.slice xda xdn xdc) ∧ V.cell? ⟨Xb, 11, none⟩ = some (.slice xea xen xec)) ∧ V.cell? ⟨Yb, 0, none⟩ = some (.int .i64 ykd) ∧ V.cell? ⟨Yb, 1, none⟩ = some (.int .i64 yfr) ∧ V.cell? ⟨Yb, 2, none⟩ = some (.int .i64 yto) ∧ V.cell? ⟨Yb, 3, none⟩ = some (.int .i64 ytm) ∧ V.cell? ⟨Yb, 4, none⟩ = some (.int .i64 yix) ∧ V.cell? ⟨Yb, 5, none⟩ = some (.int .i64 ylt) ∧ V.cell? ⟨Yb, 6, none⟩ = some (.int .i64 ycm) ∧ V.cell? ⟨Yb, 7, none⟩ = some (.int .i64 yro) ∧ V.cell? ⟨Yb, 8, none⟩ = some (.bool yok) ∧ V.cell? ⟨Yb, 9, none⟩ = some (.int .i64 yoff) ∧ V.cell? ⟨Yb, 10, none⟩ = some (.slice yda ydn ydc) ∧ V.cell? ⟨Yb, 11, none⟩ = some (.slice yea yen yec))) (by kernel_rfl) S0 (fun hHeld => ?_)
    refine wpAnyH_take (i := 0) (v := ?hvzN_0) (List.getElem?_toArray.trans rfl) (by kernel_rfl) (by kernel_rfl) (by kernel_rfl) (fun _ _ _ h => h) (Or.inl ⟨by rfl, ?hyzN_0⟩) (by assumption) ?hrzN_0
    case hyzN_0 => (intro wt hSw; (try dsimp only at hSw); go_simp; try (with_reducible rfl))
    try simp only [Act.put, List.setIfInBounds_toArray, List.set_cons_zero, List.set_cons_succ]
    refine wpAnyH_take (i := 2) (v := ?hvzN_2) (List.getElem?_toArray.trans rfl) (by kernel_rfl) (by kernel_rfl) (by kernel_rfl) (fun _ _ _ h => h) (Or.inl ⟨by rfl, ?hyzN_2⟩) (by assumption) ?hrzN_2
    case hyzN_2 => (intro wt hSw; (try dsimp only at hSw); go_simp; try (with_reducible rfl))
    try simp only [Act.put, List.setIfInBounds_toArray, List.set_cons_zero, List.set_cons_succ]
    refine wpAnyH_ready (rs := [1]) (by kernel_rfl) (by simp) ?_
    refine AllReadyH.cons (List.getElem?_toArray.trans rfl) (fun K hK => ?_) (AllReadyH.nil)
    go_simp
    go_at_call 18
    refine (C18.out _ ?_).mono ?_
    assumption
    rintro e vx ⟨rfl, kx, bB⟩
    clear bB C18
    try (go_wp2_with fail)
    refine hK.out _ _ ?_ (fun hHeld => ?_)
    · (try dsimp only)
      assumption
    clear hK K
    try simp only [Act.put, List.setIfInBounds_toArray, List.set_cons_zero, List.set_cons_succ]
    refine wpAnyH_take (i := 3) (v := ?hve1_3) (List.getElem?_toArray.trans rfl) (by kernel_rfl) (by kernel_rfl) (by kernel_rfl) (fun _ _ _ h => h) (Or.inl ⟨by rfl, ?hye1_3⟩) (by assumption) ?hre1_3
    case hye1_3 => (intro wt hSw; (try dsimp only at hSw); go_simp; try (with_reducible rfl))
    try simp only [Act.put, List.setIfInBounds_toArray, List.set_cons_zero, List.set_cons_succ]
    refine wpAnyH_take (i := 4) (v := ?hve1_4) (List.getElem?_toArray.trans rfl) (by kernel_rfl) (by kernel_rfl) (by kernel_rfl) (fun _ _ _ h => h) (Or.inl ⟨by rfl, ?hye1_4⟩) (by assumption) ?hre1_4
    case hye1_4 => (intro wt hSw; (try dsimp only at hSw); go_simp; try (with_reducible rfl))
    try simp only [Act.put, List.setIfInBounds_toArray, List.set_cons_zero, List.set_cons_succ]
    refine wpAnyH_take (i := 5) (v := ?hve1_5) (List.getElem?_toArray.trans rfl) (by kernel_rfl) (by kernel_rfl) (by kernel_rfl) (fun _ _ _ h => h) (Or.inl ⟨by rfl, ?hye1_5⟩) (by assumption) ?hre1_5
    case hye1_5 => (intro wt hSw; (try dsimp only at hSw); go_simp; try (with_reducible rfl))
    try simp only [Act.put, List.setIfInBounds_toArray, List.set_cons_zero, List.set_cons_succ]
    refine wpAnyH_take (i := 8) (v := ?hve1_8) (List.getElem?_toArray.trans rfl) (by kernel_rfl) (by kernel_rfl) (by kernel_rfl) (fun _ _ _ h => h) (Or.inl ⟨by rfl, ?hye1_8⟩) (by assumption) ?hre1_8
    case hye1_8 => (intro wt hSw; (try dsimp only at hSw); go_simp; try (with_reducible rfl))
    try simp only [Act.put, List.setIfInBounds_toArray, List.set_cons_zero, List.set_cons_succ]
    refine wpAnyH_ready (rs := [6]) (by kernel_rfl) (by simp) ?_
    refine AllReadyH.cons (List.getElem?_toArray.trans rfl) (fun K hK => ?_) (AllReadyH.nil)
    go_simp
    go_at_call 16
    refine (C16.out _ ?_).mono ?_
    assumption
    rintro e vx ⟨⟨a5, n5, c5, rfl, IA⟩, kx, bB⟩
    clear bB
    try (go_wp2_with fail)
    refine hK.out _ _ ?_ (fun hHeld => ?_)
    · (try dsimp only)
      assumption
    clear hK K
    try simp only [Act.put, List.setIfInBounds_toArray, List.set_cons_zero, List.set_cons_succ]
    refine wpAnyH_ready (rs := [7, 9]) (by kernel_rfl) (by simp) ?_
    refine AllReadyH.cons (List.getElem?_toArray.trans rfl) (fun K hK => ?_) (AllReadyH.cons (List.getElem?_toArray.trans rfl) (fun K hK => ?_) (AllReadyH.nil))
    · have hcv := run_toStr (P := Tryz.prog) T22 U9 IA.out
      go_simp
      try (go_wp2_with fail)
      refine hK.out _ _ ?_ (fun hHeld => ?_)
      · (try dsimp only)
        assumption
      clear hK K
      try simp only [Act.put, List.setIfInBounds_toArray, List.set_cons_zero, List.set_cons_succ]
      clear hcv IA
      refine wpAnyH_ready (rs := [9]) (by kernel_rfl) (by simp) ?_
      refine AllReadyH.cons (List.getElem?_toArray.trans rfl) (fun K hK => ?_) (AllReadyH.nil)
      go_simp
      go_at_call 17
      refine (C17.out _ ?_).mono ?_
      assumption
      rintro e vx ⟨⟨a6, n6, c6, rfl, IB⟩, kx, bB⟩
      clear bB C17
      try (go_wp2_with fail)
      refine hK.out _ _ ?_ (fun hHeld => ?_)
      · (try dsimp only)
        assumption
      clear hK K
      try simp only [Act.put, List.setIfInBounds_toArray, List.set_cons_zero, List.set_cons_succ]
      refine wpAnyH_ready (rs := [10]) (by kernel_rfl) (by simp) ?_
      refine AllReadyH.cons (List.getElem?_toArray.trans rfl) (fun K hK => ?_) (AllReadyH.nil)
      have hcv := run_toStr (P := Tryz.prog) T22 U9 IB.out
      go_simp
      try (go_wp2_with fail)
      refine hK.out _ _ ?_ (fun hHeld => ?_)
      · (try dsimp only)
        assumption
      clear hK K
      try simp only [Act.put, List.setIfInBounds_toArray, List.set_cons_zero, List.set_cons_succ]
      clear hcv IB
      refine wpAnyH_take (i := 11) (v := ?hve2_11) (List.getElem?_toArray.trans rfl) (by kernel_rfl) (by kernel_rfl) (by kernel_rfl) (fun _ _ _ h => h) (Or.inl ⟨by rfl, ?hye2_11⟩) (by assumption) ?hre2_11
      case hye2_11 => (intro wt hSw; (try dsimp only at hSw); go_simp; try (with_reducible rfl))
      try simp only [Act.put, List.setIfInBounds_toArray, List.set_cons_zero, List.set_cons_succ]
      refine wpAnyH_take (i := 12) (v := ?hve2_12) (List.getElem?_toArray.trans rfl) (by kernel_rfl) (by kernel_rfl) (by kernel_rfl) (fun _ _ _ h => h) (Or.inl ⟨by rfl, ?hye2_12⟩) (by assumption) ?hre2_12
      case hye2_12 => (intro wt hSw; (try dsimp only at hSw); go_simp; try (with_reducible rfl))
      try simp only [Act.put, List.setIfInBounds_toArray, List.set_cons_zero, List.set_cons_succ]
      refine wpAnyH_take (i := 13) (v := ?hve2_13) (List.getElem?_toArray.trans rfl) (by kernel_rfl) (by kernel_rfl) (by kernel_rfl) (fun _ _ _ h => h) (Or.inl ⟨by rfl, ?hye2_13⟩) (by assumption) ?hre2_13
      case hye2_13 => (intro wt hSw; (try dsimp only at hSw); go_simp; try (with_reducible rfl))
      try simp only [Act.put, List.setIfInBounds_toArray, List.set_cons_zero, List.set_cons_succ]
      refine wpAnyH_take (i := 14) (v := ?hve2_14) (List.getElem?_toArray.trans rfl) (by kernel_rfl) (by kernel_rfl) (by kernel_rfl) (fun _ _ _ h => h) (Or.inl ⟨by rfl, ?hye2_14⟩) (by assumption) ?hre2_14
      case hye2_14 => (intro wt hSw; (try dsimp only at hSw); go_simp; try (with_reducible rfl))
      try simp only [Act.put, List.setIfInBounds_toArray, List.set_cons_zero, List.set_cons_succ]
      refine wpAnyH_take (i := 15) (v := ?hve2_15) (List.getElem?_toArray.trans rfl) (by kernel_rfl) (by kernel_rfl) (by kernel_rfl) (fun _ _ _ h => h) (Or.inl ⟨by rfl, ?hye2_15⟩) (by assumption) ?hre2_15
      case hye2_15 => (intro wt hSw; (try dsimp only at hSw); go_simp; try (with_reducible rfl))
      try simp only [Act.put, List.setIfInBounds_toArray, List.set_cons_zero, List.set_cons_succ]
      refine wpAnyH_take (i := 16) (v := ?hve2_16) (List.getElem?_toArray.trans rfl) (by kernel_rfl) (by kernel_rfl) (by kernel_rfl) (fun _ _ _ h => h) (Or.inl ⟨by rfl, ?hye2_16⟩) (by assumption) ?hre2_16
      case hye2_16 => (intro wt hSw; (try dsimp only at hSw); go_simp; try (with_reducible rfl))
      try simp only [Act.put, List.setIfInBounds_toArray, List.set_cons_zero, List.set_cons_succ]
      refine wpAnyH_take (i := 17) (v := undef) (List.getElem?_toArray.trans rfl) (by kernel_rfl) (by kernel_rfl) (by kernel_rfl) (fun _ _ _ h => h) (Or.inr ⟨by rfl, rfl⟩) (by assumption) ?_
      try simp only [Act.put, List.setIfInBounds_toArray, List.set_cons_zero, List.set_cons_succ]
      refine wpAnyH_take (i := 18) (v := undef) (List.getElem?_toArray.trans rfl) (by kernel_rfl) (by kernel_rfl) (by kernel_rfl) (fun _ _ _ h => h) (Or.inr ⟨by rfl, rfl⟩) (by assumption) ?_
      try simp only [Act.put, List.setIfInBounds_toArray, List.set_cons_zero, List.set_cons_succ]
      refine wpAnyH_take (i := 19) (v := undef) (List.getElem?_toArray.trans rfl) (by kernel_rfl) (by kernel_rfl) (by kernel_rfl) (fun _ _ _ h => h) (Or.inr ⟨by rfl, rfl⟩) (by assumption) ?_
      try simp only [Act.put, List.setIfInBounds_toArray, List.set_cons_zero, List.set_cons_succ]
      refine wpAnyH_take (i := 20) (v := undef) (List.getElem?_toArray.trans rfl) (by kernel_rfl) (by kernel_rfl) (by kernel_rfl) (fun _ _ _ h => h) (Or.inr ⟨by rfl, rfl⟩) (by assumption) ?_
      try simp only [Act.put, List.setIfInBounds_toArray, List.set_cons_zero, List.set_cons_succ]
      refine wpAnyH_take (i := 21) (v := undef) (List.getElem?_toArray.trans rfl) (by kernel_rfl) (by kernel_rfl) (by kernel_rfl) (fun _ _ _ h => h) (Or.inr ⟨by rfl, rfl⟩) (by assumption) ?_
      try simp only [Act.put, List.setIfInBounds_toArray, List.set_cons_zero, List.set_cons_succ]
      refine wpAnyH_take (i := 22) (v := undef) (List.getElem?_toArray.trans rfl) (by kernel_rfl) (by kernel_rfl) (by kernel_rfl) (fun _ _ _ h => h) (Or.inr ⟨by rfl, rfl⟩) (by assumption) ?_
      try simp only [Act.put, List.setIfInBounds_toArray, List.set_cons_zero, List.set_cons_succ]
      refine wpAnyH_take (i := 23) (v := undef) (List.getElem?_toArray.trans rfl) (by kernel_rfl) (by kernel_rfl) (by kernel_rfl) (fun _ _ _ h => h) (Or.inr ⟨by rfl, rfl⟩) (by assumption) ?_
      try simp only [Act.put, List.setIfInBounds_toArray, List.set_cons_zero, List.set_cons_succ]
      refine wpAnyH_take (i := 24) (v := undef) (List.getElem?_toArray.trans rfl) (by kernel_rfl) (by kernel_rfl) (by kernel_rfl) (fun _ _ _ h => h) (Or.inr ⟨by rfl, rfl⟩) (by assumption) ?_
      try simp only [Act.put, List.setIfInBounds_toArray, List.set_cons_zero, List.set_cons_succ]
      refine wpAnyH_take (i := 25) (v := undef) (List.getElem?_toArray.trans rfl) (by kernel_rfl) (by kernel_rfl) (by kernel_rfl) (fun _ _ _ h => h) (Or.inr ⟨by rfl, rfl⟩) (by assumption) ?_
      try simp only [Act.put, List.setIfInBounds_toArray, List.set_cons_zero, List.set_cons_succ]
      refine wpAnyH_take (i := 26) (v := undef) (List.getElem?_toArray.trans rfl) (by kernel_rfl) (by kernel_rfl) (by kernel_rfl) (fun _ _ _ h => h) (Or.inr ⟨by rfl, rfl⟩) (by assumption) ?_
      try simp only [Act.put, List.setIfInBounds_toArray, List.set_cons_zero, List.set_cons_succ]
      refine wpAnyH_take (i := 27) (v := undef) (List.getElem?_toArray.trans rfl) (by kernel_rfl) (by kernel_rfl) (by kernel_rfl) (fun _ _ _ h => h) (Or.inr ⟨by rfl, rfl⟩) (by assumption) ?_
      try simp only [Act.put, List.setIfInBounds_toArray, List.set_cons_zero, List.set_cons_succ]
      refine wpAnyH_take (i := 28) (v := ?hve3_28) (List.getElem?_toArray.trans rfl) (by kernel_rfl) (by kernel_rfl) (by kernel_rfl) (fun _ _ _ h => h) (Or.inl ⟨by rfl, ?hye3_28⟩) (by assumption) ?hre3_28
      case hye3_28 => (intro wt hSw; (try dsimp only at hSw); go_simp; try (with_reducible rfl))
      try simp only [Act.put, List.setIfInBounds_toArray, List.set_cons_zero, List.set_cons_succ]
      refine wpAnyH_take (i := 29) (v := ?hve3_29) (List.getElem?_toArray.trans rfl) (by kernel_rfl) (by kernel_rfl) (by kernel_rfl) (fun _ _ _ h => h) (Or.inl ⟨by rfl, ?hye3_29⟩) (by assumption) ?hre3_29
      case hye3_29 => (intro wt hSw; (try dsimp only at hSw); go_simp; try (with_reducible rfl))
      try simp only [Act.put, List.setIfInBounds_toArray, List.set_cons_zero, List.set_cons_succ]
      refine wpAnyH_take (i := 30) (v := ?hve3_30) (List.getElem?_toArray.trans rfl) (by kernel_rfl) (by kernel_rfl) (by kernel_rfl) (fun _ _ _ h => h) (Or.inl ⟨by rfl, ?hye3_30⟩) (by assumption) ?hre3_30
      case hye3_30 => (intro wt hSw; (try dsimp only at hSw); go_simp; try (with_reducible rfl))
      try simp only [Act.put, List.setIfInBounds_toArray, List.set_cons_zero, List.set_cons_succ]
      refine wpAnyH_ready (rs := [31]) (by kernel_rfl) (by simp) ?_
      refine AllReadyH.cons (List.getElem?_toArray.trans rfl) (fun K hK => ?_) (AllReadyH.nil)
      go_simp
      go_at_call 10
      refine (C10.out _ ?_).mono ?_
      assumption
      rintro e vx ⟨rfl, kx⟩
      clear C10
      try (go_wp2_with fail)
      refine hK.out _ _ ?_ (fun hHeld => ?_)
      · (try dsimp only)
        assumption
      clear hK K
      try simp only [Act.put, List.setIfInBounds_toArray, List.set_cons_zero, List.set_cons_succ]
      refine wpAnyH_take (i := 32) (v := ?hve4_32) (List.getElem?_toArray.trans rfl) (by kernel_rfl) (by kernel_rfl) (by kernel_rfl) (fun _ _ _ h => h) (Or.inl ⟨by rfl, ?hye4_32⟩) (by assumption) ?hre4_32
      case hye4_32 => (intro wt hSw; (try dsimp only at hSw); go_simp; try (with_reducible rfl))
      try simp only [Act.put, List.setIfInBounds_toArray, List.set_cons_zero, List.set_cons_succ]
      refine wpAnyH_take (i := 33) (v := ?hve4_33) (List.getElem?_toArray.trans rfl) (by kernel_rfl) (by kernel_rfl) (by kernel_rfl) (fun _ _ _ h => h) (Or.inl ⟨by rfl, ?hye4_33⟩) (by assumption) ?hre4_33
      case hye4_33 => (intro wt hSw; (try dsimp only at hSw); go_simp; try (with_reducible rfl))
      try simp only [Act.put, List.setIfInBounds_toArray, List.set_cons_zero, List.set_cons_succ]
      refine wpAnyH_done (by kernel_rfl) ?_ _
      refine NoPanic.normal ?_
      go_wp2
      go_ret
      exact ⟨rfl, fin.out _ (by assumption)⟩
    · go_simp
      go_at_call 17
      refine (C17.out _ ?_).mono ?_
      assumption
      rintro e vx ⟨⟨a6, n6, c6, rfl, IB⟩, kx, bB⟩
      have IA := Lib.hid (IA.out.below bB.out)
      clear bB C17
      try (go_wp2_with fail)
      refine hK.out _ _ ?_ (fun hHeld => ?_)
      · (try dsimp only)
        assumption
      clear hK K
      try simp only [Act.put, List.setIfInBounds_toArray, List.set_cons_zero, List.set_cons_succ]
      refine wpAnyH_ready (rs := [7, 10]) (by kernel_rfl) (by simp) ?_
      refine AllReadyH.cons (List.getElem?_toArray.trans rfl) (fun K hK => ?_) (AllReadyH.cons (List.getElem?_toArray.trans rfl) (fun K hK => ?_) (AllReadyH.nil))
      · have hcv := run_toStr (P := Tryz.prog) T22 U9 IA.out
        go_simp
        try (go_wp2_with fail)
        refine hK.out _ _ ?_ (fun hHeld => ?_)
        · (try dsimp only)
          assumption
        clear hK K
        try simp only [Act.put, List.setIfInBounds_toArray, List.set_cons_zero, List.set_cons_succ]
        clear hcv IA
        refine wpAnyH_ready (rs := [10]) (by kernel_rfl) (by simp) ?_
        refine AllReadyH.cons (List.getElem?_toArray.trans rfl) (fun K hK => ?_) (AllReadyH.nil)
        have hcv := run_toStr (P := Tryz.prog) T22 U9 IB.out
        go_simp
        try (go_wp2_with fail)
        refine hK.out _ _ ?_ (fun hHeld => ?_)
        · (try dsimp only)
          assumption
        clear hK K
        try simp only [Act.put, List.setIfInBounds_toArray, List.set_cons_zero, List.set_cons_succ]
        clear hcv IB
        refine wpAnyH_take (i := 11) (v := ?hve5_11) (List.getElem?_toArray.trans rfl) (by kernel_rfl) (by kernel_rfl) (by kernel_rfl) (fun _ _ _ h => h) (Or.inl ⟨by rfl, ?hye5_11⟩) (by assumption) ?hre5_11
        case hye5_11 => (intro wt hSw; (try dsimp only at hSw); go_simp; try (with_reducible rfl))
        try simp only [Act.put, List.setIfInBounds_toArray, List.set_cons_zero, List.set_cons_succ]
        refine wpAnyH_take (i := 12) (v := ?hve5_12) (List.getElem?_toArray.trans rfl) (by kernel_rfl) (by kernel_rfl) (by kernel_rfl) (fun _ _ _ h => h) (Or.inl ⟨by rfl, ?hye5_12⟩) (by assumption) ?hre5_12
        case hye5_12 => (intro wt hSw; (try dsimp only at hSw); go_simp; try (with_reducible rfl))
        try simp only [Act.put, List.setIfInBounds_toArray, List.set_cons_zero, List.set_cons_succ]
        refine wpAnyH_take (i := 13) (v := ?hve5_13) (List.getElem?_toArray.trans rfl) (by kernel_rfl) (by kernel_rfl) (by kernel_rfl) (fun _ _ _ h => h) (Or.inl ⟨by rfl, ?hye5_13⟩) (by assumption) ?hre5_13
        case hye5_13 => (intro wt hSw; (try dsimp only at hSw); go_simp; try (with_reducible rfl))
        try simp only [Act.put, List.setIfInBounds_toArray, List.set_cons_zero, List.set_cons_succ]
        refine wpAnyH_take (i := 14) (v := ?hve5_14) (List.getElem?_toArray.trans rfl) (by kernel_rfl) (by kernel_rfl) (by kernel_rfl) (fun _ _ _ h => h) (Or.inl ⟨by rfl, ?hye5_14⟩) (by assumption) ?hre5_14
        case hye5_14 => (intro wt hSw; (try dsimp only at hSw); go_simp; try (with_reducible rfl))
        try simp only [Act.put, List.setIfInBounds_toArray, List.set_cons_zero, List.set_cons_succ]
        refine wpAnyH_take (i := 15) (v := ?hve5_15) (List.getElem?_toArray.trans rfl) (by kernel_rfl) (by kernel_rfl) (by kernel_rfl) (fun _ _ _ h => h) (Or.inl ⟨by rfl, ?hye5_15⟩) (by assumption) ?hre5_15
        case hye5_15 => (intro wt hSw; (try dsimp only at hSw); go_simp; try (with_reducible rfl))
        try simp only [Act.put, List.setIfInBounds_toArray, List.set_cons_zero, List.set_cons_succ]
        refine wpAnyH_take (i := 16) (v := ?hve5_16) (List.getElem?_toArray.trans rfl) (by kernel_rfl) (by kernel_rfl) (by kernel_rfl) (fun _ _ _ h => h) (Or.inl ⟨by rfl, ?hye5_16⟩) (by assumption) ?hre5_16
        case hye5_16 => (intro wt hSw; (try dsimp only at hSw); go_simp; try (with_reducible rfl))
        try simp only [Act.put, List.setIfInBounds_toArray, List.set_cons_zero, List.set_cons_succ]
        refine wpAnyH_take (i := 17) (v := undef) (List.getElem?_toArray.trans rfl) (by kernel_rfl) (by kernel_rfl) (by kernel_rfl) (fun _ _ _ h => h) (Or.inr ⟨by rfl, rfl⟩) (by assumption) ?_
        try simp only [Act.put, List.setIfInBounds_toArray, List.set_cons_zero, List.set_cons_succ]
        refine wpAnyH_take (i := 18) (v := undef) (List.getElem?_toArray.trans rfl) (by kernel_rfl) (by kernel_rfl) (by kernel_rfl) (fun _ _ _ h => h) (Or.inr ⟨by rfl, rfl⟩) (by assumption) ?_
        try simp only [Act.put, List.setIfInBounds_toArray, List.set_cons_zero, List.set_cons_succ]
        refine wpAnyH_take (i := 19) (v := undef) (List.getElem?_toArray.trans rfl) (by kernel_rfl) (by kernel_rfl) (by kernel_rfl) (fun _ _ _ h => h) (Or.inr ⟨by rfl, rfl⟩) (by assumption) ?_
        try simp only [Act.put, List.setIfInBounds_toArray, List.set_cons_zero, List.set_cons_succ]
        refine wpAnyH_take (i := 20) (v := undef) (List.getElem?_toArray.trans rfl) (by kernel_rfl) (by kernel_rfl) (by kernel_rfl) (fun _ _ _ h => h) (Or.inr ⟨by rfl, rfl⟩) (by assumption) ?_
        try simp only [Act.put, List.setIfInBounds_toArray, List.set_cons_zero, List.set_cons_succ]
        refine wpAnyH_take (i := 21) (v := undef) (List.getElem?_toArray.trans rfl) (by kernel_rfl) (by kernel_rfl) (by kernel_rfl) (fun _ _ _ h => h) (Or.inr ⟨by rfl, rfl⟩) (by assumption) ?_
        try simp only [Act.put, List.setIfInBounds_toArray, List.set_cons_zero, List.set_cons_succ]
        refine wpAnyH_take (i := 22) (v := undef) (List.getElem?_toArray.trans rfl) (by kernel_rfl) (by kernel_rfl) (by kernel_rfl) (fun _ _ _ h => h) (Or.inr ⟨by rfl, rfl⟩) (by assumption) ?_
        try simp only [Act.put, List.setIfInBounds_toArray, List.set_cons_zero, List.set_cons_succ]
        refine wpAnyH_take (i := 23) (v := undef) (List.getElem?_toArray.trans rfl) (by kernel_rfl) (by kernel_rfl) (by kernel_rfl) (fun _ _ _ h => h) (Or.inr ⟨by rfl, rfl⟩) (by assumption) ?_
        try simp only [Act.put, List.setIfInBounds_toArray, List.set_cons_zero, List.set_cons_succ]
        refine wpAnyH_take (i := 24) (v := undef) (List.getElem?_toArray.trans rfl) (by kernel_rfl) (by kernel_rfl) (by kernel_rfl) (fun _ _ _ h => h) (Or.inr ⟨by rfl, rfl⟩) (by assumption) ?_
        try simp only [Act.put, List.setIfInBounds_toArray, List.set_cons_zero, List.set_cons_succ]
        refine wpAnyH_take (i := 25) (v := undef) (List.getElem?_toArray.trans rfl) (by kernel_rfl) (by kernel_rfl) (by kernel_rfl) (fun _ _ _ h => h) (Or.inr ⟨by rfl, rfl⟩) (by assumption) ?_
        try simp only [Act.put, List.setIfInBounds_toArray, List.set_cons_zero, List.set_cons_succ]
        refine wpAnyH_take (i := 26) (v := undef) (List.getElem?_toArray.trans rfl) (by kernel_rfl) (by kernel_rfl) (by kernel_rfl) (fun _ _ _ h => h) (Or.inr ⟨by rfl, rfl⟩) (by assumption) ?_
        try simp only [Act.put, List.setIfInBounds_toArray, List.set_cons_zero, List.set_cons_succ]
        refine wpAnyH_take (i := 27) (v := undef) (List.getElem?_toArray.trans rfl) (by kernel_rfl) (by kernel_rfl) (by kernel_rfl) (fun _ _ _ h => h) (Or.inr ⟨by rfl, rfl⟩) (by assumption) ?_
        try simp only [Act.put, List.setIfInBounds_toArray, List.set_cons_zero, List.set_cons_succ]
        refine wpAnyH_take (i := 28) (v := ?hve6_28) (List.getElem?_toArray.trans rfl) (by kernel_rfl) (by kernel_rfl) (by kernel_rfl) (fun _ _ _ h => h) (Or.inl ⟨by rfl, ?hye6_28⟩) (by assumption) ?hre6_28
        case hye6_28 => (intro wt hSw; (try dsimp only at hSw); go_simp; try (with_reducible rfl))
        try simp only [Act.put, List.setIfInBounds_toArray, List.set_cons_zero, List.set_cons_succ]
        refine wpAnyH_take (i := 29) (v := ?hve6_29) (List.getElem?_toArray.trans rfl) (by kernel_rfl) (by kernel_rfl) (by kernel_rfl) (fun _ _ _ h => h) (Or.inl ⟨by rfl, ?hye6_29⟩) (by assumption) ?hre6_29
        case hye6_29 => (intro wt hSw; (try dsimp only at hSw); go_simp; try (with_reducible rfl))
        try simp only [Act.put, List.setIfInBounds_toArray, List.set_cons_zero, List.set_cons_succ]
        refine wpAnyH_take (i := 30) (v := ?hve6_30) (List.getElem?_toArray.trans rfl) (by kernel_rfl) (by kernel_rfl) (by kernel_rfl) (fun _ _ _ h => h) (Or.inl ⟨by rfl, ?hye6_30⟩) (by assumption) ?hre6_30
        case hye6_30 => (intro wt hSw; (try dsimp only at hSw); go_simp; try (with_reducible rfl))
        try simp only [Act.put, List.setIfInBounds_toArray, List.set_cons_zero, List.set_cons_succ]
        refine wpAnyH_ready (rs := [31]) (by kernel_rfl) (by simp) ?_
        refine AllReadyH.cons (List.getElem?_toArray.trans rfl) (fun K hK => ?_) (AllReadyH.nil)
        go_simp
        go_at_call 10
        refine (C10.out _ ?_).mono ?_
        assumption
        rintro e vx ⟨rfl, kx⟩
        clear C10
        try (go_wp2_with fail)
        refine hK.out _ _ ?_ (fun hHeld => ?_)
        · (try dsimp only)
          assumption
        clear hK K
        try simp only [Act.put, List.setIfInBounds_toArray, List.set_cons_zero, List.set_cons_succ]
        refine wpAnyH_take (i := 32) (v := ?hve7_32) (List.getElem?_toArray.trans rfl) (by kernel_rfl) (by kernel_rfl) (by kernel_rfl) (fun _ _ _ h => h) (Or.inl ⟨by rfl, ?hye7_32⟩) (by assumption) ?hre7_32
        case hye7_32 => (intro wt hSw; (try dsimp only at hSw); go_simp; try (with_reducible rfl))
        try simp only [Act.put, List.setIfInBounds_toArray, List.set_cons_zero, List.set_cons_succ]
        refine wpAnyH_take (i := 33) (v := ?hve7_33) (List.getElem?_toArray.trans rfl) (by kernel_rfl) (by kernel_rfl) (by kernel_rfl) (fun _ _ _ h => h) (Or.inl ⟨by rfl, ?hye7_33⟩) (by assumption) ?hre7_33
        case hye7_33 => (intro wt hSw; (try dsimp only at hSw); go_simp; try (with_reducible rfl))
        try simp only [Act.put, List.setIfInBounds_toArray, List.set_cons_zero, List.set_cons_succ]
        refine wpAnyH_done (by kernel_rfl) ?_ _
        refine NoPanic.normal ?_
        go_wp2
        go_ret
        exact ⟨rfl, fin.out _ (by assumption)⟩
      · have hcv := run_toStr (P := Tryz.prog) T22 U9 IB.out
        go_simp
        try (go_wp2_with fail)
        refine hK.out _ _ ?_ (fun hHeld => ?_)
        · (try dsimp only)
          assumption
        clear hK K
        try simp only [Act.put, List.setIfInBounds_toArray, List.set_cons_zero, List.set_cons_succ]
        clear hcv IB
        refine wpAnyH_ready (rs := [7]) (by kernel_rfl) (by simp) ?_
        refine AllReadyH.cons (List.getElem?_toArray.trans rfl) (fun K hK => ?_) (AllReadyH.nil)
        have hcv := run_toStr (P := Tryz.prog) T22 U9 IA.out
        go_simp
        try (go_wp2_with fail)
        refine hK.out _ _ ?_ (fun hHeld => ?_)
        · (try dsimp only)
          assumption
        clear hK K
        try simp only [Act.put, List.setIfInBounds_toArray, List.set_cons_zero, List.set_cons_succ]
        clear hcv IA
        refine wpAnyH_take (i := 11) (v := ?hve8_11) (List.getElem?_toArray.trans rfl) (by kernel_rfl) (by kernel_rfl) (by kernel_rfl) (fun _ _ _ h => h) (Or.inl ⟨by rfl, ?hye8_11⟩) (by assumption) ?hre8_11
        case hye8_11 => (intro wt hSw; (try dsimp only at hSw); go_simp; try (with_reducible rfl))
        try simp only [Act.put, List.setIfInBounds_toArray, List.set_cons_zero, List.set_cons_succ]
        refine wpAnyH_take (i := 12) (v := ?hve8_12) (List.getElem?_toArray.trans rfl) (by kernel_rfl) (by kernel_rfl) (by kernel_rfl) (fun _ _ _ h => h) (Or.inl ⟨by rfl, ?hye8_12⟩) (by assumption) ?hre8_12
        case hye8_12 => (intro wt hSw; (try dsimp only at hSw); go_simp; try (with_reducible rfl))
        try simp only [Act.put, List.setIfInBounds_toArray, List.set_cons_zero, List.set_cons_succ]
        refine wpAnyH_take (i := 13) (v := ?hve8_13) (List.getElem?_toArray.trans rfl) (by kernel_rfl) (by kernel_rfl) (by kernel_rfl) (fun _ _ _ h => h) (Or.inl ⟨by rfl, ?hye8_13⟩) (by assumption) ?hre8_13
        case hye8_13 => (intro wt hSw; (try dsimp only at hSw); go_simp; try (with_reducible rfl))
        try simp only [Act.put, List.setIfInBounds_toArray, List.set_cons_zero, List.set_cons_succ]
        refine wpAnyH_take (i := 14) (v := ?hve8_14) (List.getElem?_toArray.trans rfl) (by kernel_rfl) (by kernel_rfl) (by kernel_rfl) (fun _ _ _ h => h) (Or.inl ⟨by rfl, ?hye8_14⟩) (by assumption) ?hre8_14
        case hye8_14 => (intro wt hSw; (try dsimp only at hSw); go_simp; try (with_reducible rfl))
        try simp only [Act.put, List.setIfInBounds_toArray, List.set_cons_zero, List.set_cons_succ]
        refine wpAnyH_take (i := 15) (v := ?hve8_15) (List.getElem?_toArray.trans rfl) (by kernel_rfl) (by kernel_rfl) (by kernel_rfl) (fun _ _ _ h => h) (Or.inl ⟨by rfl, ?hye8_15⟩) (by assumption) ?hre8_15
        case hye8_15 => (intro wt hSw; (try dsimp only at hSw); go_simp; try (with_reducible rfl))
        try simp only [Act.put, List.setIfInBounds_toArray, List.set_cons_zero, List.set_cons_succ]
        refine wpAnyH_take (i := 16) (v := ?hve8_16) (List.getElem?_toArray.trans rfl) (by kernel_rfl) (by kernel_rfl) (by kernel_rfl) (fun _ _ _ h => h) (Or.inl ⟨by rfl, ?hye8_16⟩) (by assumption) ?hre8_16
        case hye8_16 => (intro wt hSw; (try dsimp only at hSw); go_simp; try (with_reducible rfl))
        try simp only [Act.put, List.setIfInBounds_toArray, List.set_cons_zero, List.set_cons_succ]
        refine wpAnyH_take (i := 17) (v := undef) (List.getElem?_toArray.trans rfl) (by kernel_rfl) (by kernel_rfl) (by kernel_rfl) (fun _ _ _ h => h) (Or.inr ⟨by rfl, rfl⟩) (by assumption) ?_
        try simp only [Act.put, List.setIfInBounds_toArray, List.set_cons_zero, List.set_cons_succ]
        refine wpAnyH_take (i := 18) (v := undef) (List.getElem?_toArray.trans rfl) (by kernel_rfl) (by kernel_rfl) (by kernel_rfl) (fun _ _ _ h => h) (Or.inr ⟨by rfl, rfl⟩) (by assumption) ?_
        try simp only [Act.put, List.setIfInBounds_toArray, List.set_cons_zero, List.set_cons_succ]
        refine wpAnyH_take (i := 19) (v := undef) (List.getElem?_toArray.trans rfl) (by kernel_rfl) (by kernel_rfl) (by kernel_rfl) (fun _ _ _ h => h) (Or.inr ⟨by rfl, rfl⟩) (by assumption) ?_
        try simp only [Act.put, List.setIfInBounds_toArray, List.set_cons_zero, List.set_cons_succ]
        refine wpAnyH_take (i := 20) (v := undef) (List.getElem?_toArray.trans rfl) (by kernel_rfl) (by kernel_rfl) (by kernel_rfl) (fun _ _ _ h => h) (Or.inr ⟨by rfl, rfl⟩) (by assumption) ?_
        try simp only [Act.put, List.setIfInBounds_toArray, List.set_cons_zero, List.set_cons_succ]
        refine wpAnyH_take (i := 21) (v := undef) (List.getElem?_toArray.trans rfl) (by kernel_rfl) (by kernel_rfl) (by kernel_rfl) (fun _ _ _ h => h) (Or.inr ⟨by rfl, rfl⟩) (by assumption) ?_
        try simp only [Act.put, List.setIfInBounds_toArray, List.set_cons_zero, List.set_cons_succ]
        refine wpAnyH_take (i := 22) (v := undef) (List.getElem?_toArray.trans rfl) (by kernel_rfl) (by kernel_rfl) (by kernel_rfl) (fun _ _ _ h => h) (Or.inr ⟨by rfl, rfl⟩) (by assumption) ?_
        try simp only [Act.put, List.setIfInBounds_toArray, List.set_cons_zero, List.set_cons_succ]
        refine wpAnyH_take (i := 23) (v := undef) (List.getElem?_toArray.trans rfl) (by kernel_rfl) (by kernel_rfl) (by kernel_rfl) (fun _ _ _ h => h) (Or.inr ⟨by rfl, rfl⟩) (by assumption) ?_
        try simp only [Act.put, List.setIfInBounds_toArray, List.set_cons_zero, List.set_cons_succ]
        refine wpAnyH_take (i := 24) (v := undef) (List.getElem?_toArray.trans rfl) (by kernel_rfl) (by kernel_rfl) (by kernel_rfl) (fun _ _ _ h => h) (Or.inr ⟨by rfl, rfl⟩) (by assumption) ?_
        try simp only [Act.put, List.setIfInBounds_toArray, List.set_cons_zero, List.set_cons_succ]
        refine wpAnyH_take (i := 25) (v := undef) (List.getElem?_toArray.trans rfl) (by kernel_rfl) (by kernel_rfl) (by kernel_rfl) (fun _ _ _ h => h) (Or.inr ⟨by rfl, rfl⟩) (by assumption) ?_
        try simp only [Act.put, List.setIfInBounds_toArray, List.set_cons_zero, List.set_cons_succ]
        refine wpAnyH_take (i := 26) (v := undef) (List.getElem?_toArray.trans rfl) (by kernel_rfl) (by kernel_rfl) (by kernel_rfl) (fun _ _ _ h => h) (Or.inr ⟨by rfl, rfl⟩) (by assumption) ?_
        try simp only [Act.put, List.setIfInBounds_toArray, List.set_cons_zero, List.set_cons_succ]
        refine wpAnyH_take (i := 27) (v := undef) (List.getElem?_toArray.trans rfl) (by kernel_rfl) (by kernel_rfl) (by kernel_rfl) (fun _ _ _ h => h) (Or.inr ⟨by rfl, rfl⟩) (by assumption) ?_
        try simp only [Act.put, List.setIfInBounds_toArray, List.set_cons_zero, List.set_cons_succ]
        refine wpAnyH_take (i := 28) (v := ?hve9_28) (List.getElem?_toArray.trans rfl) (by kernel_rfl) (by kernel_rfl) (by kernel_rfl) (fun _ _ _ h => h) (Or.inl ⟨by rfl, ?hye9_28⟩) (by assumption) ?hre9_28
        case hye9_28 => (intro wt hSw; (try dsimp only at hSw); go_simp; try (with_reducible rfl))
        try simp only [Act.put, List.setIfInBounds_toArray, List.set_cons_zero, List.set_cons_succ]
        refine wpAnyH_take (i := 29) (v := ?hve9_29) (List.getElem?_toArray.trans rfl) (by kernel_rfl) (by kernel_rfl) (by kernel_rfl) (fun _ _ _ h => h) (Or.inl ⟨by rfl, ?hye9_29⟩) (by assumption) ?hre9_29
        case hye9_29 => (intro wt hSw; (try dsimp only at hSw); go_simp; try (with_reducible rfl))
        try simp only [Act.put, List.setIfInBounds_toArray, List.set_cons_zero, List.set_cons_succ]
        refine wpAnyH_take (i := 30) (v := ?hve9_30) (List.getElem?_toArray.trans rfl) (by kernel_rfl) (by kernel_rfl) (by kernel_rfl) (fun _ _ _ h => h) (Or.inl ⟨by rfl, ?hye9_30⟩) (by assumption) ?hre9_30
        case hye9_30 => (intro wt hSw; (try dsimp only at hSw); go_simp; try (with_reducible rfl))
        try simp only [Act.put, List.setIfInBounds_toArray, List.set_cons_zero, List.set_cons_succ]
        refine wpAnyH_ready (rs := [31]) (by kernel_rfl) (by simp) ?_
        refine AllReadyH.cons (List.getElem?_toArray.trans rfl) (fun K hK => ?_) (AllReadyH.nil)
        go_simp
        go_at_call 10
        refine (C10.out _ ?_).mono ?_
        assumption
        rintro e vx ⟨rfl, kx⟩
        clear C10
        try (go_wp2_with fail)
        refine hK.out _ _ ?_ (fun hHeld => ?_)
        · (try dsimp only)
          assumption
        clear hK K
        try simp only [Act.put, List.setIfInBounds_toArray, List.set_cons_zero, List.set_cons_succ]
        refine wpAnyH_take (i := 32) (v := ?hve10_32) (List.getElem?_toArray.trans rfl) (by kernel_rfl) (by kernel_rfl) (by kernel_rfl) (fun _ _ _ h => h) (Or.inl ⟨by rfl, ?hye10_32⟩) (by assumption) ?hre10_32
        case hye10_32 => (intro wt hSw; (try dsimp only at hSw); go_simp; try (with_reducible rfl))
        try simp only [Act.put, List.setIfInBounds_toArray, List.set_cons_zero, List.set_cons_succ]
        refine wpAnyH_take (i := 33) (v := ?hve10_33) (List.getElem?_toArray.trans rfl) (by kernel_rfl) (by kernel_rfl) (by kernel_rfl) (fun _ _ _ h => h) (Or.inl ⟨by rfl, ?hye10_33⟩) (by assumption) ?hre10_33
        case hye10_33 => (intro wt hSw; (try dsimp only at hSw); go_simp; try (with_reducible rfl))
        try simp only [Act.put, List.setIfInBounds_toArray, List.set_cons_zero, List.set_cons_succ]
        refine wpAnyH_done (by kernel_rfl) ?_ _
        refine NoPanic.normal ?_
        go_wp2
        go_ret
        exact ⟨rfl, fin.out _ (by assumption)⟩
  | some m =>
    obtain ⟨hle, hmay⟩ := HB.out m rfl
    have C13 := Lib.hid (C13.out hmay)
    simp only [PK.errM, PK.resM, errV] at C18 C16 C17 C13
    rw [← hle] at C16 C17
    clear HB hle hmay
    simp only [PK.errM, errV, intV]
    go_wp2_with fail
    rw [← hWb]
    try rw [hYb]
    clear hWb hYb
    refine wp_region_noPanic ?_
    refine wp_region_held_drew (S := fun V => (Hid (Below Wb.heap.size Wb V) ∧ (V.cell? ⟨Xb, 0, none⟩ = some (.int .i64 xkd) ∧ V.cell? ⟨Xb, 1, none⟩ = some (.int .i64 xfr) ∧ V.cell? ⟨Xb, 2, none⟩ = some (.int .i64 xto) ∧ V.cell? ⟨Xb, 3, none⟩ = some (.int .i64 xtm) ∧ V.cell? ⟨Xb, 4, none⟩ = some (.int .i64 xix) ∧ V.cell? ⟨Xb, 5, none⟩ = some (.int .i64 xlt) ∧ V.cell? ⟨Xb, 6, none⟩ = some (.int .i64 xcm) ∧ V.cell? ⟨Xb, 7, none⟩ = some (.int .i64 xro) ∧ V.cell? ⟨Xb, 8, none⟩ = some (.bool xok) ∧ V.cell? ⟨Xb, 9, none⟩ = some (.int .i64 xoff) ∧ V.cell? ⟨Xb, 10, none⟩ = some (.slice xda xdn xdc) ∧ V.cell? ⟨Xb, 11, none⟩ = some (.slice xea xen xec)) ∧ V.cell? ⟨Yb, 0, none⟩ = some (.int .i64 ykd) ∧ V.cell? ⟨Yb, 1, none⟩ = some (.int .i64 yfr) ∧ V.cell? ⟨Yb, 2, none⟩ = some (.int .i64 yto) ∧ V.cell? ⟨Yb, 3, none⟩ = some (.int .i64 ytm) ∧ V.cell? ⟨Yb, 4, none⟩ = some (.int .i64 yix) ∧ V.cell? ⟨Yb, 5, none⟩ = some (.int .i64 ylt) ∧ V.cell? ⟨Yb, 6, none⟩ = some (.int .i64 ycm) ∧ V.cell? ⟨Yb, 7, none⟩ = some (.int .i64 yro) ∧ V.cell? ⟨Yb, 8, none⟩ = some (.bool yok) ∧ V.cell? ⟨Yb, 9, none⟩ = some (.int .i64 yoff) ∧ V.cell? ⟨Yb, 10, none⟩ = some (.slice yda ydn ydc) ∧ V.cell? ⟨Yb, 11, none⟩ = some (.slice yea yen yec))) (by kernel_rfl) S0 (fun hHeld => ?_)
    refine wpAnyH_take (i := 0) (v := ?hvzS_0) (List.getElem?_toArray.trans rfl) (by kernel_rfl) (by kernel_rfl) (by kernel_rfl) (fun _ _ _ h => h) (Or.inl ⟨by rfl, ?hyzS_0⟩) (by assumption) ?hrzS_0
    case hyzS_0 => (intro wt hSw; (try dsimp only at hSw); go_simp; try (with_reducible rfl))
    try simp only [Act.put, List.setIfInBounds_toArray, List.set_cons_zero, List.set_cons_succ]
    refine wpAnyH_take (i := 2) (v := ?hvzS_2) (List.getElem?_toArray.trans rfl) (by kernel_rfl) (by kernel_rfl) (by kernel_rfl) (fun _ _ _ h => h) (Or.inl ⟨by rfl, ?hyzS_2⟩) (by assumption) ?hrzS_2
    case hyzS_2 => (intro wt hSw; (try dsimp only at hSw); go_simp; try (with_reducible rfl))
    try simp only [Act.put, List.setIfInBounds_toArray, List.set_cons_zero, List.set_cons_succ]
    refine wpAnyH_ready (rs := [1]) (by kernel_rfl) (by simp) ?_
    refine AllReadyH.cons (List.getElem?_toArray.trans rfl) (fun K hK => ?_) (AllReadyH.nil)
    go_simp
    go_at_call 18
    refine (C18.out _ ?_).mono ?_
    assumption
    rintro e vx ⟨rfl, kx, bB⟩
    clear bB C18
    try (go_wp2_with fail)
    refine hK.out _ _ ?_ (fun hHeld => ?_)
    · (try dsimp only)
      assumption
    clear hK K
    try simp only [Act.put, List.setIfInBounds_toArray, List.set_cons_zero, List.set_cons_succ]
    refine wpAnyH_take (i := 3) (v := ?hve11_3) (List.getElem?_toArray.trans rfl) (by kernel_rfl) (by kernel_rfl) (by kernel_rfl) (fun _ _ _ h => h) (Or.inl ⟨by rfl, ?hye11_3⟩) (by assumption) ?hre11_3
    case hye11_3 => (intro wt hSw; (try dsimp only at hSw); go_simp; try (with_reducible rfl))
    try simp only [Act.put, List.setIfInBounds_toArray, List.set_cons_zero, List.set_cons_succ]
    refine wpAnyH_take (i := 4) (v := ?hve11_4) (List.getElem?_toArray.trans rfl) (by kernel_rfl) (by kernel_rfl) (by kernel_rfl) (fun _ _ _ h => h) (Or.inl ⟨by rfl, ?hye11_4⟩) (by assumption) ?hre11_4
    case hye11_4 => (intro wt hSw; (try dsimp only at hSw); go_simp; try (with_reducible rfl))
    try simp only [Act.put, List.setIfInBounds_toArray, List.set_cons_zero, List.set_cons_succ]
    refine wpAnyH_take (i := 5) (v := ?hve11_5) (List.getElem?_toArray.trans rfl) (by kernel_rfl) (by kernel_rfl) (by kernel_rfl) (fun _ _ _ h => h) (Or.inl ⟨by rfl, ?hye11_5⟩) (by assumption) ?hre11_5
    case hye11_5 => (intro wt hSw; (try dsimp only at hSw); go_simp; try (with_reducible rfl))
    try simp only [Act.put, List.setIfInBounds_toArray, List.set_cons_zero, List.set_cons_succ]
    refine wpAnyH_take (i := 8) (v := ?hve11_8) (List.getElem?_toArray.trans rfl) (by kernel_rfl) (by kernel_rfl) (by kernel_rfl) (fun _ _ _ h => h) (Or.inl ⟨by rfl, ?hye11_8⟩) (by assumption) ?hre11_8
    case hye11_8 => (intro wt hSw; (try dsimp only at hSw); go_simp; try (with_reducible rfl))
    try simp only [Act.put, List.setIfInBounds_toArray, List.set_cons_zero, List.set_cons_succ]
    refine wpAnyH_ready (rs := [6]) (by kernel_rfl) (by simp) ?_
    refine AllReadyH.cons (List.getElem?_toArray.trans rfl) (fun K hK => ?_) (AllReadyH.nil)
    go_simp
    go_at_call 16
    refine (C16.out _ ?_).mono ?_
    assumption
    rintro e vx ⟨⟨a5, n5, c5, rfl, IA⟩, kx, bB⟩
    clear bB
    try (go_wp2_with fail)
    refine hK.out _ _ ?_ (fun hHeld => ?_)
    · (try dsimp only)
      assumption
    clear hK K
    try simp only [Act.put, List.setIfInBounds_toArray, List.set_cons_zero, List.set_cons_succ]
    refine wpAnyH_ready (rs := [7, 9]) (by kernel_rfl) (by simp) ?_
    refine AllReadyH.cons (List.getElem?_toArray.trans rfl) (fun K hK => ?_) (AllReadyH.cons (List.getElem?_toArray.trans rfl) (fun K hK => ?_) (AllReadyH.nil))
    · have hcv := run_toStr (P := Tryz.prog) T22 U9 IA.out
      go_simp
      try (go_wp2_with fail)
      refine hK.out _ _ ?_ (fun hHeld => ?_)
      · (try dsimp only)
        assumption
      clear hK K
      try simp only [Act.put, List.setIfInBounds_toArray, List.set_cons_zero, List.set_cons_succ]
      clear hcv IA
      refine wpAnyH_ready (rs := [9]) (by kernel_rfl) (by simp) ?_
      refine AllReadyH.cons (List.getElem?_toArray.trans rfl) (fun K hK => ?_) (AllReadyH.nil)
      go_simp
      go_at_call 17
      refine (C17.out _ ?_).mono ?_
      assumption
      rintro e vx ⟨⟨a6, n6, c6, rfl, IB⟩, kx, bB⟩
      clear bB C17
      try (go_wp2_with fail)
      refine hK.out _ _ ?_ (fun hHeld => ?_)
      · (try dsimp only)
        assumption
      clear hK K
      try simp only [Act.put, List.setIfInBounds_toArray, List.set_cons_zero, List.set_cons_succ]
      refine wpAnyH_ready (rs := [10]) (by kernel_rfl) (by simp) ?_
      refine AllReadyH.cons (List.getElem?_toArray.trans rfl) (fun K hK => ?_) (AllReadyH.nil)
      have hcv := run_toStr (P := Tryz.prog) T22 U9 IB.out
      go_simp
      try (go_wp2_with fail)
      refine hK.out _ _ ?_ (fun hHeld => ?_)
      · (try dsimp only)
        assumption
      clear hK K
      try simp only [Act.put, List.setIfInBounds_toArray, List.set_cons_zero, List.set_cons_succ]
      clear hcv IB
      refine wpAnyH_take (i := 11) (v := ?hve12_11) (List.getElem?_toArray.trans rfl) (by kernel_rfl) (by kernel_rfl) (by kernel_rfl) (fun _ _ _ h => h) (Or.inl ⟨by rfl, ?hye12_11⟩) (by assumption) ?hre12_11
      case hye12_11 => (intro wt hSw; (try dsimp only at hSw); go_simp; try (with_reducible rfl))
      try simp only [Act.put, List.setIfInBounds_toArray, List.set_cons_zero, List.set_cons_succ]
      refine wpAnyH_take (i := 12) (v := ?hve12_12) (List.getElem?_toArray.trans rfl) (by kernel_rfl) (by kernel_rfl) (by kernel_rfl) (fun _ _ _ h => h) (Or.inl ⟨by rfl, ?hye12_12⟩) (by assumption) ?hre12_12
      case hye12_12 => (intro wt hSw; (try dsimp only at hSw); go_simp; try (with_reducible rfl))
      try simp only [Act.put, List.setIfInBounds_toArray, List.set_cons_zero, List.set_cons_succ]
      refine wpAnyH_take (i := 13) (v := ?hve12_13) (List.getElem?_toArray.trans rfl) (by kernel_rfl) (by kernel_rfl) (by kernel_rfl) (fun _ _ _ h => h) (Or.inl ⟨by rfl, ?hye12_13⟩) (by assumption) ?hre12_13
      case hye12_13 => (intro wt hSw; (try dsimp only at hSw); go_simp; try (with_reducible rfl))
      try simp only [Act.put, List.setIfInBounds_toArray, List.set_cons_zero, List.set_cons_succ]
      refine wpAnyH_take (i := 14) (v := ?hve12_14) (List.getElem?_toArray.trans rfl) (by kernel_rfl) (by kernel_rfl) (by kernel_rfl) (fun _ _ _ h => h) (Or.inl ⟨by rfl, ?hye12_14⟩) (by assumption) ?hre12_14
      case hye12_14 => (intro wt hSw; (try dsimp only at hSw); go_simp; try (with_reducible rfl))
      try simp only [Act.put, List.setIfInBounds_toArray, List.set_cons_zero, List.set_cons_succ]
      refine wpAnyH_take (i := 15) (v := ?hve12_15) (List.getElem?_toArray.trans rfl) (by kernel_rfl) (by kernel_rfl) (by kernel_rfl) (fun _ _ _ h => h) (Or.inl ⟨by rfl, ?hye12_15⟩) (by assumption) ?hre12_15
      case hye12_15 => (intro wt hSw; (try dsimp only at hSw); go_simp; try (with_reducible rfl))
      try simp only [Act.put, List.setIfInBounds_toArray, List.set_cons_zero, List.set_cons_succ]
      refine wpAnyH_take (i := 16) (v := ?hve12_16) (List.getElem?_toArray.trans rfl) (by kernel_rfl) (by kernel_rfl) (by kernel_rfl) (fun _ _ _ h => h) (Or.inl ⟨by rfl, ?hye12_16⟩) (by assumption) ?hre12_16
      case hye12_16 => (intro wt hSw; (try dsimp only at hSw); go_simp; try (with_reducible rfl))
      try simp only [Act.put, List.setIfInBounds_toArray, List.set_cons_zero, List.set_cons_succ]
      refine wpAnyH_take (i := 17) (v := ?hve12_17) (List.getElem?_toArray.trans rfl) (by kernel_rfl) (by kernel_rfl) (by kernel_rfl) (fun _ _ _ h => h) (Or.inl ⟨by rfl, ?hye12_17⟩) (by assumption) ?hre12_17
      case hye12_17 => (intro wt hSw; (try dsimp only at hSw); go_simp; try (with_reducible rfl))
      try simp only [Act.put, List.setIfInBounds_toArray, List.set_cons_zero, List.set_cons_succ]
      refine wpAnyH_ready (rs := [18]) (by kernel_rfl) (by simp) ?_
      refine AllReadyH.cons (List.getElem?_toArray.trans rfl) (fun K hK => ?_) (AllReadyH.nil)
      go_simp
      go_at_call 13
      refine (C13.out _ ?_).mono ?_
      assumption
      rintro e vx ⟨rfl, kx⟩
      clear C13
      try (go_wp2_with fail)
      refine hK.out _ _ ?_ (fun hHeld => ?_)
      · (try dsimp only)
        assumption
      clear hK K
      try simp only [Act.put, List.setIfInBounds_toArray, List.set_cons_zero, List.set_cons_succ]
      refine wpAnyH_take (i := 19) (v := ?hve13_19) (List.getElem?_toArray.trans rfl) (by kernel_rfl) (by kernel_rfl) (by kernel_rfl) (fun _ _ _ h => h) (Or.inl ⟨by rfl, ?hye13_19⟩) (by assumption) ?hre13_19
      case hye13_19 => (intro wt hSw; (try dsimp only at hSw); go_simp; try (with_reducible rfl))
      try simp only [Act.put, List.setIfInBounds_toArray, List.set_cons_zero, List.set_cons_succ]
      refine wpAnyH_take (i := 20) (v := ?hve13_20) (List.getElem?_toArray.trans rfl) (by kernel_rfl) (by kernel_rfl) (by kernel_rfl) (fun _ _ _ h => h) (Or.inl ⟨by rfl, ?hye13_20⟩) (by assumption) ?hre13_20
      case hye13_20 => (intro wt hSw; (try dsimp only at hSw); go_simp; try (with_reducible rfl))
      try simp only [Act.put, List.setIfInBounds_toArray, List.set_cons_zero, List.set_cons_succ]
      refine wpAnyH_take (i := 21) (v := ?hve13_21) (List.getElem?_toArray.trans rfl) (by kernel_rfl) (by kernel_rfl) (by kernel_rfl) (fun _ _ _ h => h) (Or.inl ⟨by rfl, ?hye13_21⟩) (by assumption) ?hre13_21
      case hye13_21 => (intro wt hSw; (try dsimp only at hSw); go_simp; try (with_reducible rfl))
      try simp only [Act.put, List.setIfInBounds_toArray, List.set_cons_zero, List.set_cons_succ]
      refine wpAnyH_take (i := 24) (v := ?hve13_24) (List.getElem?_toArray.trans rfl) (by kernel_rfl) (by kernel_rfl) (by kernel_rfl) (fun _ _ _ h => h) (Or.inl ⟨by rfl, ?hye13_24⟩) (by assumption) ?hre13_24
      case hye13_24 => (intro wt hSw; (try dsimp only at hSw); go_simp; try (with_reducible rfl))
      try simp only [Act.put, List.setIfInBounds_toArray, List.set_cons_zero, List.set_cons_succ]
      refine wpAnyH_take (i := 25) (v := ?hve13_25) (List.getElem?_toArray.trans rfl) (by kernel_rfl) (by kernel_rfl) (by kernel_rfl) (fun _ _ _ h => h) (Or.inl ⟨by rfl, ?hye13_25⟩) (by assumption) ?hre13_25
      case hye13_25 => (intro wt hSw; (try dsimp only at hSw); go_simp; try (with_reducible rfl))
      try simp only [Act.put, List.setIfInBounds_toArray, List.set_cons_zero, List.set_cons_succ]
      refine wpAnyH_ready (rs := [22]) (by kernel_rfl) (by simp) ?_
      refine AllReadyH.cons (List.getElem?_toArray.trans rfl) (fun K hK => ?_) (AllReadyH.nil)
      go_simp
      go_at_call 16
      refine (C16.out _ ?_).mono ?_
      assumption
      rintro e vx ⟨⟨a5, n5, c5, rfl, IC⟩, kx, bB⟩
      clear bB
      try (go_wp2_with fail)
      refine hK.out _ _ ?_ (fun hHeld => ?_)
      · (try dsimp only)
        assumption
      clear hK K
      try simp only [Act.put, List.setIfInBounds_toArray, List.set_cons_zero, List.set_cons_succ]
      refine wpAnyH_ready (rs := [23]) (by kernel_rfl) (by simp) ?_
      refine AllReadyH.cons (List.getElem?_toArray.trans rfl) (fun K hK => ?_) (AllReadyH.nil)
      have hcv := run_toStr (P := Tryz.prog) T22 U9 IC.out
      go_simp
      try (go_wp2_with fail)
      refine hK.out _ _ ?_ (fun hHeld => ?_)
      · (try dsimp only)
        assumption
      clear hK K
      try simp only [Act.put, List.setIfInBounds_toArray, List.set_cons_zero, List.set_cons_succ]
      clear hcv IC
      refine wpAnyH_take (i := 26) (v := ?hve14_26) (List.getElem?_toArray.trans rfl) (by kernel_rfl) (by kernel_rfl) (by kernel_rfl) (fun _ _ _ h => h) (Or.inl ⟨by rfl, ?hye14_26⟩) (by assumption) ?hre14_26
      case hye14_26 => (intro wt hSw; (try dsimp only at hSw); go_simp; try (with_reducible rfl))
      try simp only [Act.put, List.setIfInBounds_toArray, List.set_cons_zero, List.set_cons_succ]
      refine wpAnyH_take (i := 27) (v := ?hve14_27) (List.getElem?_toArray.trans rfl) (by kernel_rfl) (by kernel_rfl) (by kernel_rfl) (fun _ _ _ h => h) (Or.inl ⟨by rfl, ?hye14_27⟩) (by assumption) ?hre14_27
      case hye14_27 => (intro wt hSw; (try dsimp only at hSw); go_simp; try (with_reducible rfl))
      try simp only [Act.put, List.setIfInBounds_toArray, List.set_cons_zero, List.set_cons_succ]
      refine wpAnyH_take (i := 28) (v := ?hve14_28) (List.getElem?_toArray.trans rfl) (by kernel_rfl) (by kernel_rfl) (by kernel_rfl) (fun _ _ _ h => h) (Or.inl ⟨by rfl, ?hye14_28⟩) (by assumption) ?hre14_28
      case hye14_28 => (intro wt hSw; (try dsimp only at hSw); go_simp; try (with_reducible rfl))
      try simp only [Act.put, List.setIfInBounds_toArray, List.set_cons_zero, List.set_cons_succ]
      refine wpAnyH_take (i := 29) (v := ?hve14_29) (List.getElem?_toArray.trans rfl) (by kernel_rfl) (by kernel_rfl) (by kernel_rfl) (fun _ _ _ h => h) (Or.inl ⟨by rfl, ?hye14_29⟩) (by assumption) ?hre14_29
      case hye14_29 => (intro wt hSw; (try dsimp only at hSw); go_simp; try (with_reducible rfl))
      try simp only [Act.put, List.setIfInBounds_toArray, List.set_cons_zero, List.set_cons_succ]
      refine wpAnyH_take (i := 30) (v := ?hve14_30) (List.getElem?_toArray.trans rfl) (by kernel_rfl) (by kernel_rfl) (by kernel_rfl) (fun _ _ _ h => h) (Or.inl ⟨by rfl, ?hye14_30⟩) (by assumption) ?hre14_30
      case hye14_30 => (intro wt hSw; (try dsimp only at hSw); go_simp; try (with_reducible rfl))
      try simp only [Act.put, List.setIfInBounds_toArray, List.set_cons_zero, List.set_cons_succ]
      refine wpAnyH_ready (rs := [31]) (by kernel_rfl) (by simp) ?_
      refine AllReadyH.cons (List.getElem?_toArray.trans rfl) (fun K hK => ?_) (AllReadyH.nil)
      go_simp
      go_at_call 10
      refine (C10.out _ ?_).mono ?_
      assumption
      rintro e vx ⟨rfl, kx⟩
      clear C10
      try (go_wp2_with fail)
      refine hK.out _ _ ?_ (fun hHeld => ?_)
      · (try dsimp only)
        assumption
      clear hK K
      try simp only [Act.put, List.setIfInBounds_toArray, List.set_cons_zero, List.set_cons_succ]
      refine wpAnyH_take (i := 32) (v := ?hve15_32) (List.getElem?_toArray.trans rfl) (by kernel_rfl) (by kernel_rfl) (by kernel_rfl) (fun _ _ _ h => h) (Or.inl ⟨by rfl, ?hye15_32⟩) (by assumption) ?hre15_32
      case hye15_32 => (intro wt hSw; (try dsimp only at hSw); go_simp; try (with_reducible rfl))
      try simp only [Act.put, List.setIfInBounds_toArray, List.set_cons_zero, List.set_cons_succ]
      refine wpAnyH_take (i := 33) (v := ?hve15_33) (List.getElem?_toArray.trans rfl) (by kernel_rfl) (by kernel_rfl) (by kernel_rfl) (fun _ _ _ h => h) (Or.inl ⟨by rfl, ?hye15_33⟩) (by assumption) ?hre15_33
      case hye15_33 => (intro wt hSw; (try dsimp only at hSw); go_simp; try (with_reducible rfl))
      try simp only [Act.put, List.setIfInBounds_toArray, List.set_cons_zero, List.set_cons_succ]
      refine wpAnyH_done (by kernel_rfl) ?_ _
      refine NoPanic.normal ?_
      go_wp2
      go_ret
      exact ⟨rfl, fin.out _ (by assumption)⟩
    · go_simp
      go_at_call 17
      refine (C17.out _ ?_).mono ?_
      assumption
      rintro e vx ⟨⟨a6, n6, c6, rfl, IB⟩, kx, bB⟩
      have IA := Lib.hid (IA.out.below bB.out)
      clear bB C17
      try (go_wp2_with fail)
      refine hK.out _ _ ?_ (fun hHeld => ?_)
      · (try dsimp only)
        assumption
      clear hK K
      try simp only [Act.put, List.setIfInBounds_toArray, List.set_cons_zero, List.set_cons_succ]
      refine wpAnyH_ready (rs := [7, 10]) (by kernel_rfl) (by simp) ?_
      refine AllReadyH.cons (List.getElem?_toArray.trans rfl) (fun K hK => ?_) (AllReadyH.cons (List.getElem?_toArray.trans rfl) (fun K hK => ?_) (AllReadyH.nil))
      · have hcv := run_toStr (P := Tryz.prog) T22 U9 IA.out
        go_simp
        try (go_wp2_with fail)
        refine hK.out _ _ ?_ (fun hHeld => ?_)
        · (try dsimp only)
          assumption
        clear hK K
        try simp only [Act.put, List.setIfInBounds_toArray, List.set_cons_zero, List.set_cons_succ]
        clear hcv IA
        refine wpAnyH_ready (rs := [10]) (by kernel_rfl) (by simp) ?_
        refine AllReadyH.cons (List.getElem?_toArray.trans rfl) (fun K hK => ?_) (AllReadyH.nil)
        have hcv := run_toStr (P := Tryz.prog) T22 U9 IB.out
        go_simp
        try (go_wp2_with fail)
        refine hK.out _ _ ?_ (fun hHeld => ?_)
        · (try dsimp only)
          assumption
        clear hK K
        try simp only [Act.put, List.setIfInBounds_toArray, List.set_cons_zero, List.set_cons_succ]
        clear hcv IB
        refine wpAnyH_take (i := 11) (v := ?hve16_11) (List.getElem?_toArray.trans rfl) (by kernel_rfl) (by kernel_rfl) (by kernel_rfl) (fun _ _ _ h => h) (Or.inl ⟨by rfl, ?hye16_11⟩) (by assumption) ?hre16_11
        case hye16_11 => (intro wt hSw; (try dsimp only at hSw); go_simp; try (with_reducible rfl))
        try simp only [Act.put, List.setIfInBounds_toArray, List.set_cons_zero, List.set_cons_succ]
        refine wpAnyH_take (i := 12) (v := ?hve16_12) (List.getElem?_toArray.trans rfl) (by kernel_rfl) (by kernel_rfl) (by kernel_rfl) (fun _ _ _ h => h) (Or.inl ⟨by rfl, ?hye16_12⟩) (by assumption) ?hre16_12
        case hye16_12 => (intro wt hSw; (try dsimp only at hSw); go_simp; try (with_reducible rfl))
        try simp only [Act.put, List.setIfInBounds_toArray, List.set_cons_zero, List.set_cons_succ]
        refine wpAnyH_take (i := 13) (v := ?hve16_13) (List.getElem?_toArray.trans rfl) (by kernel_rfl) (by kernel_rfl) (by kernel_rfl) (fun _ _ _ h => h) (Or.inl ⟨by rfl, ?hye16_13⟩) (by assumption) ?hre16_13
        case hye16_13 => (intro wt hSw; (try dsimp only at hSw); go_simp; try (with_reducible rfl))
        try simp only [Act.put, List.setIfInBounds_toArray, List.set_cons_zero, List.set_cons_succ]
        refine wpAnyH_take (i := 14) (v := ?hve16_14) (List.getElem?_toArray.trans rfl) (by kernel_rfl) (by kernel_rfl) (by kernel_rfl) (fun _ _ _ h => h) (Or.inl ⟨by rfl, ?hye16_14⟩) (by assumption) ?hre16_14
        case hye16_14 => (intro wt hSw; (try dsimp only at hSw); go_simp; try (with_reducible rfl))
        try simp only [Act.put, List.setIfInBounds_toArray, List.set_cons_zero, List.set_cons_succ]
        refine wpAnyH_take (i := 15) (v := ?hve16_15) (List.getElem?_toArray.trans rfl) (by kernel_rfl) (by kernel_rfl) (by kernel_rfl) (fun _ _ _ h => h) (Or.inl ⟨by rfl, ?hye16_15⟩) (by assumption) ?hre16_15
        case hye16_15 => (intro wt hSw; (try dsimp only at hSw); go_simp; try (with_reducible rfl))
        try simp only [Act.put, List.setIfInBounds_toArray, List.set_cons_zero, List.set_cons_succ]
        refine wpAnyH_take (i := 16) (v := ?hve16_16) (List.getElem?_toArray.trans rfl) (by kernel_rfl) (by kernel_rfl) (by kernel_rfl) (fun _ _ _ h => h) (Or.inl ⟨by rfl, ?hye16_16⟩) (by assumption) ?hre16_16
        case hye16_16 => (intro wt hSw; (try dsimp only at hSw); go_simp; try (with_reducible rfl))
        try simp only [Act.put, List.setIfInBounds_toArray, List.set_cons_zero, List.set_cons_succ]
        refine wpAnyH_take (i := 17) (v := ?hve16_17) (List.getElem?_toArray.trans rfl) (by kernel_rfl) (by kernel_rfl) (by kernel_rfl) (fun _ _ _ h => h) (Or.inl ⟨by rfl, ?hye16_17⟩) (by assumption) ?hre16_17
        case hye16_17 => (intro wt hSw; (try dsimp only at hSw); go_simp; try (with_reducible rfl))
        try simp only [Act.put, List.setIfInBounds_toArray, List.set_cons_zero, List.set_cons_succ]
        refine wpAnyH_ready (rs := [18]) (by kernel_rfl) (by simp) ?_
        refine AllReadyH.cons (List.getElem?_toArray.trans rfl) (fun K hK => ?_) (AllReadyH.nil)
        go_simp
        go_at_call 13
        refine (C13.out _ ?_).mono ?_
        assumption
        rintro e vx ⟨rfl, kx⟩
        clear C13
        try (go_wp2_with fail)
        refine hK.out _ _ ?_ (fun hHeld => ?_)
        · (try dsimp only)
          assumption
        clear hK K
        try simp only [Act.put, List.setIfInBounds_toArray, List.set_cons_zero, List.set_cons_succ]
        refine wpAnyH_take (i := 19) (v := ?hve17_19) (List.getElem?_toArray.trans rfl) (by kernel_rfl) (by kernel_rfl) (by kernel_rfl) (fun _ _ _ h => h) (Or.inl ⟨by rfl, ?hye17_19⟩) (by assumption) ?hre17_19
        case hye17_19 => (intro wt hSw; (try dsimp only at hSw); go_simp; try (with_reducible rfl))
        try simp only [Act.put, List.setIfInBounds_toArray, List.set_cons_zero, List.set_cons_succ]
        refine wpAnyH_take (i := 20) (v := ?hve17_20) (List.getElem?_toArray.trans rfl) (by kernel_rfl) (by kernel_rfl) (by kernel_rfl) (fun _ _ _ h => h) (Or.inl ⟨by rfl, ?hye17_20⟩) (by assumption) ?hre17_20
        case hye17_20 => (intro wt hSw; (try dsimp only at hSw); go_simp; try (with_reducible rfl))
        try simp only [Act.put, List.setIfInBounds_toArray, List.set_cons_zero, List.set_cons_succ]
        refine wpAnyH_take (i := 21) (v := ?hve17_21) (List.getElem?_toArray.trans rfl) (by kernel_rfl) (by kernel_rfl) (by kernel_rfl) (fun _ _ _ h => h) (Or.inl ⟨by rfl, ?hye17_21⟩) (by assumption) ?hre17_21
        case hye17_21 => (intro wt hSw; (try dsimp only at hSw); go_simp; try (with_reducible rfl))
        try simp only [Act.put, List.setIfInBounds_toArray, List.set_cons_zero, List.set_cons_succ]
        refine wpAnyH_take (i := 24) (v := ?hve17_24) (List.getElem?_toArray.trans rfl) (by kernel_rfl) (by kernel_rfl) (by kernel_rfl) (fun _ _ _ h => h) (Or.inl ⟨by rfl, ?hye17_24⟩) (by assumption) ?hre17_24
        case hye17_24 => (intro wt hSw; (try dsimp only at hSw); go_simp; try (with_reducible rfl))
        try simp only [Act.put, List.setIfInBounds_toArray, List.set_cons_zero, List.set_cons_succ]
        refine wpAnyH_take (i := 25) (v := ?hve17_25) (List.getElem?_toArray.trans rfl) (by kernel_rfl) (by kernel_rfl) (by kernel_rfl) (fun _ _ _ h => h) (Or.inl ⟨by rfl, ?hye17_25⟩) (by assumption) ?hre17_25
        case hye17_25 => (intro wt hSw; (try dsimp only at hSw); go_simp; try (with_reducible rfl))
        try simp only [Act.put, List.setIfInBounds_toArray, List.set_cons_zero, List.set_cons_succ]
        refine wpAnyH_ready (rs := [22]) (by kernel_rfl) (by simp) ?_
        refine AllReadyH.cons (List.getElem?_toArray.trans rfl) (fun K hK => ?_) (AllReadyH.nil)
        go_simp
        go_at_call 16
        refine (C16.out _ ?_).mono ?_
        assumption
        rintro e vx ⟨⟨a5, n5, c5, rfl, IC⟩, kx, bB⟩
        clear bB
        try (go_wp2_with fail)
        refine hK.out _ _ ?_ (fun hHeld => ?_)
        · (try dsimp only)
          assumption
        clear hK K
        try simp only [Act.put, List.setIfInBounds_toArray, List.set_cons_zero, List.set_cons_succ]
        refine wpAnyH_ready (rs := [23]) (by kernel_rfl) (by simp) ?_
        refine AllReadyH.cons (List.getElem?_toArray.trans rfl) (fun K hK => ?_) (AllReadyH.nil)
        have hcv := run_toStr (P := Tryz.prog) T22 U9 IC.out
        go_simp
        try (go_wp2_with fail)
        refine hK.out _ _ ?_ (fun hHeld => ?_)
        · (try dsimp only)
          assumption
        clear hK K
        try simp only [Act.put, List.setIfInBounds_toArray, List.set_cons_zero, List.set_cons_succ]
        clear hcv IC
        refine wpAnyH_take (i := 26) (v := ?hve18_26) (List.getElem?_toArray.trans rfl) (by kernel_rfl) (by kernel_rfl) (by kernel_rfl) (fun _ _ _ h => h) (Or.inl ⟨by rfl, ?hye18_26⟩) (by assumption) ?hre18_26
        case hye18_26 => (intro wt hSw; (try dsimp only at hSw); go_simp; try (with_reducible rfl))
        try simp only [Act.put, List.setIfInBounds_toArray, List.set_cons_zero, List.set_cons_succ]
        refine wpAnyH_take (i := 27) (v := ?hve18_27) (List.getElem?_toArray.trans rfl) (by kernel_rfl) (by kernel_rfl) (by kernel_rfl) (fun _ _ _ h => h) (Or.inl ⟨by rfl, ?hye18_27⟩) (by assumption) ?hre18_27
        case hye18_27 => (intro wt hSw; (try dsimp only at hSw); go_simp; try (with_reducible rfl))
        try simp only [Act.put, List.setIfInBounds_toArray, List.set_cons_zero, List.set_cons_succ]
        refine wpAnyH_take (i := 28) (v := ?hve18_28) (List.getElem?_toArray.trans rfl) (by kernel_rfl) (by kernel_rfl) (by kernel_rfl) (fun _ _ _ h => h) (Or.inl ⟨by rfl, ?hye18_28⟩) (by assumption) ?hre18_28
        case hye18_28 => (intro wt hSw; (try dsimp only at hSw); go_simp; try (with_reducible rfl))
        try simp only [Act.put, List.setIfInBounds_toArray, List.set_cons_zero, List.set_cons_succ]
        refine wpAnyH_take (i := 29) (v := ?hve18_29) (List.getElem?_toArray.trans rfl) (by kernel_rfl) (by kernel_rfl) (by kernel_rfl) (fun _ _ _ h => h) (Or.inl ⟨by rfl, ?hye18_29⟩) (by assumption) ?hre18_29
        case hye18_29 => (intro wt hSw; (try dsimp only at hSw); go_simp; try (with_reducible rfl))
        try simp only [Act.put, List.setIfInBounds_toArray, List.set_cons_zero, List.set_cons_succ]
        refine wpAnyH_take (i := 30) (v := ?hve18_30) (List.getElem?_toArray.trans rfl) (by kernel_rfl) (by kernel_rfl) (by kernel_rfl) (fun _ _ _ h => h) (Or.inl ⟨by rfl, ?hye18_30⟩) (by assumption) ?hre18_30
        case hye18_30 => (intro wt hSw; (try dsimp only at hSw); go_simp; try (with_reducible rfl))
        try simp only [Act.put, List.setIfInBounds_toArray, List.set_cons_zero, List.set_cons_succ]
        refine wpAnyH_ready (rs := [31]) (by kernel_rfl) (by simp) ?_
        refine AllReadyH.cons (List.getElem?_toArray.trans rfl) (fun K hK => ?_) (AllReadyH.nil)
        go_simp
        go_at_call 10
        refine (C10.out _ ?_).mono ?_
        assumption
        rintro e vx ⟨rfl, kx⟩
        clear C10
        try (go_wp2_with fail)
        refine hK.out _ _ ?_ (fun hHeld => ?_)
        · (try dsimp only)
          assumption
        clear hK K
        try simp only [Act.put, List.setIfInBounds_toArray, List.set_cons_zero, List.set_cons_succ]
        refine wpAnyH_take (i := 32) (v := ?hve19_32) (List.getElem?_toArray.trans rfl) (by kernel_rfl) (by kernel_rfl) (by kernel_rfl) (fun _ _ _ h => h) (Or.inl ⟨by rfl, ?hye19_32⟩) (by assumption) ?hre19_32
        case hye19_32 => (intro wt hSw; (try dsimp only at hSw); go_simp; try (with_reducible rfl))
        try simp only [Act.put, List.setIfInBounds_toArray, List.set_cons_zero, List.set_cons_succ]
        refine wpAnyH_take (i := 33) (v := ?hve19_33) (List.getElem?_toArray.trans rfl) (by kernel_rfl) (by kernel_rfl) (by kernel_rfl) (fun _ _ _ h => h) (Or.inl ⟨by rfl, ?hye19_33⟩) (by assumption) ?hre19_33
        case hye19_33 => (intro wt hSw; (try dsimp only at hSw); go_simp; try (with_reducible rfl))
        try simp only [Act.put, List.setIfInBounds_toArray, List.set_cons_zero, List.set_cons_succ]
        refine wpAnyH_done (by kernel_rfl) ?_ _
        refine NoPanic.normal ?_
        go_wp2
        go_ret
        exact ⟨rfl, fin.out _ (by assumption)⟩
      · have hcv := run_toStr (P := Tryz.prog) T22 U9 IB.out
        go_simp
        try (go_wp2_with fail)
        refine hK.out _ _ ?_ (fun hHeld => ?_)
        · (try dsimp only)
          assumption
        clear hK K
        try simp only [Act.put, List.setIfInBounds_toArray, List.set_cons_zero, List.set_cons_succ]
        clear hcv IB
        refine wpAnyH_ready (rs := [7]) (by kernel_rfl) (by simp) ?_
        refine AllReadyH.cons (List.getElem?_toArray.trans rfl) (fun K hK => ?_) (AllReadyH.nil)
        have hcv := run_toStr (P := Tryz.prog) T22 U9 IA.out
        go_simp
        try (go_wp2_with fail)
        refine hK.out _ _ ?_ (fun hHeld => ?_)
        · (try dsimp only)
          assumption
        clear hK K
        try simp only [Act.put, List.setIfInBounds_toArray, List.set_cons_zero, List.set_cons_succ]
        clear hcv IA
        refine wpAnyH_take (i := 11) (v := ?hve20_11) (List.getElem?_toArray.trans rfl) (by kernel_rfl) (by kernel_rfl) (by kernel_rfl) (fun _ _ _ h => h) (Or.inl ⟨by rfl, ?hye20_11⟩) (by assumption) ?hre20_11
        case hye20_11 => (intro wt hSw; (try dsimp only at hSw); go_simp; try (with_reducible rfl))
        try simp only [Act.put, List.setIfInBounds_toArray, List.set_cons_zero, List.set_cons_succ]
        refine wpAnyH_take (i := 12) (v := ?hve20_12) (List.getElem?_toArray.trans rfl) (by kernel_rfl) (by kernel_rfl) (by kernel_rfl) (fun _ _ _ h => h) (Or.inl ⟨by rfl, ?hye20_12⟩) (by assumption) ?hre20_12
        case hye20_12 => (intro wt hSw; (try dsimp only at hSw); go_simp; try (with_reducible rfl))
        try simp only [Act.put, List.setIfInBounds_toArray, List.set_cons_zero, List.set_cons_succ]
        refine wpAnyH_take (i := 13) (v := ?hve20_13) (List.getElem?_toArray.trans rfl) (by kernel_rfl) (by kernel_rfl) (by kernel_rfl) (fun _ _ _ h => h) (Or.inl ⟨by rfl, ?hye20_13⟩) (by assumption) ?hre20_13
        case hye20_13 => (intro wt hSw; (try dsimp only at hSw); go_simp; try (with_reducible rfl))
        try simp only [Act.put, List.setIfInBounds_toArray, List.set_cons_zero, List.set_cons_succ]
        refine wpAnyH_take (i := 14) (v := ?hve20_14) (List.getElem?_toArray.trans rfl) (by kernel_rfl) (by kernel_rfl) (by kernel_rfl) (fun _ _ _ h => h) (Or.inl ⟨by rfl, ?hye20_14⟩) (by assumption) ?hre20_14
        case hye20_14 => (intro wt hSw; (try dsimp only at hSw); go_simp; try (with_reducible rfl))
        try simp only [Act.put, List.setIfInBounds_toArray, List.set_cons_zero, List.set_cons_succ]
        refine wpAnyH_take (i := 15) (v := ?hve20_15) (List.getElem?_toArray.trans rfl) (by kernel_rfl) (by kernel_rfl) (by kernel_rfl) (fun _ _ _ h => h) (Or.inl ⟨by rfl, ?hye20_15⟩) (by assumption) ?hre20_15
        case hye20_15 => (intro wt hSw; (try dsimp only at hSw); go_simp; try (with_reducible rfl))
        try simp only [Act.put, List.setIfInBounds_toArray, List.set_cons_zero, List.set_cons_succ]
        refine wpAnyH_take (i := 16) (v := ?hve20_16) (List.getElem?_toArray.trans rfl) (by kernel_rfl) (by kernel_rfl) (by kernel_rfl) (fun _ _ _ h => h) (Or.inl ⟨by rfl, ?hye20_16⟩) (by assumption) ?hre20_16
        case hye20_16 => (intro wt hSw; (try dsimp only at hSw); go_simp; try (with_reducible rfl))
        try simp only [Act.put, List.setIfInBounds_toArray, List.set_cons_zero, List.set_cons_succ]
        refine wpAnyH_take (i := 17) (v := ?hve20_17) (List.getElem?_toArray.trans rfl) (by kernel_rfl) (by kernel_rfl) (by kernel_rfl) (fun _ _ _ h => h) (Or.inl ⟨by rfl, ?hye20_17⟩) (by assumption) ?hre20_17
        case hye20_17 => (intro wt hSw; (try dsimp only at hSw); go_simp; try (with_reducible rfl))
        try simp only [Act.put, List.setIfInBounds_toArray, List.set_cons_zero, List.set_cons_succ]
        refine wpAnyH_ready (rs := [18]) (by kernel_rfl) (by simp) ?_
        refine AllReadyH.cons (List.getElem?_toArray.trans rfl) (fun K hK => ?_) (AllReadyH.nil)
        go_simp
        go_at_call 13
        refine (C13.out _ ?_).mono ?_
        assumption
        rintro e vx ⟨rfl, kx⟩
        clear C13
        try (go_wp2_with fail)
        refine hK.out _ _ ?_ (fun hHeld => ?_)
        · (try dsimp only)
          assumption
        clear hK K
        try simp only [Act.put, List.setIfInBounds_toArray, List.set_cons_zero, List.set_cons_succ]
        refine wpAnyH_take (i := 19) (v := ?hve21_19) (List.getElem?_toArray.trans rfl) (by kernel_rfl) (by kernel_rfl) (by kernel_rfl) (fun _ _ _ h => h) (Or.inl ⟨by rfl, ?hye21_19⟩) (by assumption) ?hre21_19
        case hye21_19 => (intro wt hSw; (try dsimp only at hSw); go_simp; try (with_reducible rfl))
        try simp only [Act.put, List.setIfInBounds_toArray, List.set_cons_zero, List.set_cons_succ]
        refine wpAnyH_take (i := 20) (v := ?hve21_20) (List.getElem?_toArray.trans rfl) (by kernel_rfl) (by kernel_rfl) (by kernel_rfl) (fun _ _ _ h => h) (Or.inl ⟨by rfl, ?hye21_20⟩) (by assumption) ?hre21_20
        case hye21_20 => (intro wt hSw; (try dsimp only at hSw); go_simp; try (with_reducible rfl))
        try simp only [Act.put, List.setIfInBounds_toArray, List.set_cons_zero, List.set_cons_succ]
        refine wpAnyH_take (i := 21) (v := ?hve21_21) (List.getElem?_toArray.trans rfl) (by kernel_rfl) (by kernel_rfl) (by kernel_rfl) (fun _ _ _ h => h) (Or.inl ⟨by rfl, ?hye21_21⟩) (by assumption) ?hre21_21
        case hye21_21 => (intro wt hSw; (try dsimp only at hSw); go_simp; try (with_reducible rfl))
        try simp only [Act.put, List.setIfInBounds_toArray, List.set_cons_zero, List.set_cons_succ]
        refine wpAnyH_take (i := 24) (v := ?hve21_24) (List.getElem?_toArray.trans rfl) (by kernel_rfl) (by kernel_rfl) (by kernel_rfl) (fun _ _ _ h => h) (Or.inl ⟨by rfl, ?hye21_24⟩) (by assumption) ?hre21_24
        case hye21_24 => (intro wt hSw; (try dsimp only at hSw); go_simp; try (with_reducible rfl))
        try simp only [Act.put, List.setIfInBounds_toArray, List.set_cons_zero, List.set_cons_succ]
        refine wpAnyH_take (i := 25) (v := ?hve21_25) (List.getElem?_toArray.trans rfl) (by kernel_rfl) (by kernel_rfl) (by kernel_rfl) (fun _ _ _ h => h) (Or.inl ⟨by rfl, ?hye21_25⟩) (by assumption) ?hre21_25
        case hye21_25 => (intro wt hSw; (try dsimp only at hSw); go_simp; try (with_reducible rfl))
        try simp only [Act.put, List.setIfInBounds_toArray, List.set_cons_zero, List.set_cons_succ]
        refine wpAnyH_ready (rs := [22]) (by kernel_rfl) (by simp) ?_
        refine AllReadyH.cons (List.getElem?_toArray.trans rfl) (fun K hK => ?_) (AllReadyH.nil)
        go_simp
        go_at_call 16
        refine (C16.out _ ?_).mono ?_
        assumption
        rintro e vx ⟨⟨a5, n5, c5, rfl, IC⟩, kx, bB⟩
        clear bB
        try (go_wp2_with fail)
        refine hK.out _ _ ?_ (fun hHeld => ?_)
        · (try dsimp only)
          assumption
        clear hK K
        try simp only [Act.put, List.setIfInBounds_toArray, List.set_cons_zero, List.set_cons_succ]
        refine wpAnyH_ready (rs := [23]) (by kernel_rfl) (by simp) ?_
        refine AllReadyH.cons (List.getElem?_toArray.trans rfl) (fun K hK => ?_) (AllReadyH.nil)
        have hcv := run_toStr (P := Tryz.prog) T22 U9 IC.out
        go_simp
        try (go_wp2_with fail)
        refine hK.out _ _ ?_ (fun hHeld => ?_)
        · (try dsimp only)
          assumption
        clear hK K
        try simp only [Act.put, List.setIfInBounds_toArray, List.set_cons_zero, List.set_cons_succ]
        clear hcv IC
        refine wpAnyH_take (i := 26) (v := ?hve22_26) (List.getElem?_toArray.trans rfl) (by kernel_rfl) (by kernel_rfl) (by kernel_rfl) (fun _ _ _ h => h) (Or.inl ⟨by rfl, ?hye22_26⟩) (by assumption) ?hre22_26
        case hye22_26 => (intro wt hSw; (try dsimp only at hSw); go_simp; try (with_reducible rfl))
        try simp only [Act.put, List.setIfInBounds_toArray, List.set_cons_zero, List.set_cons_succ]
        refine wpAnyH_take (i := 27) (v := ?hve22_27) (List.getElem?_toArray.trans rfl) (by kernel_rfl) (by kernel_rfl) (by kernel_rfl) (fun _ _ _ h => h) (Or.inl ⟨by rfl, ?hye22_27⟩) (by assumption) ?hre22_27
        case hye22_27 => (intro wt hSw; (try dsimp only at hSw); go_simp; try (with_reducible rfl))
        try simp only [Act.put, List.setIfInBounds_toArray, List.set_cons_zero, List.set_cons_succ]
        refine wpAnyH_take (i := 28) (v := ?hve22_28) (List.getElem?_toArray.trans rfl) (by kernel_rfl) (by kernel_rfl) (by kernel_rfl) (fun _ _ _ h => h) (Or.inl ⟨by rfl, ?hye22_28⟩) (by assumption) ?hre22_28
        case hye22_28 => (intro wt hSw; (try dsimp only at hSw); go_simp; try (with_reducible rfl))
        try simp only [Act.put, List.setIfInBounds_toArray, List.set_cons_zero, List.set_cons_succ]
        refine wpAnyH_take (i := 29) (v := ?hve22_29) (List.getElem?_toArray.trans rfl) (by kernel_rfl) (by kernel_rfl) (by kernel_rfl) (fun _ _ _ h => h) (Or.inl ⟨by rfl, ?hye22_29⟩) (by assumption) ?hre22_29
        case hye22_29 => (intro wt hSw; (try dsimp only at hSw); go_simp; try (with_reducible rfl))
        try simp only [Act.put, List.setIfInBounds_toArray, List.set_cons_zero, List.set_cons_succ]
        refine wpAnyH_take (i := 30) (v := ?hve22_30) (List.getElem?_toArray.trans rfl) (by kernel_rfl) (by kernel_rfl) (by kernel_rfl) (fun _ _ _ h => h) (Or.inl ⟨by rfl, ?hye22_30⟩) (by assumption) ?hre22_30
        case hye22_30 => (intro wt hSw; (try dsimp only at hSw); go_simp; try (with_reducible rfl))
        try simp only [Act.put, List.setIfInBounds_toArray, List.set_cons_zero, List.set_cons_succ]
        refine wpAnyH_ready (rs := [31]) (by kernel_rfl) (by simp) ?_
        refine AllReadyH.cons (List.getElem?_toArray.trans rfl) (fun K hK => ?_) (AllReadyH.nil)
        go_simp
        go_at_call 10
        refine (C10.out _ ?_).mono ?_
        assumption
        rintro e vx ⟨rfl, kx⟩
        clear C10
        try (go_wp2_with fail)
        refine hK.out _ _ ?_ (fun hHeld => ?_)
        · (try dsimp only)
          assumption
        clear hK K
        try simp only [Act.put, List.setIfInBounds_toArray, List.set_cons_zero, List.set_cons_succ]
        refine wpAnyH_take (i := 32) (v := ?hve23_32) (List.getElem?_toArray.trans rfl) (by kernel_rfl) (by kernel_rfl) (by kernel_rfl) (fun _ _ _ h => h) (Or.inl ⟨by rfl, ?hye23_32⟩) (by assumption) ?hre23_32
        case hye23_32 => (intro wt hSw; (try dsimp only at hSw); go_simp; try (with_reducible rfl))
        try simp only [Act.put, List.setIfInBounds_toArray, List.set_cons_zero, List.set_cons_succ]
        refine wpAnyH_take (i := 33) (v := ?hve23_33) (List.getElem?_toArray.trans rfl) (by kernel_rfl) (by kernel_rfl) (by kernel_rfl) (fun _ _ _ h => h) (Or.inl ⟨by rfl, ?hye23_33⟩) (by assumption) ?hre23_33
        case hye23_33 => (intro wt hSw; (try dsimp only at hSw); go_simp; try (with_reducible rfl))
        try simp only [Act.put, List.setIfInBounds_toArray, List.set_cons_zero, List.set_cons_succ]
        refine wpAnyH_done (by kernel_rfl) ?_ _
        refine NoPanic.normal ?_
        go_wp2
        go_ret
        exact ⟨rfl, fin.out _ (by assumption)⟩
end Go.Proofs.YtbgockggbpmhnaaGreatDoor
namespace Go.Proofs.YtbgockggbpmhnaaGreatDoor.msgReads
open Go Go.ChangeShapes Go.WideShapes Go.ChangeAt Go.RowKit

set_option maxRecDepth 100000 in
theorem contract (H : Type) (enc : TypeId × Value → H) (W : World) (base : Nat) (args : Array Value) (ds gs : List (DataW H)) (before : List MemPlace)
    (hval : ∀ (j : Nat) t v, Tryz.f7.params[j]? = some t → args[j]? = some v → Value.okWide Tryz.prog W .any base t v)
    (hW : DataW.Whole enc Tryz.prog Tryz.f7.params.toList Rows.msgReadsSpec.vars false W args.toList ds gs before)
    (hz : (DataW.weightsEach Tryz.prog (Tryz.f7.params.toList ++ (OpenSpec.ofChange Rows.msgReadsSpec).bare.plain.varTypes Tryz.prog) (ds ++ gs)).all (· ≤ reachBytes) = true) (hL : laidMetH Tryz.prog Rows.msgReadsRow.laid W) :
    Calls Tryz.prog 7 args W fun e W' => ∃ v, e = .returned v ∧ Rows.msgReadsSpec.post enc Tryz.prog Tryz.f7 false true false false W args v W' := by
  have hW' := hW
  obtain ⟨p, q, hA0, hV, rfl, hfz, hnd⟩ := hW
  have hA : DataW.TrodAll enc Tryz.prog W 0 (fun _ => true) true Tryz.f7.params.toList args.toList ds p := hA0
  rw [Tryz.params7] at hA hval hz
  obtain ⟨v0, vs0, d0, ds0, p0, q0, hargs, rfl, rfl, h0, r0⟩ := trodAll_cons hA
  obtain ⟨rfl, rfl, rfl⟩ := trodAll_nil r0
  obtain rfl : args = #[v0] := by cases args; simp_all
  obtain ⟨rfl, rfl⟩ := trodVars_none hV
  have k0 := h0
  have lt0 : ∀ x ∈ p0, x.block < W.heap.size := by obtain ⟨m, hm⟩ := k0; exact DataW.trod_lt m _ _ _ hm
  obtain ⟨b0, n0, c0, rfl⟩ := okWide_slice Tryz.underlying22 (hval 0 22 v0 rfl rfl)
  obtain ⟨m0, hm0⟩ := h0
  obtain ⟨_, _, _, l0, hv0, hl0, hI0, hu0, hw0⟩ := open_bytes hm0
  simp only [Value.slice.injEq] at hv0
  obtain ⟨rfl, rfl, rfl⟩ := hv0
  clear hm0
  subst hl0
  have hlen : l0.length ≤ reachBytes := hw0 _ (List.all_eq_true.2 fun x hx => List.all_eq_true.1 hz _ (DataW.weights_mem_each (j := 0) rfl rfl x hx))
  have hroom : l0.length ≤ roomB := by
    have : reachBytes ≤ roomB := by decide
    omega
  clear hA0
  refine (msgReads_any b0 c0 l0 W (env_of_laid hL) hI0 hroom).mono fun e W' ⟨he, bel⟩ => ?_
  subst he
  exact ⟨_, rfl, _, _, _, [], _, [], hW', trodAll_mk1 (shut_bool Tryz.underlying4 _), (trodAll_cons_mk (Below.trod laidOut (by kernel_rfl) (of_decide_eq_true (by kernel_rfl)) k0 bel lt0) trodAll_mk0), rfl, bel.frame _, fun h => by cases h⟩

theorem reads (os : Os) {H : Type} (enc : TypeId × Value → H) : (DataW.whole enc Tryz.prog ((laidWorld os).forCall (fun _ _ => 0) ⟨#[], #[.slice none 0 0], []⟩).memory Tryz.f7.params.toList Rows.msgReadsSpec.vars false #[Value.slice none 0 0].toList 8).isSome = true := by
  kernel_rfl

set_option maxRecDepth 100000 in
theorem lifted (os : Os) (started : os.Started) (H : Type) (enc : TypeId × Value → H) (F : Stop.Interp) :
    ReturnsInHanded {} Tryz.checked os 7 .any ((OpenSpec.ofChange Rows.msgReadsSpec).preRow enc Tryz.prog Tryz.f7 Rows.msgReadsRow.domain false Rows.msgReadsRow.laid) (((OpenSpec.ofChange Rows.msgReadsSpec).at F).post enc Tryz.prog Tryz.f7 false true false false) := by
  obtain ⟨x, hx⟩ := Option.isSome_iff_exists.1 (reads os enc)
  refine returnsInHanded_of_row (C := Tryz.checked) (s := OpenSpec.ofChange Rows.msgReadsSpec) own started (by kernel_rfl) Tryz.func7
    (witness_row_at (enc := enc) (C := Tryz.checked) false (laidWorld os) #[.slice none 0 0] rfl (by kernel_rfl) (by kernel_rfl) (by kernel_rfl)
      (OpenSpec.preRow_of_cond 8 hx rfl (fun k hk => by cases hk) (by kernel_rfl) (laidWorld_met os _))) ?_
  intro W base args ds gs before hval hW _ _ hz hL _ _
  exact contract H enc W base args ds gs before hval hW hz hL

theorem said : Rows.MsgReadsSaid :=
  OpenClaim.holds_of_cond 7 Tryz.f7 rfl rfl rfl rfl rfl rfl rfl ⟨rfl, rfl, rfl, rfl, rfl⟩ rfl rfl rfl rfl rfl (by kernel_rfl) Tryz.func7 (by kernel_rfl)
    (of_decide_eq_true (by kernel_rfl)) (by unfold Func.isWrapper; first | (rw [if_pos (by decide +kernel)]; kernel_rfl) | (rw [if_neg (by decide +kernel)]; exact ⟨rfl, rfl⟩))
    (fun os started H enc _ F => by rw [OpenClaim.pre_eq_preRow]; exact lifted os started H enc F)

/-- No parameter wants a stand-in; the program's own looks are as the card says. -/
theorem plain (f : FuncId) (fn : Func) (hf : Tryz.pinned.checked.prog.funcNamed "tollbar/tollbarlaw11.MsgReads" = some f) (hfn : Tryz.pinned.checked.prog.funcs[f]? = some fn) :
    true = Tryz.pinned.checked.prog.looks [] ∧ ∀ (j : Nat) t, fn.params[j]? = some t → Tryz.pinned.checked.prog.wantsStandIn t = false := by
  obtain rfl : f = 7 := Option.some.inj ((show Tryz.prog.funcNamed "tollbar/tollbarlaw11.MsgReads" = some 7 by kernel_rfl).symm.trans hf) |>.symm
  obtain rfl : fn = Tryz.f7 := (Option.some.inj (Tryz.func7.symm.trans hfn)).symm
  refine ⟨by kernel_rfl, fun j t ht => ?_⟩
  rw [Tryz.params7] at ht
  obtain rfl : t = 22 := by simpa using Array.mem_of_getElem? ht
  exact (show Tryz.prog.wantsStandIn 22 = false by kernel_rfl)

/-- THE CARD. -/
theorem card : Rows.MsgReadsCardSaid :=
  Claim7.holds_tied_plain_at .later [] _ _ _ _ said (fun _ h => by cases h) (by kernel_rfl) (fun _ h => by cases h) msgReads_row_tie rfl ⟨rfl, rfl⟩ (by kernel_rfl) rfl plain (by kernel_rfl)
#print axioms card
end Go.Proofs.YtbgockggbpmhnaaGreatDoor.msgReads
