/-
  MsgBytes' walk.
  Conditions: the listed variables read as listed ('Env'); the message and the bytes read as such; the bytes, the message's and its entries' are at most 2^47 many.
-/
import Derived.Test.YtbgockggbpmhnaaGreatDoorMsgE
namespace Go.Proofs.YtbgockggbpmhnaaGreatDoor
open Go Go.RowKit

set_option maxRecDepth 100000 in
set_option maxHeartbeats 16000000 in
theorem msgBytes_may (x : RM) (hmay : PK.mayM x.msg)  (a : Option Addr) (c : Nat) (l : List UInt8) (w : World) (hE : Env w) (hf : x.Fit w) (hd : x.dn ≤ roomB) (hb : ∀ y ∈ x.es, y.n ≤ roomB) (hv : IsB w (.slice a l.length c) l) (hl47 : l.length ≤ roomB) :
    Calls Tryz.prog 3 #[x.val, .slice a l.length c] w fun e w' => e = .returned (.bool true) ∧ Below w.heap.size w w' := by
  have hback : ∀ m, PK.decM l = some m → l = PK.encM m ∧ PK.mayM m := fun m h => PK.decM_back h
  have hroom := PK.resM_room (r := PK.decM l) (fun m h => (hback m h).2)
  have HL := Lib.hid (fun (V : World) (b : Below w.heap.size w V) => longMsg_any x V (hf.below b) hb)
  have HM : Hid (∀ (V : World), Below w.heap.size w V → Calls Tryz.prog 15 #[x.val] V fun e w' => e = .returned (.bool true) ∧ Below V.heap.size V w') := fun V b => by
    have := rmay_any x V (hf.below b)
    rw [decide_eq_true hmay] at this
    exact this
  have HSu := Lib.hid (fun (V : World) (b : Below w.heap.size w V) => sure_any V (hE.below b))
  have hshort : x.long = false → (PK.encM x.msg).length + 1000 ≤ roomB ∧ x.en ≤ 1000 := fun h => short_room hf h
  have HG := Lib.hid (fun (V : World) (b : Below w.heap.size w V) (hn : x.en ≤ 1000) => giveMsg_any x V (hf.below b) hn hd hb)
  have HE2 := Lib.hid (fun (V : World) (b : Below w.heap.size w V) (hr : (PK.encM x.msg).length + 1000 ≤ roomB) => rencM_any x V (hf.below b) hr)
  have HEg : Hid (∀ (V : World) (y : RM), Below w.heap.size w V → y.Fit V → y.msg = x.msg → (PK.encM x.msg).length + 1000 ≤ roomB → Calls Tryz.prog 16 #[y.val] V fun e w' => RW V w' e (PK.encM x.msg)) := fun V y b hy hm hr => by
    rw [← hm] at hr ⊢
    exact encM_any y V (hE.below b) hy hr
  have HCk : Hid (∀ (V : World) (y : RM), y.Fit V → y.msg = x.msg → Calls Tryz.prog 13 #[y.val] V fun e w' => e = .returned (errV 0) ∧ Below V.heap.size V w') := fun V y hy hm => by
    rw [← hm] at hmay
    have := check_any y V hy
    rw [if_pos hmay] at this
    exact this
  have HD : Hid (∀ V, Below w.heap.size w V → Calls Tryz.prog 11 #[.slice a l.length c] V fun e w' => (∃ y : RM, e = .returned (.tuple #[y.val, errV (PK.errM (PK.decM l))]) ∧ y.Fit w' ∧ y.msg = PK.resM (PK.decM l)) ∧ Below V.heap.size V w') := fun V b => (decM_any a c l V (hE.below b) (hv.below b) hl47).mono fun _ _ h => h.uni
  have HR : Hid (∀ V, Below w.heap.size w V → Calls Tryz.prog 12 #[.slice a l.length c] V fun e w' => (∃ y : RM, e = .returned (.tuple #[y.val, intV (PK.errM (PK.decM l))]) ∧ y.Fit w' ∧ y.msg = PK.resM (PK.decM l)) ∧ Below V.heap.size V w') := fun V b => (rdecM_any a c l V (hv.below b) hl47).mono fun _ _ h => h.uni
  have HNum : Hid (∀ V, Below w.heap.size w V → Calls Tryz.prog 18 #[errV (PK.errM (PK.decM l))] V fun e w' => e = .returned (.int .i64 (PK.errM (PK.decM l) : Nat)) ∧ Below V.heap.size V w') := fun V b => num_any _ V (hE.below b)
  have HEn : Hid (∀ (V : World) (y : RM), Below w.heap.size w V → y.Fit V → y.msg = PK.resM (PK.decM l) → Calls Tryz.prog 16 #[y.val] V fun e w' => RW V w' e (PK.encM (PK.resM (PK.decM l)))) := fun V y b hy hm => by
    rw [← hm] at hroom ⊢
    exact encM_any y V (hE.below b) hy hroom
  have HRn : Hid (∀ (V : World) (y : RM), y.Fit V → y.msg = PK.resM (PK.decM l) → Calls Tryz.prog 17 #[y.val] V fun e w' => RW V w' e (PK.encM (PK.resM (PK.decM l)))) := fun V y hy hm => by
    rw [← hm] at hroom ⊢
    exact rencM_any y V hy hroom
  have HSh := Lib.hid hshort
  generalize x.long = LG at *
  have FM := Lib.hid hf
  obtain ⟨mkd, mfr, mto, mtm, mix, mlt, mcm, mro, mok, moff, mda, mdn, mdc, md, mea, men, mec, mes⟩ := x
  obtain ⟨msg, hmsg⟩ : ∃ m, m = RM.msg ⟨mkd, mfr, mto, mtm, mix, mlt, mcm, mro, mok, moff, mda, mdn, mdc, md, mea, men, mec, mes⟩ := ⟨_, rfl⟩
  rw [← hmsg] at HG HE2 HEg HSh HCk
  simp only [RM.val] at HL HG HE2 HM ⊢
  generalize PK.decM l = r at *
  clear hE hf hd hb hshort hmsg hv hl47 hback hroom hmay
  obtain ⟨W0, hW0⟩ : ∃ W, W = w.alloc (.cells #[.int .i64 mkd, .int .i64 mfr, .int .i64 mto, .int .i64 mtm, .int .i64 mix, .int .i64 mlt, .int .i64 mcm, .int .i64 mro, .bool mok, .int .i64 moff, .slice mda mdn mdc, .slice mea men mec] 25) := ⟨_, rfl⟩
  have g0 : Hid (W0.heap[w.heap.size]? = some (.cells #[.int .i64 mkd, .int .i64 mfr, .int .i64 mto, .int .i64 mtm, .int .i64 mix, .int .i64 mlt, .int .i64 mcm, .int .i64 mro, .bool mok, .int .i64 moff, .slice mda mdn mdc, .slice mea men mec] 25)) := Lib.hid (by rw [hW0]; exact heap_alloc_new _ _)
  have hB0 : Hid (Below w.heap.size w W0) := Lib.hid (by rw [hW0]; exact (Below.refl _ _).alloc (Nat.le_refl _) _)
  have HL1 := Lib.hid (HL.out W0 hB0.out)
  obtain ⟨⟨c0, c1, c2, c3, c4, c5, c6, c7, c8, c9, ca, cb⟩, _⟩ := cells12 g0.out
  cases LG with
  | true =>
    clear HL HG HE2 HSh HM HCk HD HR HNum HEn HRn HEg
    go_enter Tryz.func3, Tryz.ntmps3
    go_wp2_with fail
    rw [← hW0]
    clear hW0
    refine HL1.out.mono ?_
    rintro e w1 ⟨rfl, b1⟩
    have B1 : Hid (Below w.heap.size w w1) := hB0.out.trans (b1.mono hB0.out.size)
    have HS1 := Lib.hid (HSu.out w1 B1.out)
    clear HL1 b1 HSu c0 c1 c2 c3 c4 c5 c6 c7 c8 c9 ca cb
    go_wp2_with fail
    refine HS1.out.mono ?_
    rintro e w2 ⟨rfl, b2⟩
    have B2 : Hid (Below w.heap.size w w2) := B1.out.trans (b2.mono B1.out.size)
    clear HS1 b2
    go_wp2
    go_ret
    exact ⟨rfl, B2.out⟩
  | false =>
    obtain ⟨hr, hen⟩ := HSh.out rfl
    have HRm := Lib.hid hr
    have HEe := Lib.hid hen
    clear HL HSh hr hen
    go_enter Tryz.func3, Tryz.ntmps3
    go_wp2_with fail
    rw [← hW0]
    clear hW0
    refine HL1.out.mono ?_
    rintro e w1 ⟨rfl, b1⟩
    have G1 := Lib.hid ((b1.block _ (Array.getElem?_eq_some_iff.1 g0.out).1).trans g0.out)
    have B1 : Hid (Below w.heap.size w w1) := hB0.out.trans (b1.mono hB0.out.size)
    have HD1 := Lib.hid (HD.out w1 B1.out)
    clear HL1 b1 HD g0 hB0 c0 c1 c2 c3 c4 c5 c6 c7 c8 c9 ca cb
    obtain ⟨⟨c0, c1, c2, c3, c4, c5, c6, c7, c8, c9, ca, cb⟩, _⟩ := cells12 G1.out
    go_wp2_with fail
    refine HD1.out.mono ?_
    rintro e w2 ⟨⟨x, rfl, hx, hxm⟩, b2⟩
    have G2 := Lib.hid ((b2.block _ (Array.getElem?_eq_some_iff.1 G1.out).1).trans G1.out)
    have B2 : Hid (Below w.heap.size w w2) := B1.out.trans (b2.mono B1.out.size)
    have FX2 := Lib.hid hx
    have HXM := Lib.hid hxm
    clear HD1 b2 hx hxm G1 B1 c0 c1 c2 c3 c4 c5 c6 c7 c8 c9 ca cb
    obtain ⟨xkd, xfr, xto, xtm, xix, xlt, xcm, xro, xok, xoff, xda, xdn, xdc, xd, xea, xen, xec, xes⟩ := x
    simp only [RM.val]
    obtain ⟨Wa, hWa⟩ : ∃ W, W = w2.alloc (.cells #[.int .i64 xkd, .int .i64 xfr, .int .i64 xto, .int .i64 xtm, .int .i64 xix, .int .i64 xlt, .int .i64 xcm, .int .i64 xro, .bool xok, .int .i64 xoff, .slice xda xdn xdc, .slice xea xen xec] 30) := ⟨_, rfl⟩
    obtain ⟨Xb, hXb⟩ : ∃ Z, w2.heap.size = Z := ⟨_, rfl⟩
    have bWa : Below w2.heap.size w2 Wa := by rw [hWa]; exact (Below.refl _ _).alloc (Nat.le_refl _) _
    have gX0 : Wa.heap[Xb]? = some (.cells #[.int .i64 xkd, .int .i64 xfr, .int .i64 xto, .int .i64 xtm, .int .i64 xix, .int .i64 xlt, .int .i64 xcm, .int .i64 xro, .bool xok, .int .i64 xoff, .slice xda xdn xdc, .slice xea xen xec] 30) := by rw [hWa, ← hXb]; exact heap_alloc_new _ _
    have Ba : Hid (Below w.heap.size w Wa) := Lib.hid (B2.out.trans (bWa.mono B2.out.size))
    have GM := Lib.hid ((bWa.block _ (Array.getElem?_eq_some_iff.1 G2.out).1).trans G2.out)
    have FXa := Lib.hid (FX2.out.below bWa)
    have GX := Lib.hid gX0
    have HR1 := Lib.hid (HR.out Wa Ba.out)
    go_wp2_with fail
    rw [← hWa]
    try rw [hXb]
    clear hWa hXb bWa gX0 HR FX2 B2 G2
    refine HR1.out.mono ?_
    rintro e w3 ⟨⟨y, rfl, hy, hym⟩, b2⟩
    have hXlt : Xb < Wa.heap.size := (Array.getElem?_eq_some_iff.1 GX.out).1
    have hMlt : w.heap.size < Wa.heap.size := (Array.getElem?_eq_some_iff.1 GM.out).1
    obtain ⟨Wb, hWb⟩ : ∃ W, W = w3.alloc (.cells #[.int .i64 y.kd, .int .i64 y.fr, .int .i64 y.to, .int .i64 y.tm, .int .i64 y.ix, .int .i64 y.lt, .int .i64 y.cm, .int .i64 y.ro, .bool y.ok, .int .i64 y.off, .slice y.da y.dn y.dc, .slice y.ea y.en y.ec] 25) := ⟨_, rfl⟩
    obtain ⟨Yb, hYb⟩ : ∃ Z, w3.heap.size = Z := ⟨_, rfl⟩
    have bWb : Below w3.heap.size w3 Wb := by rw [hWb]; exact (Below.refl _ _).alloc (Nat.le_refl _) _
    have gY := heap_alloc_new w3 (.cells #[.int .i64 y.kd, .int .i64 y.fr, .int .i64 y.to, .int .i64 y.tm, .int .i64 y.ix, .int .i64 y.lt, .int .i64 y.cm, .int .i64 y.ro, .bool y.ok, .int .i64 y.off, .slice y.da y.dn y.dc, .slice y.ea y.en y.ec] 25)
    rw [← hWb, hYb] at gY
    have bab : Below Wa.heap.size Wa Wb := b2.trans (bWb.mono b2.size)
    have gXb := (bab.block _ hXlt).trans GX.out
    have gMb := (bab.block _ hMlt).trans GM.out
    have hXlb : Xb < Wb.heap.size := (Array.getElem?_eq_some_iff.1 gXb).1
    have hYlb : Yb < Wb.heap.size := (Array.getElem?_eq_some_iff.1 gY).1
    have hMlb : w.heap.size < Wb.heap.size := (Array.getElem?_eq_some_iff.1 gMb).1
    have Bb : Hid (Below w.heap.size w Wb) := Lib.hid (Ba.out.trans (bab.mono Ba.out.size))
    have FXb := Lib.hid (FXa.out.below bab)
    have FYb := Lib.hid (hy.below bWb)
    have HYM := Lib.hid hym
    clear hy hym bab hXlt hMlt FXa GX GM Ba b2 HR1
    obtain ⟨ykd, yfr, yto, ytm, yix, ylt, ycm, yro, yok, yoff, yda, ydn, ydc, yd, yea, yen, yec, yes⟩ := y
    simp only at hWb gY
    simp only [RM.val]
    obtain ⟨⟨c0, c1, c2, c3, c4, c5, c6, c7, c8, c9, ca, cb⟩, _⟩ := cells12 gMb
    obtain ⟨⟨p0, p1, p2, p3, p4, p5, p6, p7, p8, p9, pa, pb⟩, _⟩ := cells12 gXb
    obtain ⟨⟨q0, q1, q2, q3, q4, q5, q6, q7, q8, q9, qa, qb⟩, _⟩ := cells12 gY
    have cont : Hid (∀ V, Below Wb.heap.size Wb V → (Hid (Below Wb.heap.size Wb V) ∧ (V.cell? ⟨w.heap.size, 0, none⟩ = some (.int .i64 mkd) ∧ V.cell? ⟨w.heap.size, 1, none⟩ = some (.int .i64 mfr) ∧ V.cell? ⟨w.heap.size, 2, none⟩ = some (.int .i64 mto) ∧ V.cell? ⟨w.heap.size, 3, none⟩ = some (.int .i64 mtm) ∧ V.cell? ⟨w.heap.size, 4, none⟩ = some (.int .i64 mix) ∧ V.cell? ⟨w.heap.size, 5, none⟩ = some (.int .i64 mlt) ∧ V.cell? ⟨w.heap.size, 6, none⟩ = some (.int .i64 mcm) ∧ V.cell? ⟨w.heap.size, 7, none⟩ = some (.int .i64 mro) ∧ V.cell? ⟨w.heap.size, 8, none⟩ = some (.bool mok) ∧ V.cell? ⟨w.heap.size, 9, none⟩ = some (.int .i64 moff) ∧ V.cell? ⟨w.heap.size, 10, none⟩ = some (.slice mda mdn mdc) ∧ V.cell? ⟨w.heap.size, 11, none⟩ = some (.slice mea men mec)) ∧ (V.cell? ⟨Xb, 0, none⟩ = some (.int .i64 xkd) ∧ V.cell? ⟨Xb, 1, none⟩ = some (.int .i64 xfr) ∧ V.cell? ⟨Xb, 2, none⟩ = some (.int .i64 xto) ∧ V.cell? ⟨Xb, 3, none⟩ = some (.int .i64 xtm) ∧ V.cell? ⟨Xb, 4, none⟩ = some (.int .i64 xix) ∧ V.cell? ⟨Xb, 5, none⟩ = some (.int .i64 xlt) ∧ V.cell? ⟨Xb, 6, none⟩ = some (.int .i64 xcm) ∧ V.cell? ⟨Xb, 7, none⟩ = some (.int .i64 xro) ∧ V.cell? ⟨Xb, 8, none⟩ = some (.bool xok) ∧ V.cell? ⟨Xb, 9, none⟩ = some (.int .i64 xoff) ∧ V.cell? ⟨Xb, 10, none⟩ = some (.slice xda xdn xdc) ∧ V.cell? ⟨Xb, 11, none⟩ = some (.slice xea xen xec)) ∧ V.cell? ⟨Yb, 0, none⟩ = some (.int .i64 ykd) ∧ V.cell? ⟨Yb, 1, none⟩ = some (.int .i64 yfr) ∧ V.cell? ⟨Yb, 2, none⟩ = some (.int .i64 yto) ∧ V.cell? ⟨Yb, 3, none⟩ = some (.int .i64 ytm) ∧ V.cell? ⟨Yb, 4, none⟩ = some (.int .i64 yix) ∧ V.cell? ⟨Yb, 5, none⟩ = some (.int .i64 ylt) ∧ V.cell? ⟨Yb, 6, none⟩ = some (.int .i64 ycm) ∧ V.cell? ⟨Yb, 7, none⟩ = some (.int .i64 yro) ∧ V.cell? ⟨Yb, 8, none⟩ = some (.bool yok) ∧ V.cell? ⟨Yb, 9, none⟩ = some (.int .i64 yoff) ∧ V.cell? ⟨Yb, 10, none⟩ = some (.slice yda ydn ydc) ∧ V.cell? ⟨Yb, 11, none⟩ = some (.slice yea yen yec))) := fun V h => by
      have hk0 := h.block w.heap.size hMlb
      have hk := h.block Xb hXlb
      have hk2 := h.block Yb hYlb
      exact ⟨Lib.hid h, ⟨(World.cell?_of_block hk0).trans c0, (World.cell?_of_block hk0).trans c1, (World.cell?_of_block hk0).trans c2, (World.cell?_of_block hk0).trans c3, (World.cell?_of_block hk0).trans c4, (World.cell?_of_block hk0).trans c5, (World.cell?_of_block hk0).trans c6, (World.cell?_of_block hk0).trans c7, (World.cell?_of_block hk0).trans c8, (World.cell?_of_block hk0).trans c9, (World.cell?_of_block hk0).trans ca, (World.cell?_of_block hk0).trans cb⟩, ⟨(World.cell?_of_block hk).trans p0, (World.cell?_of_block hk).trans p1, (World.cell?_of_block hk).trans p2, (World.cell?_of_block hk).trans p3, (World.cell?_of_block hk).trans p4, (World.cell?_of_block hk).trans p5, (World.cell?_of_block hk).trans p6, (World.cell?_of_block hk).trans p7, (World.cell?_of_block hk).trans p8, (World.cell?_of_block hk).trans p9, (World.cell?_of_block hk).trans pa, (World.cell?_of_block hk).trans pb⟩, (World.cell?_of_block hk2).trans q0, (World.cell?_of_block hk2).trans q1, (World.cell?_of_block hk2).trans q2, (World.cell?_of_block hk2).trans q3, (World.cell?_of_block hk2).trans q4, (World.cell?_of_block hk2).trans q5, (World.cell?_of_block hk2).trans q6, (World.cell?_of_block hk2).trans q7, (World.cell?_of_block hk2).trans q8, (World.cell?_of_block hk2).trans q9, (World.cell?_of_block hk2).trans qa, (World.cell?_of_block hk2).trans qb⟩
    have fin : Hid (∀ V, (Hid (Below Wb.heap.size Wb V) ∧ (V.cell? ⟨w.heap.size, 0, none⟩ = some (.int .i64 mkd) ∧ V.cell? ⟨w.heap.size, 1, none⟩ = some (.int .i64 mfr) ∧ V.cell? ⟨w.heap.size, 2, none⟩ = some (.int .i64 mto) ∧ V.cell? ⟨w.heap.size, 3, none⟩ = some (.int .i64 mtm) ∧ V.cell? ⟨w.heap.size, 4, none⟩ = some (.int .i64 mix) ∧ V.cell? ⟨w.heap.size, 5, none⟩ = some (.int .i64 mlt) ∧ V.cell? ⟨w.heap.size, 6, none⟩ = some (.int .i64 mcm) ∧ V.cell? ⟨w.heap.size, 7, none⟩ = some (.int .i64 mro) ∧ V.cell? ⟨w.heap.size, 8, none⟩ = some (.bool mok) ∧ V.cell? ⟨w.heap.size, 9, none⟩ = some (.int .i64 moff) ∧ V.cell? ⟨w.heap.size, 10, none⟩ = some (.slice mda mdn mdc) ∧ V.cell? ⟨w.heap.size, 11, none⟩ = some (.slice mea men mec)) ∧ (V.cell? ⟨Xb, 0, none⟩ = some (.int .i64 xkd) ∧ V.cell? ⟨Xb, 1, none⟩ = some (.int .i64 xfr) ∧ V.cell? ⟨Xb, 2, none⟩ = some (.int .i64 xto) ∧ V.cell? ⟨Xb, 3, none⟩ = some (.int .i64 xtm) ∧ V.cell? ⟨Xb, 4, none⟩ = some (.int .i64 xix) ∧ V.cell? ⟨Xb, 5, none⟩ = some (.int .i64 xlt) ∧ V.cell? ⟨Xb, 6, none⟩ = some (.int .i64 xcm) ∧ V.cell? ⟨Xb, 7, none⟩ = some (.int .i64 xro) ∧ V.cell? ⟨Xb, 8, none⟩ = some (.bool xok) ∧ V.cell? ⟨Xb, 9, none⟩ = some (.int .i64 xoff) ∧ V.cell? ⟨Xb, 10, none⟩ = some (.slice xda xdn xdc) ∧ V.cell? ⟨Xb, 11, none⟩ = some (.slice xea xen xec)) ∧ V.cell? ⟨Yb, 0, none⟩ = some (.int .i64 ykd) ∧ V.cell? ⟨Yb, 1, none⟩ = some (.int .i64 yfr) ∧ V.cell? ⟨Yb, 2, none⟩ = some (.int .i64 yto) ∧ V.cell? ⟨Yb, 3, none⟩ = some (.int .i64 ytm) ∧ V.cell? ⟨Yb, 4, none⟩ = some (.int .i64 yix) ∧ V.cell? ⟨Yb, 5, none⟩ = some (.int .i64 ylt) ∧ V.cell? ⟨Yb, 6, none⟩ = some (.int .i64 ycm) ∧ V.cell? ⟨Yb, 7, none⟩ = some (.int .i64 yro) ∧ V.cell? ⟨Yb, 8, none⟩ = some (.bool yok) ∧ V.cell? ⟨Yb, 9, none⟩ = some (.int .i64 yoff) ∧ V.cell? ⟨Yb, 10, none⟩ = some (.slice yda ydn ydc) ∧ V.cell? ⟨Yb, 11, none⟩ = some (.slice yea yen yec)) → Below w.heap.size w V) := fun V h => Bb.out.trans (h.1.out.mono Bb.out.size)
    have step : Hid (∀ V V', (Hid (Below Wb.heap.size Wb V) ∧ (V.cell? ⟨w.heap.size, 0, none⟩ = some (.int .i64 mkd) ∧ V.cell? ⟨w.heap.size, 1, none⟩ = some (.int .i64 mfr) ∧ V.cell? ⟨w.heap.size, 2, none⟩ = some (.int .i64 mto) ∧ V.cell? ⟨w.heap.size, 3, none⟩ = some (.int .i64 mtm) ∧ V.cell? ⟨w.heap.size, 4, none⟩ = some (.int .i64 mix) ∧ V.cell? ⟨w.heap.size, 5, none⟩ = some (.int .i64 mlt) ∧ V.cell? ⟨w.heap.size, 6, none⟩ = some (.int .i64 mcm) ∧ V.cell? ⟨w.heap.size, 7, none⟩ = some (.int .i64 mro) ∧ V.cell? ⟨w.heap.size, 8, none⟩ = some (.bool mok) ∧ V.cell? ⟨w.heap.size, 9, none⟩ = some (.int .i64 moff) ∧ V.cell? ⟨w.heap.size, 10, none⟩ = some (.slice mda mdn mdc) ∧ V.cell? ⟨w.heap.size, 11, none⟩ = some (.slice mea men mec)) ∧ (V.cell? ⟨Xb, 0, none⟩ = some (.int .i64 xkd) ∧ V.cell? ⟨Xb, 1, none⟩ = some (.int .i64 xfr) ∧ V.cell? ⟨Xb, 2, none⟩ = some (.int .i64 xto) ∧ V.cell? ⟨Xb, 3, none⟩ = some (.int .i64 xtm) ∧ V.cell? ⟨Xb, 4, none⟩ = some (.int .i64 xix) ∧ V.cell? ⟨Xb, 5, none⟩ = some (.int .i64 xlt) ∧ V.cell? ⟨Xb, 6, none⟩ = some (.int .i64 xcm) ∧ V.cell? ⟨Xb, 7, none⟩ = some (.int .i64 xro) ∧ V.cell? ⟨Xb, 8, none⟩ = some (.bool xok) ∧ V.cell? ⟨Xb, 9, none⟩ = some (.int .i64 xoff) ∧ V.cell? ⟨Xb, 10, none⟩ = some (.slice xda xdn xdc) ∧ V.cell? ⟨Xb, 11, none⟩ = some (.slice xea xen xec)) ∧ V.cell? ⟨Yb, 0, none⟩ = some (.int .i64 ykd) ∧ V.cell? ⟨Yb, 1, none⟩ = some (.int .i64 yfr) ∧ V.cell? ⟨Yb, 2, none⟩ = some (.int .i64 yto) ∧ V.cell? ⟨Yb, 3, none⟩ = some (.int .i64 ytm) ∧ V.cell? ⟨Yb, 4, none⟩ = some (.int .i64 yix) ∧ V.cell? ⟨Yb, 5, none⟩ = some (.int .i64 ylt) ∧ V.cell? ⟨Yb, 6, none⟩ = some (.int .i64 ycm) ∧ V.cell? ⟨Yb, 7, none⟩ = some (.int .i64 yro) ∧ V.cell? ⟨Yb, 8, none⟩ = some (.bool yok) ∧ V.cell? ⟨Yb, 9, none⟩ = some (.int .i64 yoff) ∧ V.cell? ⟨Yb, 10, none⟩ = some (.slice yda ydn ydc) ∧ V.cell? ⟨Yb, 11, none⟩ = some (.slice yea yen yec)) → Below V.heap.size V V' → (Hid (Below Wb.heap.size Wb V') ∧ (V'.cell? ⟨w.heap.size, 0, none⟩ = some (.int .i64 mkd) ∧ V'.cell? ⟨w.heap.size, 1, none⟩ = some (.int .i64 mfr) ∧ V'.cell? ⟨w.heap.size, 2, none⟩ = some (.int .i64 mto) ∧ V'.cell? ⟨w.heap.size, 3, none⟩ = some (.int .i64 mtm) ∧ V'.cell? ⟨w.heap.size, 4, none⟩ = some (.int .i64 mix) ∧ V'.cell? ⟨w.heap.size, 5, none⟩ = some (.int .i64 mlt) ∧ V'.cell? ⟨w.heap.size, 6, none⟩ = some (.int .i64 mcm) ∧ V'.cell? ⟨w.heap.size, 7, none⟩ = some (.int .i64 mro) ∧ V'.cell? ⟨w.heap.size, 8, none⟩ = some (.bool mok) ∧ V'.cell? ⟨w.heap.size, 9, none⟩ = some (.int .i64 moff) ∧ V'.cell? ⟨w.heap.size, 10, none⟩ = some (.slice mda mdn mdc) ∧ V'.cell? ⟨w.heap.size, 11, none⟩ = some (.slice mea men mec)) ∧ (V'.cell? ⟨Xb, 0, none⟩ = some (.int .i64 xkd) ∧ V'.cell? ⟨Xb, 1, none⟩ = some (.int .i64 xfr) ∧ V'.cell? ⟨Xb, 2, none⟩ = some (.int .i64 xto) ∧ V'.cell? ⟨Xb, 3, none⟩ = some (.int .i64 xtm) ∧ V'.cell? ⟨Xb, 4, none⟩ = some (.int .i64 xix) ∧ V'.cell? ⟨Xb, 5, none⟩ = some (.int .i64 xlt) ∧ V'.cell? ⟨Xb, 6, none⟩ = some (.int .i64 xcm) ∧ V'.cell? ⟨Xb, 7, none⟩ = some (.int .i64 xro) ∧ V'.cell? ⟨Xb, 8, none⟩ = some (.bool xok) ∧ V'.cell? ⟨Xb, 9, none⟩ = some (.int .i64 xoff) ∧ V'.cell? ⟨Xb, 10, none⟩ = some (.slice xda xdn xdc) ∧ V'.cell? ⟨Xb, 11, none⟩ = some (.slice xea xen xec)) ∧ V'.cell? ⟨Yb, 0, none⟩ = some (.int .i64 ykd) ∧ V'.cell? ⟨Yb, 1, none⟩ = some (.int .i64 yfr) ∧ V'.cell? ⟨Yb, 2, none⟩ = some (.int .i64 yto) ∧ V'.cell? ⟨Yb, 3, none⟩ = some (.int .i64 ytm) ∧ V'.cell? ⟨Yb, 4, none⟩ = some (.int .i64 yix) ∧ V'.cell? ⟨Yb, 5, none⟩ = some (.int .i64 ylt) ∧ V'.cell? ⟨Yb, 6, none⟩ = some (.int .i64 ycm) ∧ V'.cell? ⟨Yb, 7, none⟩ = some (.int .i64 yro) ∧ V'.cell? ⟨Yb, 8, none⟩ = some (.bool yok) ∧ V'.cell? ⟨Yb, 9, none⟩ = some (.int .i64 yoff) ∧ V'.cell? ⟨Yb, 10, none⟩ = some (.slice yda ydn ydc) ∧ V'.cell? ⟨Yb, 11, none⟩ = some (.slice yea yen yec))) := fun V V' h b => cont.out V' (h.1.out.trans (b.mono h.1.out.size))
    have cv : Hid (∀ (Z : List UInt8) (V V' : World) (e : Ending), (Hid (Below Wb.heap.size Wb V) ∧ (V.cell? ⟨w.heap.size, 0, none⟩ = some (.int .i64 mkd) ∧ V.cell? ⟨w.heap.size, 1, none⟩ = some (.int .i64 mfr) ∧ V.cell? ⟨w.heap.size, 2, none⟩ = some (.int .i64 mto) ∧ V.cell? ⟨w.heap.size, 3, none⟩ = some (.int .i64 mtm) ∧ V.cell? ⟨w.heap.size, 4, none⟩ = some (.int .i64 mix) ∧ V.cell? ⟨w.heap.size, 5, none⟩ = some (.int .i64 mlt) ∧ V.cell? ⟨w.heap.size, 6, none⟩ = some (.int .i64 mcm) ∧ V.cell? ⟨w.heap.size, 7, none⟩ = some (.int .i64 mro) ∧ V.cell? ⟨w.heap.size, 8, none⟩ = some (.bool mok) ∧ V.cell? ⟨w.heap.size, 9, none⟩ = some (.int .i64 moff) ∧ V.cell? ⟨w.heap.size, 10, none⟩ = some (.slice mda mdn mdc) ∧ V.cell? ⟨w.heap.size, 11, none⟩ = some (.slice mea men mec)) ∧ (V.cell? ⟨Xb, 0, none⟩ = some (.int .i64 xkd) ∧ V.cell? ⟨Xb, 1, none⟩ = some (.int .i64 xfr) ∧ V.cell? ⟨Xb, 2, none⟩ = some (.int .i64 xto) ∧ V.cell? ⟨Xb, 3, none⟩ = some (.int .i64 xtm) ∧ V.cell? ⟨Xb, 4, none⟩ = some (.int .i64 xix) ∧ V.cell? ⟨Xb, 5, none⟩ = some (.int .i64 xlt) ∧ V.cell? ⟨Xb, 6, none⟩ = some (.int .i64 xcm) ∧ V.cell? ⟨Xb, 7, none⟩ = some (.int .i64 xro) ∧ V.cell? ⟨Xb, 8, none⟩ = some (.bool xok) ∧ V.cell? ⟨Xb, 9, none⟩ = some (.int .i64 xoff) ∧ V.cell? ⟨Xb, 10, none⟩ = some (.slice xda xdn xdc) ∧ V.cell? ⟨Xb, 11, none⟩ = some (.slice xea xen xec)) ∧ V.cell? ⟨Yb, 0, none⟩ = some (.int .i64 ykd) ∧ V.cell? ⟨Yb, 1, none⟩ = some (.int .i64 yfr) ∧ V.cell? ⟨Yb, 2, none⟩ = some (.int .i64 yto) ∧ V.cell? ⟨Yb, 3, none⟩ = some (.int .i64 ytm) ∧ V.cell? ⟨Yb, 4, none⟩ = some (.int .i64 yix) ∧ V.cell? ⟨Yb, 5, none⟩ = some (.int .i64 ylt) ∧ V.cell? ⟨Yb, 6, none⟩ = some (.int .i64 ycm) ∧ V.cell? ⟨Yb, 7, none⟩ = some (.int .i64 yro) ∧ V.cell? ⟨Yb, 8, none⟩ = some (.bool yok) ∧ V.cell? ⟨Yb, 9, none⟩ = some (.int .i64 yoff) ∧ V.cell? ⟨Yb, 10, none⟩ = some (.slice yda ydn ydc) ∧ V.cell? ⟨Yb, 11, none⟩ = some (.slice yea yen yec)) → RW V V' e Z → (∃ a n c, e = .returned (.slice a n c) ∧ Hid (IsB V' (.slice a n c) Z)) ∧ (Hid (Below Wb.heap.size Wb V') ∧ (V'.cell? ⟨w.heap.size, 0, none⟩ = some (.int .i64 mkd) ∧ V'.cell? ⟨w.heap.size, 1, none⟩ = some (.int .i64 mfr) ∧ V'.cell? ⟨w.heap.size, 2, none⟩ = some (.int .i64 mto) ∧ V'.cell? ⟨w.heap.size, 3, none⟩ = some (.int .i64 mtm) ∧ V'.cell? ⟨w.heap.size, 4, none⟩ = some (.int .i64 mix) ∧ V'.cell? ⟨w.heap.size, 5, none⟩ = some (.int .i64 mlt) ∧ V'.cell? ⟨w.heap.size, 6, none⟩ = some (.int .i64 mcm) ∧ V'.cell? ⟨w.heap.size, 7, none⟩ = some (.int .i64 mro) ∧ V'.cell? ⟨w.heap.size, 8, none⟩ = some (.bool mok) ∧ V'.cell? ⟨w.heap.size, 9, none⟩ = some (.int .i64 moff) ∧ V'.cell? ⟨w.heap.size, 10, none⟩ = some (.slice mda mdn mdc) ∧ V'.cell? ⟨w.heap.size, 11, none⟩ = some (.slice mea men mec)) ∧ (V'.cell? ⟨Xb, 0, none⟩ = some (.int .i64 xkd) ∧ V'.cell? ⟨Xb, 1, none⟩ = some (.int .i64 xfr) ∧ V'.cell? ⟨Xb, 2, none⟩ = some (.int .i64 xto) ∧ V'.cell? ⟨Xb, 3, none⟩ = some (.int .i64 xtm) ∧ V'.cell? ⟨Xb, 4, none⟩ = some (.int .i64 xix) ∧ V'.cell? ⟨Xb, 5, none⟩ = some (.int .i64 xlt) ∧ V'.cell? ⟨Xb, 6, none⟩ = some (.int .i64 xcm) ∧ V'.cell? ⟨Xb, 7, none⟩ = some (.int .i64 xro) ∧ V'.cell? ⟨Xb, 8, none⟩ = some (.bool xok) ∧ V'.cell? ⟨Xb, 9, none⟩ = some (.int .i64 xoff) ∧ V'.cell? ⟨Xb, 10, none⟩ = some (.slice xda xdn xdc) ∧ V'.cell? ⟨Xb, 11, none⟩ = some (.slice xea xen xec)) ∧ V'.cell? ⟨Yb, 0, none⟩ = some (.int .i64 ykd) ∧ V'.cell? ⟨Yb, 1, none⟩ = some (.int .i64 yfr) ∧ V'.cell? ⟨Yb, 2, none⟩ = some (.int .i64 yto) ∧ V'.cell? ⟨Yb, 3, none⟩ = some (.int .i64 ytm) ∧ V'.cell? ⟨Yb, 4, none⟩ = some (.int .i64 yix) ∧ V'.cell? ⟨Yb, 5, none⟩ = some (.int .i64 ylt) ∧ V'.cell? ⟨Yb, 6, none⟩ = some (.int .i64 ycm) ∧ V'.cell? ⟨Yb, 7, none⟩ = some (.int .i64 yro) ∧ V'.cell? ⟨Yb, 8, none⟩ = some (.bool yok) ∧ V'.cell? ⟨Yb, 9, none⟩ = some (.int .i64 yoff) ∧ V'.cell? ⟨Yb, 10, none⟩ = some (.slice yda ydn ydc) ∧ V'.cell? ⟨Yb, 11, none⟩ = some (.slice yea yen yec)) ∧ Hid (Below V.heap.size V V')) := fun Z V V' e h ⟨⟨a, n, c, e1, _, e2, _⟩, e3⟩ => ⟨⟨a, n, c, e1, Lib.hid e2.isB⟩, step.out V V' h e3, Lib.hid e3⟩
    have C18 : Hid (∀ V, (Hid (Below Wb.heap.size Wb V) ∧ (V.cell? ⟨w.heap.size, 0, none⟩ = some (.int .i64 mkd) ∧ V.cell? ⟨w.heap.size, 1, none⟩ = some (.int .i64 mfr) ∧ V.cell? ⟨w.heap.size, 2, none⟩ = some (.int .i64 mto) ∧ V.cell? ⟨w.heap.size, 3, none⟩ = some (.int .i64 mtm) ∧ V.cell? ⟨w.heap.size, 4, none⟩ = some (.int .i64 mix) ∧ V.cell? ⟨w.heap.size, 5, none⟩ = some (.int .i64 mlt) ∧ V.cell? ⟨w.heap.size, 6, none⟩ = some (.int .i64 mcm) ∧ V.cell? ⟨w.heap.size, 7, none⟩ = some (.int .i64 mro) ∧ V.cell? ⟨w.heap.size, 8, none⟩ = some (.bool mok) ∧ V.cell? ⟨w.heap.size, 9, none⟩ = some (.int .i64 moff) ∧ V.cell? ⟨w.heap.size, 10, none⟩ = some (.slice mda mdn mdc) ∧ V.cell? ⟨w.heap.size, 11, none⟩ = some (.slice mea men mec)) ∧ (V.cell? ⟨Xb, 0, none⟩ = some (.int .i64 xkd) ∧ V.cell? ⟨Xb, 1, none⟩ = some (.int .i64 xfr) ∧ V.cell? ⟨Xb, 2, none⟩ = some (.int .i64 xto) ∧ V.cell? ⟨Xb, 3, none⟩ = some (.int .i64 xtm) ∧ V.cell? ⟨Xb, 4, none⟩ = some (.int .i64 xix) ∧ V.cell? ⟨Xb, 5, none⟩ = some (.int .i64 xlt) ∧ V.cell? ⟨Xb, 6, none⟩ = some (.int .i64 xcm) ∧ V.cell? ⟨Xb, 7, none⟩ = some (.int .i64 xro) ∧ V.cell? ⟨Xb, 8, none⟩ = some (.bool xok) ∧ V.cell? ⟨Xb, 9, none⟩ = some (.int .i64 xoff) ∧ V.cell? ⟨Xb, 10, none⟩ = some (.slice xda xdn xdc) ∧ V.cell? ⟨Xb, 11, none⟩ = some (.slice xea xen xec)) ∧ V.cell? ⟨Yb, 0, none⟩ = some (.int .i64 ykd) ∧ V.cell? ⟨Yb, 1, none⟩ = some (.int .i64 yfr) ∧ V.cell? ⟨Yb, 2, none⟩ = some (.int .i64 yto) ∧ V.cell? ⟨Yb, 3, none⟩ = some (.int .i64 ytm) ∧ V.cell? ⟨Yb, 4, none⟩ = some (.int .i64 yix) ∧ V.cell? ⟨Yb, 5, none⟩ = some (.int .i64 ylt) ∧ V.cell? ⟨Yb, 6, none⟩ = some (.int .i64 ycm) ∧ V.cell? ⟨Yb, 7, none⟩ = some (.int .i64 yro) ∧ V.cell? ⟨Yb, 8, none⟩ = some (.bool yok) ∧ V.cell? ⟨Yb, 9, none⟩ = some (.int .i64 yoff) ∧ V.cell? ⟨Yb, 10, none⟩ = some (.slice yda ydn ydc) ∧ V.cell? ⟨Yb, 11, none⟩ = some (.slice yea yen yec)) → Calls Tryz.prog 18 #[errV (PK.errM r)] V fun e w' => e = .returned (.int .i64 (PK.errM r : Nat)) ∧ (Hid (Below Wb.heap.size Wb w') ∧ (w'.cell? ⟨w.heap.size, 0, none⟩ = some (.int .i64 mkd) ∧ w'.cell? ⟨w.heap.size, 1, none⟩ = some (.int .i64 mfr) ∧ w'.cell? ⟨w.heap.size, 2, none⟩ = some (.int .i64 mto) ∧ w'.cell? ⟨w.heap.size, 3, none⟩ = some (.int .i64 mtm) ∧ w'.cell? ⟨w.heap.size, 4, none⟩ = some (.int .i64 mix) ∧ w'.cell? ⟨w.heap.size, 5, none⟩ = some (.int .i64 mlt) ∧ w'.cell? ⟨w.heap.size, 6, none⟩ = some (.int .i64 mcm) ∧ w'.cell? ⟨w.heap.size, 7, none⟩ = some (.int .i64 mro) ∧ w'.cell? ⟨w.heap.size, 8, none⟩ = some (.bool mok) ∧ w'.cell? ⟨w.heap.size, 9, none⟩ = some (.int .i64 moff) ∧ w'.cell? ⟨w.heap.size, 10, none⟩ = some (.slice mda mdn mdc) ∧ w'.cell? ⟨w.heap.size, 11, none⟩ = some (.slice mea men mec)) ∧ (w'.cell? ⟨Xb, 0, none⟩ = some (.int .i64 xkd) ∧ w'.cell? ⟨Xb, 1, none⟩ = some (.int .i64 xfr) ∧ w'.cell? ⟨Xb, 2, none⟩ = some (.int .i64 xto) ∧ w'.cell? ⟨Xb, 3, none⟩ = some (.int .i64 xtm) ∧ w'.cell? ⟨Xb, 4, none⟩ = some (.int .i64 xix) ∧ w'.cell? ⟨Xb, 5, none⟩ = some (.int .i64 xlt) ∧ w'.cell? ⟨Xb, 6, none⟩ = some (.int .i64 xcm) ∧ w'.cell? ⟨Xb, 7, none⟩ = some (.int .i64 xro) ∧ w'.cell? ⟨Xb, 8, none⟩ = some (.bool xok) ∧ w'.cell? ⟨Xb, 9, none⟩ = some (.int .i64 xoff) ∧ w'.cell? ⟨Xb, 10, none⟩ = some (.slice xda xdn xdc) ∧ w'.cell? ⟨Xb, 11, none⟩ = some (.slice xea xen xec)) ∧ w'.cell? ⟨Yb, 0, none⟩ = some (.int .i64 ykd) ∧ w'.cell? ⟨Yb, 1, none⟩ = some (.int .i64 yfr) ∧ w'.cell? ⟨Yb, 2, none⟩ = some (.int .i64 yto) ∧ w'.cell? ⟨Yb, 3, none⟩ = some (.int .i64 ytm) ∧ w'.cell? ⟨Yb, 4, none⟩ = some (.int .i64 yix) ∧ w'.cell? ⟨Yb, 5, none⟩ = some (.int .i64 ylt) ∧ w'.cell? ⟨Yb, 6, none⟩ = some (.int .i64 ycm) ∧ w'.cell? ⟨Yb, 7, none⟩ = some (.int .i64 yro) ∧ w'.cell? ⟨Yb, 8, none⟩ = some (.bool yok) ∧ w'.cell? ⟨Yb, 9, none⟩ = some (.int .i64 yoff) ∧ w'.cell? ⟨Yb, 10, none⟩ = some (.slice yda ydn ydc) ∧ w'.cell? ⟨Yb, 11, none⟩ = some (.slice yea yen yec))) := fun V h => (HNum.out V (fin.out V h)).mono fun e w' ⟨e1, e2⟩ => ⟨e1, step.out V w' h e2⟩
    have C10 : Hid (∀ V, (Hid (Below Wb.heap.size Wb V) ∧ (V.cell? ⟨w.heap.size, 0, none⟩ = some (.int .i64 mkd) ∧ V.cell? ⟨w.heap.size, 1, none⟩ = some (.int .i64 mfr) ∧ V.cell? ⟨w.heap.size, 2, none⟩ = some (.int .i64 mto) ∧ V.cell? ⟨w.heap.size, 3, none⟩ = some (.int .i64 mtm) ∧ V.cell? ⟨w.heap.size, 4, none⟩ = some (.int .i64 mix) ∧ V.cell? ⟨w.heap.size, 5, none⟩ = some (.int .i64 mlt) ∧ V.cell? ⟨w.heap.size, 6, none⟩ = some (.int .i64 mcm) ∧ V.cell? ⟨w.heap.size, 7, none⟩ = some (.int .i64 mro) ∧ V.cell? ⟨w.heap.size, 8, none⟩ = some (.bool mok) ∧ V.cell? ⟨w.heap.size, 9, none⟩ = some (.int .i64 moff) ∧ V.cell? ⟨w.heap.size, 10, none⟩ = some (.slice mda mdn mdc) ∧ V.cell? ⟨w.heap.size, 11, none⟩ = some (.slice mea men mec)) ∧ (V.cell? ⟨Xb, 0, none⟩ = some (.int .i64 xkd) ∧ V.cell? ⟨Xb, 1, none⟩ = some (.int .i64 xfr) ∧ V.cell? ⟨Xb, 2, none⟩ = some (.int .i64 xto) ∧ V.cell? ⟨Xb, 3, none⟩ = some (.int .i64 xtm) ∧ V.cell? ⟨Xb, 4, none⟩ = some (.int .i64 xix) ∧ V.cell? ⟨Xb, 5, none⟩ = some (.int .i64 xlt) ∧ V.cell? ⟨Xb, 6, none⟩ = some (.int .i64 xcm) ∧ V.cell? ⟨Xb, 7, none⟩ = some (.int .i64 xro) ∧ V.cell? ⟨Xb, 8, none⟩ = some (.bool xok) ∧ V.cell? ⟨Xb, 9, none⟩ = some (.int .i64 xoff) ∧ V.cell? ⟨Xb, 10, none⟩ = some (.slice xda xdn xdc) ∧ V.cell? ⟨Xb, 11, none⟩ = some (.slice xea xen xec)) ∧ V.cell? ⟨Yb, 0, none⟩ = some (.int .i64 ykd) ∧ V.cell? ⟨Yb, 1, none⟩ = some (.int .i64 yfr) ∧ V.cell? ⟨Yb, 2, none⟩ = some (.int .i64 yto) ∧ V.cell? ⟨Yb, 3, none⟩ = some (.int .i64 ytm) ∧ V.cell? ⟨Yb, 4, none⟩ = some (.int .i64 yix) ∧ V.cell? ⟨Yb, 5, none⟩ = some (.int .i64 ylt) ∧ V.cell? ⟨Yb, 6, none⟩ = some (.int .i64 ycm) ∧ V.cell? ⟨Yb, 7, none⟩ = some (.int .i64 yro) ∧ V.cell? ⟨Yb, 8, none⟩ = some (.bool yok) ∧ V.cell? ⟨Yb, 9, none⟩ = some (.int .i64 yoff) ∧ V.cell? ⟨Yb, 10, none⟩ = some (.slice yda ydn ydc) ∧ V.cell? ⟨Yb, 11, none⟩ = some (.slice yea yen yec)) → Calls Tryz.prog 10 #[] V fun e w' => e = .returned (.bool true) ∧ (Hid (Below Wb.heap.size Wb w') ∧ (w'.cell? ⟨w.heap.size, 0, none⟩ = some (.int .i64 mkd) ∧ w'.cell? ⟨w.heap.size, 1, none⟩ = some (.int .i64 mfr) ∧ w'.cell? ⟨w.heap.size, 2, none⟩ = some (.int .i64 mto) ∧ w'.cell? ⟨w.heap.size, 3, none⟩ = some (.int .i64 mtm) ∧ w'.cell? ⟨w.heap.size, 4, none⟩ = some (.int .i64 mix) ∧ w'.cell? ⟨w.heap.size, 5, none⟩ = some (.int .i64 mlt) ∧ w'.cell? ⟨w.heap.size, 6, none⟩ = some (.int .i64 mcm) ∧ w'.cell? ⟨w.heap.size, 7, none⟩ = some (.int .i64 mro) ∧ w'.cell? ⟨w.heap.size, 8, none⟩ = some (.bool mok) ∧ w'.cell? ⟨w.heap.size, 9, none⟩ = some (.int .i64 moff) ∧ w'.cell? ⟨w.heap.size, 10, none⟩ = some (.slice mda mdn mdc) ∧ w'.cell? ⟨w.heap.size, 11, none⟩ = some (.slice mea men mec)) ∧ (w'.cell? ⟨Xb, 0, none⟩ = some (.int .i64 xkd) ∧ w'.cell? ⟨Xb, 1, none⟩ = some (.int .i64 xfr) ∧ w'.cell? ⟨Xb, 2, none⟩ = some (.int .i64 xto) ∧ w'.cell? ⟨Xb, 3, none⟩ = some (.int .i64 xtm) ∧ w'.cell? ⟨Xb, 4, none⟩ = some (.int .i64 xix) ∧ w'.cell? ⟨Xb, 5, none⟩ = some (.int .i64 xlt) ∧ w'.cell? ⟨Xb, 6, none⟩ = some (.int .i64 xcm) ∧ w'.cell? ⟨Xb, 7, none⟩ = some (.int .i64 xro) ∧ w'.cell? ⟨Xb, 8, none⟩ = some (.bool xok) ∧ w'.cell? ⟨Xb, 9, none⟩ = some (.int .i64 xoff) ∧ w'.cell? ⟨Xb, 10, none⟩ = some (.slice xda xdn xdc) ∧ w'.cell? ⟨Xb, 11, none⟩ = some (.slice xea xen xec)) ∧ w'.cell? ⟨Yb, 0, none⟩ = some (.int .i64 ykd) ∧ w'.cell? ⟨Yb, 1, none⟩ = some (.int .i64 yfr) ∧ w'.cell? ⟨Yb, 2, none⟩ = some (.int .i64 yto) ∧ w'.cell? ⟨Yb, 3, none⟩ = some (.int .i64 ytm) ∧ w'.cell? ⟨Yb, 4, none⟩ = some (.int .i64 yix) ∧ w'.cell? ⟨Yb, 5, none⟩ = some (.int .i64 ylt) ∧ w'.cell? ⟨Yb, 6, none⟩ = some (.int .i64 ycm) ∧ w'.cell? ⟨Yb, 7, none⟩ = some (.int .i64 yro) ∧ w'.cell? ⟨Yb, 8, none⟩ = some (.bool yok) ∧ w'.cell? ⟨Yb, 9, none⟩ = some (.int .i64 yoff) ∧ w'.cell? ⟨Yb, 10, none⟩ = some (.slice yda ydn ydc) ∧ w'.cell? ⟨Yb, 11, none⟩ = some (.slice yea yen yec))) := fun V h => (HSu.out V (fin.out V h)).mono fun e w' ⟨e1, e2⟩ => ⟨e1, step.out V w' h e2⟩
    have C14 : Hid (∀ V, (Hid (Below Wb.heap.size Wb V) ∧ (V.cell? ⟨w.heap.size, 0, none⟩ = some (.int .i64 mkd) ∧ V.cell? ⟨w.heap.size, 1, none⟩ = some (.int .i64 mfr) ∧ V.cell? ⟨w.heap.size, 2, none⟩ = some (.int .i64 mto) ∧ V.cell? ⟨w.heap.size, 3, none⟩ = some (.int .i64 mtm) ∧ V.cell? ⟨w.heap.size, 4, none⟩ = some (.int .i64 mix) ∧ V.cell? ⟨w.heap.size, 5, none⟩ = some (.int .i64 mlt) ∧ V.cell? ⟨w.heap.size, 6, none⟩ = some (.int .i64 mcm) ∧ V.cell? ⟨w.heap.size, 7, none⟩ = some (.int .i64 mro) ∧ V.cell? ⟨w.heap.size, 8, none⟩ = some (.bool mok) ∧ V.cell? ⟨w.heap.size, 9, none⟩ = some (.int .i64 moff) ∧ V.cell? ⟨w.heap.size, 10, none⟩ = some (.slice mda mdn mdc) ∧ V.cell? ⟨w.heap.size, 11, none⟩ = some (.slice mea men mec)) ∧ (V.cell? ⟨Xb, 0, none⟩ = some (.int .i64 xkd) ∧ V.cell? ⟨Xb, 1, none⟩ = some (.int .i64 xfr) ∧ V.cell? ⟨Xb, 2, none⟩ = some (.int .i64 xto) ∧ V.cell? ⟨Xb, 3, none⟩ = some (.int .i64 xtm) ∧ V.cell? ⟨Xb, 4, none⟩ = some (.int .i64 xix) ∧ V.cell? ⟨Xb, 5, none⟩ = some (.int .i64 xlt) ∧ V.cell? ⟨Xb, 6, none⟩ = some (.int .i64 xcm) ∧ V.cell? ⟨Xb, 7, none⟩ = some (.int .i64 xro) ∧ V.cell? ⟨Xb, 8, none⟩ = some (.bool xok) ∧ V.cell? ⟨Xb, 9, none⟩ = some (.int .i64 xoff) ∧ V.cell? ⟨Xb, 10, none⟩ = some (.slice xda xdn xdc) ∧ V.cell? ⟨Xb, 11, none⟩ = some (.slice xea xen xec)) ∧ V.cell? ⟨Yb, 0, none⟩ = some (.int .i64 ykd) ∧ V.cell? ⟨Yb, 1, none⟩ = some (.int .i64 yfr) ∧ V.cell? ⟨Yb, 2, none⟩ = some (.int .i64 yto) ∧ V.cell? ⟨Yb, 3, none⟩ = some (.int .i64 ytm) ∧ V.cell? ⟨Yb, 4, none⟩ = some (.int .i64 yix) ∧ V.cell? ⟨Yb, 5, none⟩ = some (.int .i64 ylt) ∧ V.cell? ⟨Yb, 6, none⟩ = some (.int .i64 ycm) ∧ V.cell? ⟨Yb, 7, none⟩ = some (.int .i64 yro) ∧ V.cell? ⟨Yb, 8, none⟩ = some (.bool yok) ∧ V.cell? ⟨Yb, 9, none⟩ = some (.int .i64 yoff) ∧ V.cell? ⟨Yb, 10, none⟩ = some (.slice yda ydn ydc) ∧ V.cell? ⟨Yb, 11, none⟩ = some (.slice yea yen yec)) → Calls Tryz.prog 14 #[.agg #[.int .i64 mkd, .int .i64 mfr, .int .i64 mto, .int .i64 mtm, .int .i64 mix, .int .i64 mlt, .int .i64 mcm, .int .i64 mro, .bool mok, .int .i64 moff, .slice mda mdn mdc, .slice mea men mec]] V fun e w' => (∃ y : RM, e = .returned y.val ∧ Hid (y.Fit w' ∧ y.msg = msg)) ∧ (Hid (Below Wb.heap.size Wb w') ∧ (w'.cell? ⟨w.heap.size, 0, none⟩ = some (.int .i64 mkd) ∧ w'.cell? ⟨w.heap.size, 1, none⟩ = some (.int .i64 mfr) ∧ w'.cell? ⟨w.heap.size, 2, none⟩ = some (.int .i64 mto) ∧ w'.cell? ⟨w.heap.size, 3, none⟩ = some (.int .i64 mtm) ∧ w'.cell? ⟨w.heap.size, 4, none⟩ = some (.int .i64 mix) ∧ w'.cell? ⟨w.heap.size, 5, none⟩ = some (.int .i64 mlt) ∧ w'.cell? ⟨w.heap.size, 6, none⟩ = some (.int .i64 mcm) ∧ w'.cell? ⟨w.heap.size, 7, none⟩ = some (.int .i64 mro) ∧ w'.cell? ⟨w.heap.size, 8, none⟩ = some (.bool mok) ∧ w'.cell? ⟨w.heap.size, 9, none⟩ = some (.int .i64 moff) ∧ w'.cell? ⟨w.heap.size, 10, none⟩ = some (.slice mda mdn mdc) ∧ w'.cell? ⟨w.heap.size, 11, none⟩ = some (.slice mea men mec)) ∧ (w'.cell? ⟨Xb, 0, none⟩ = some (.int .i64 xkd) ∧ w'.cell? ⟨Xb, 1, none⟩ = some (.int .i64 xfr) ∧ w'.cell? ⟨Xb, 2, none⟩ = some (.int .i64 xto) ∧ w'.cell? ⟨Xb, 3, none⟩ = some (.int .i64 xtm) ∧ w'.cell? ⟨Xb, 4, none⟩ = some (.int .i64 xix) ∧ w'.cell? ⟨Xb, 5, none⟩ = some (.int .i64 xlt) ∧ w'.cell? ⟨Xb, 6, none⟩ = some (.int .i64 xcm) ∧ w'.cell? ⟨Xb, 7, none⟩ = some (.int .i64 xro) ∧ w'.cell? ⟨Xb, 8, none⟩ = some (.bool xok) ∧ w'.cell? ⟨Xb, 9, none⟩ = some (.int .i64 xoff) ∧ w'.cell? ⟨Xb, 10, none⟩ = some (.slice xda xdn xdc) ∧ w'.cell? ⟨Xb, 11, none⟩ = some (.slice xea xen xec)) ∧ w'.cell? ⟨Yb, 0, none⟩ = some (.int .i64 ykd) ∧ w'.cell? ⟨Yb, 1, none⟩ = some (.int .i64 yfr) ∧ w'.cell? ⟨Yb, 2, none⟩ = some (.int .i64 yto) ∧ w'.cell? ⟨Yb, 3, none⟩ = some (.int .i64 ytm) ∧ w'.cell? ⟨Yb, 4, none⟩ = some (.int .i64 yix) ∧ w'.cell? ⟨Yb, 5, none⟩ = some (.int .i64 ylt) ∧ w'.cell? ⟨Yb, 6, none⟩ = some (.int .i64 ycm) ∧ w'.cell? ⟨Yb, 7, none⟩ = some (.int .i64 yro) ∧ w'.cell? ⟨Yb, 8, none⟩ = some (.bool yok) ∧ w'.cell? ⟨Yb, 9, none⟩ = some (.int .i64 yoff) ∧ w'.cell? ⟨Yb, 10, none⟩ = some (.slice yda ydn ydc) ∧ w'.cell? ⟨Yb, 11, none⟩ = some (.slice yea yen yec))) := fun V h => (HG.out V (fin.out V h) HEe.out).mono fun e w' ⟨⟨y, e1, e2, e3⟩, e4⟩ => ⟨⟨y, e1, Lib.hid ⟨e2, e3⟩⟩, step.out V w' h e4⟩
    have C13 : Hid (∀ V (y : RM), (Hid (Below Wb.heap.size Wb V) ∧ (V.cell? ⟨w.heap.size, 0, none⟩ = some (.int .i64 mkd) ∧ V.cell? ⟨w.heap.size, 1, none⟩ = some (.int .i64 mfr) ∧ V.cell? ⟨w.heap.size, 2, none⟩ = some (.int .i64 mto) ∧ V.cell? ⟨w.heap.size, 3, none⟩ = some (.int .i64 mtm) ∧ V.cell? ⟨w.heap.size, 4, none⟩ = some (.int .i64 mix) ∧ V.cell? ⟨w.heap.size, 5, none⟩ = some (.int .i64 mlt) ∧ V.cell? ⟨w.heap.size, 6, none⟩ = some (.int .i64 mcm) ∧ V.cell? ⟨w.heap.size, 7, none⟩ = some (.int .i64 mro) ∧ V.cell? ⟨w.heap.size, 8, none⟩ = some (.bool mok) ∧ V.cell? ⟨w.heap.size, 9, none⟩ = some (.int .i64 moff) ∧ V.cell? ⟨w.heap.size, 10, none⟩ = some (.slice mda mdn mdc) ∧ V.cell? ⟨w.heap.size, 11, none⟩ = some (.slice mea men mec)) ∧ (V.cell? ⟨Xb, 0, none⟩ = some (.int .i64 xkd) ∧ V.cell? ⟨Xb, 1, none⟩ = some (.int .i64 xfr) ∧ V.cell? ⟨Xb, 2, none⟩ = some (.int .i64 xto) ∧ V.cell? ⟨Xb, 3, none⟩ = some (.int .i64 xtm) ∧ V.cell? ⟨Xb, 4, none⟩ = some (.int .i64 xix) ∧ V.cell? ⟨Xb, 5, none⟩ = some (.int .i64 xlt) ∧ V.cell? ⟨Xb, 6, none⟩ = some (.int .i64 xcm) ∧ V.cell? ⟨Xb, 7, none⟩ = some (.int .i64 xro) ∧ V.cell? ⟨Xb, 8, none⟩ = some (.bool xok) ∧ V.cell? ⟨Xb, 9, none⟩ = some (.int .i64 xoff) ∧ V.cell? ⟨Xb, 10, none⟩ = some (.slice xda xdn xdc) ∧ V.cell? ⟨Xb, 11, none⟩ = some (.slice xea xen xec)) ∧ V.cell? ⟨Yb, 0, none⟩ = some (.int .i64 ykd) ∧ V.cell? ⟨Yb, 1, none⟩ = some (.int .i64 yfr) ∧ V.cell? ⟨Yb, 2, none⟩ = some (.int .i64 yto) ∧ V.cell? ⟨Yb, 3, none⟩ = some (.int .i64 ytm) ∧ V.cell? ⟨Yb, 4, none⟩ = some (.int .i64 yix) ∧ V.cell? ⟨Yb, 5, none⟩ = some (.int .i64 ylt) ∧ V.cell? ⟨Yb, 6, none⟩ = some (.int .i64 ycm) ∧ V.cell? ⟨Yb, 7, none⟩ = some (.int .i64 yro) ∧ V.cell? ⟨Yb, 8, none⟩ = some (.bool yok) ∧ V.cell? ⟨Yb, 9, none⟩ = some (.int .i64 yoff) ∧ V.cell? ⟨Yb, 10, none⟩ = some (.slice yda ydn ydc) ∧ V.cell? ⟨Yb, 11, none⟩ = some (.slice yea yen yec)) → Hid (y.Fit V ∧ y.msg = msg) → Calls Tryz.prog 13 #[y.val] V fun e w' => e = .returned (errV 0) ∧ (Hid (Below Wb.heap.size Wb w') ∧ (w'.cell? ⟨w.heap.size, 0, none⟩ = some (.int .i64 mkd) ∧ w'.cell? ⟨w.heap.size, 1, none⟩ = some (.int .i64 mfr) ∧ w'.cell? ⟨w.heap.size, 2, none⟩ = some (.int .i64 mto) ∧ w'.cell? ⟨w.heap.size, 3, none⟩ = some (.int .i64 mtm) ∧ w'.cell? ⟨w.heap.size, 4, none⟩ = some (.int .i64 mix) ∧ w'.cell? ⟨w.heap.size, 5, none⟩ = some (.int .i64 mlt) ∧ w'.cell? ⟨w.heap.size, 6, none⟩ = some (.int .i64 mcm) ∧ w'.cell? ⟨w.heap.size, 7, none⟩ = some (.int .i64 mro) ∧ w'.cell? ⟨w.heap.size, 8, none⟩ = some (.bool mok) ∧ w'.cell? ⟨w.heap.size, 9, none⟩ = some (.int .i64 moff) ∧ w'.cell? ⟨w.heap.size, 10, none⟩ = some (.slice mda mdn mdc) ∧ w'.cell? ⟨w.heap.size, 11, none⟩ = some (.slice mea men mec)) ∧ (w'.cell? ⟨Xb, 0, none⟩ = some (.int .i64 xkd) ∧ w'.cell? ⟨Xb, 1, none⟩ = some (.int .i64 xfr) ∧ w'.cell? ⟨Xb, 2, none⟩ = some (.int .i64 xto) ∧ w'.cell? ⟨Xb, 3, none⟩ = some (.int .i64 xtm) ∧ w'.cell? ⟨Xb, 4, none⟩ = some (.int .i64 xix) ∧ w'.cell? ⟨Xb, 5, none⟩ = some (.int .i64 xlt) ∧ w'.cell? ⟨Xb, 6, none⟩ = some (.int .i64 xcm) ∧ w'.cell? ⟨Xb, 7, none⟩ = some (.int .i64 xro) ∧ w'.cell? ⟨Xb, 8, none⟩ = some (.bool xok) ∧ w'.cell? ⟨Xb, 9, none⟩ = some (.int .i64 xoff) ∧ w'.cell? ⟨Xb, 10, none⟩ = some (.slice xda xdn xdc) ∧ w'.cell? ⟨Xb, 11, none⟩ = some (.slice xea xen xec)) ∧ w'.cell? ⟨Yb, 0, none⟩ = some (.int .i64 ykd) ∧ w'.cell? ⟨Yb, 1, none⟩ = some (.int .i64 yfr) ∧ w'.cell? ⟨Yb, 2, none⟩ = some (.int .i64 yto) ∧ w'.cell? ⟨Yb, 3, none⟩ = some (.int .i64 ytm) ∧ w'.cell? ⟨Yb, 4, none⟩ = some (.int .i64 yix) ∧ w'.cell? ⟨Yb, 5, none⟩ = some (.int .i64 ylt) ∧ w'.cell? ⟨Yb, 6, none⟩ = some (.int .i64 ycm) ∧ w'.cell? ⟨Yb, 7, none⟩ = some (.int .i64 yro) ∧ w'.cell? ⟨Yb, 8, none⟩ = some (.bool yok) ∧ w'.cell? ⟨Yb, 9, none⟩ = some (.int .i64 yoff) ∧ w'.cell? ⟨Yb, 10, none⟩ = some (.slice yda ydn ydc) ∧ w'.cell? ⟨Yb, 11, none⟩ = some (.slice yea yen yec))) := fun V y h hy => (HCk.out V y hy.out.1 hy.out.2).mono fun e w' ⟨e1, e2⟩ => ⟨e1, step.out V w' h e2⟩
    have C15 : Hid (∀ V, (Hid (Below Wb.heap.size Wb V) ∧ (V.cell? ⟨w.heap.size, 0, none⟩ = some (.int .i64 mkd) ∧ V.cell? ⟨w.heap.size, 1, none⟩ = some (.int .i64 mfr) ∧ V.cell? ⟨w.heap.size, 2, none⟩ = some (.int .i64 mto) ∧ V.cell? ⟨w.heap.size, 3, none⟩ = some (.int .i64 mtm) ∧ V.cell? ⟨w.heap.size, 4, none⟩ = some (.int .i64 mix) ∧ V.cell? ⟨w.heap.size, 5, none⟩ = some (.int .i64 mlt) ∧ V.cell? ⟨w.heap.size, 6, none⟩ = some (.int .i64 mcm) ∧ V.cell? ⟨w.heap.size, 7, none⟩ = some (.int .i64 mro) ∧ V.cell? ⟨w.heap.size, 8, none⟩ = some (.bool mok) ∧ V.cell? ⟨w.heap.size, 9, none⟩ = some (.int .i64 moff) ∧ V.cell? ⟨w.heap.size, 10, none⟩ = some (.slice mda mdn mdc) ∧ V.cell? ⟨w.heap.size, 11, none⟩ = some (.slice mea men mec)) ∧ (V.cell? ⟨Xb, 0, none⟩ = some (.int .i64 xkd) ∧ V.cell? ⟨Xb, 1, none⟩ = some (.int .i64 xfr) ∧ V.cell? ⟨Xb, 2, none⟩ = some (.int .i64 xto) ∧ V.cell? ⟨Xb, 3, none⟩ = some (.int .i64 xtm) ∧ V.cell? ⟨Xb, 4, none⟩ = some (.int .i64 xix) ∧ V.cell? ⟨Xb, 5, none⟩ = some (.int .i64 xlt) ∧ V.cell? ⟨Xb, 6, none⟩ = some (.int .i64 xcm) ∧ V.cell? ⟨Xb, 7, none⟩ = some (.int .i64 xro) ∧ V.cell? ⟨Xb, 8, none⟩ = some (.bool xok) ∧ V.cell? ⟨Xb, 9, none⟩ = some (.int .i64 xoff) ∧ V.cell? ⟨Xb, 10, none⟩ = some (.slice xda xdn xdc) ∧ V.cell? ⟨Xb, 11, none⟩ = some (.slice xea xen xec)) ∧ V.cell? ⟨Yb, 0, none⟩ = some (.int .i64 ykd) ∧ V.cell? ⟨Yb, 1, none⟩ = some (.int .i64 yfr) ∧ V.cell? ⟨Yb, 2, none⟩ = some (.int .i64 yto) ∧ V.cell? ⟨Yb, 3, none⟩ = some (.int .i64 ytm) ∧ V.cell? ⟨Yb, 4, none⟩ = some (.int .i64 yix) ∧ V.cell? ⟨Yb, 5, none⟩ = some (.int .i64 ylt) ∧ V.cell? ⟨Yb, 6, none⟩ = some (.int .i64 ycm) ∧ V.cell? ⟨Yb, 7, none⟩ = some (.int .i64 yro) ∧ V.cell? ⟨Yb, 8, none⟩ = some (.bool yok) ∧ V.cell? ⟨Yb, 9, none⟩ = some (.int .i64 yoff) ∧ V.cell? ⟨Yb, 10, none⟩ = some (.slice yda ydn ydc) ∧ V.cell? ⟨Yb, 11, none⟩ = some (.slice yea yen yec)) → Calls Tryz.prog 15 #[.agg #[.int .i64 mkd, .int .i64 mfr, .int .i64 mto, .int .i64 mtm, .int .i64 mix, .int .i64 mlt, .int .i64 mcm, .int .i64 mro, .bool mok, .int .i64 moff, .slice mda mdn mdc, .slice mea men mec]] V fun e w' => e = .returned (.bool true) ∧ (Hid (Below Wb.heap.size Wb w') ∧ (w'.cell? ⟨w.heap.size, 0, none⟩ = some (.int .i64 mkd) ∧ w'.cell? ⟨w.heap.size, 1, none⟩ = some (.int .i64 mfr) ∧ w'.cell? ⟨w.heap.size, 2, none⟩ = some (.int .i64 mto) ∧ w'.cell? ⟨w.heap.size, 3, none⟩ = some (.int .i64 mtm) ∧ w'.cell? ⟨w.heap.size, 4, none⟩ = some (.int .i64 mix) ∧ w'.cell? ⟨w.heap.size, 5, none⟩ = some (.int .i64 mlt) ∧ w'.cell? ⟨w.heap.size, 6, none⟩ = some (.int .i64 mcm) ∧ w'.cell? ⟨w.heap.size, 7, none⟩ = some (.int .i64 mro) ∧ w'.cell? ⟨w.heap.size, 8, none⟩ = some (.bool mok) ∧ w'.cell? ⟨w.heap.size, 9, none⟩ = some (.int .i64 moff) ∧ w'.cell? ⟨w.heap.size, 10, none⟩ = some (.slice mda mdn mdc) ∧ w'.cell? ⟨w.heap.size, 11, none⟩ = some (.slice mea men mec)) ∧ (w'.cell? ⟨Xb, 0, none⟩ = some (.int .i64 xkd) ∧ w'.cell? ⟨Xb, 1, none⟩ = some (.int .i64 xfr) ∧ w'.cell? ⟨Xb, 2, none⟩ = some (.int .i64 xto) ∧ w'.cell? ⟨Xb, 3, none⟩ = some (.int .i64 xtm) ∧ w'.cell? ⟨Xb, 4, none⟩ = some (.int .i64 xix) ∧ w'.cell? ⟨Xb, 5, none⟩ = some (.int .i64 xlt) ∧ w'.cell? ⟨Xb, 6, none⟩ = some (.int .i64 xcm) ∧ w'.cell? ⟨Xb, 7, none⟩ = some (.int .i64 xro) ∧ w'.cell? ⟨Xb, 8, none⟩ = some (.bool xok) ∧ w'.cell? ⟨Xb, 9, none⟩ = some (.int .i64 xoff) ∧ w'.cell? ⟨Xb, 10, none⟩ = some (.slice xda xdn xdc) ∧ w'.cell? ⟨Xb, 11, none⟩ = some (.slice xea xen xec)) ∧ w'.cell? ⟨Yb, 0, none⟩ = some (.int .i64 ykd) ∧ w'.cell? ⟨Yb, 1, none⟩ = some (.int .i64 yfr) ∧ w'.cell? ⟨Yb, 2, none⟩ = some (.int .i64 yto) ∧ w'.cell? ⟨Yb, 3, none⟩ = some (.int .i64 ytm) ∧ w'.cell? ⟨Yb, 4, none⟩ = some (.int .i64 yix) ∧ w'.cell? ⟨Yb, 5, none⟩ = some (.int .i64 ylt) ∧ w'.cell? ⟨Yb, 6, none⟩ = some (.int .i64 ycm) ∧ w'.cell? ⟨Yb, 7, none⟩ = some (.int .i64 yro) ∧ w'.cell? ⟨Yb, 8, none⟩ = some (.bool yok) ∧ w'.cell? ⟨Yb, 9, none⟩ = some (.int .i64 yoff) ∧ w'.cell? ⟨Yb, 10, none⟩ = some (.slice yda ydn ydc) ∧ w'.cell? ⟨Yb, 11, none⟩ = some (.slice yea yen yec))) := fun V h => (HM.out V (fin.out V h)).mono fun e w' ⟨e1, e2⟩ => ⟨e1, step.out V w' h e2⟩
    have C11 : Hid (∀ V (y : RM), (Hid (Below Wb.heap.size Wb V) ∧ (V.cell? ⟨w.heap.size, 0, none⟩ = some (.int .i64 mkd) ∧ V.cell? ⟨w.heap.size, 1, none⟩ = some (.int .i64 mfr) ∧ V.cell? ⟨w.heap.size, 2, none⟩ = some (.int .i64 mto) ∧ V.cell? ⟨w.heap.size, 3, none⟩ = some (.int .i64 mtm) ∧ V.cell? ⟨w.heap.size, 4, none⟩ = some (.int .i64 mix) ∧ V.cell? ⟨w.heap.size, 5, none⟩ = some (.int .i64 mlt) ∧ V.cell? ⟨w.heap.size, 6, none⟩ = some (.int .i64 mcm) ∧ V.cell? ⟨w.heap.size, 7, none⟩ = some (.int .i64 mro) ∧ V.cell? ⟨w.heap.size, 8, none⟩ = some (.bool mok) ∧ V.cell? ⟨w.heap.size, 9, none⟩ = some (.int .i64 moff) ∧ V.cell? ⟨w.heap.size, 10, none⟩ = some (.slice mda mdn mdc) ∧ V.cell? ⟨w.heap.size, 11, none⟩ = some (.slice mea men mec)) ∧ (V.cell? ⟨Xb, 0, none⟩ = some (.int .i64 xkd) ∧ V.cell? ⟨Xb, 1, none⟩ = some (.int .i64 xfr) ∧ V.cell? ⟨Xb, 2, none⟩ = some (.int .i64 xto) ∧ V.cell? ⟨Xb, 3, none⟩ = some (.int .i64 xtm) ∧ V.cell? ⟨Xb, 4, none⟩ = some (.int .i64 xix) ∧ V.cell? ⟨Xb, 5, none⟩ = some (.int .i64 xlt) ∧ V.cell? ⟨Xb, 6, none⟩ = some (.int .i64 xcm) ∧ V.cell? ⟨Xb, 7, none⟩ = some (.int .i64 xro) ∧ V.cell? ⟨Xb, 8, none⟩ = some (.bool xok) ∧ V.cell? ⟨Xb, 9, none⟩ = some (.int .i64 xoff) ∧ V.cell? ⟨Xb, 10, none⟩ = some (.slice xda xdn xdc) ∧ V.cell? ⟨Xb, 11, none⟩ = some (.slice xea xen xec)) ∧ V.cell? ⟨Yb, 0, none⟩ = some (.int .i64 ykd) ∧ V.cell? ⟨Yb, 1, none⟩ = some (.int .i64 yfr) ∧ V.cell? ⟨Yb, 2, none⟩ = some (.int .i64 yto) ∧ V.cell? ⟨Yb, 3, none⟩ = some (.int .i64 ytm) ∧ V.cell? ⟨Yb, 4, none⟩ = some (.int .i64 yix) ∧ V.cell? ⟨Yb, 5, none⟩ = some (.int .i64 ylt) ∧ V.cell? ⟨Yb, 6, none⟩ = some (.int .i64 ycm) ∧ V.cell? ⟨Yb, 7, none⟩ = some (.int .i64 yro) ∧ V.cell? ⟨Yb, 8, none⟩ = some (.bool yok) ∧ V.cell? ⟨Yb, 9, none⟩ = some (.int .i64 yoff) ∧ V.cell? ⟨Yb, 10, none⟩ = some (.slice yda ydn ydc) ∧ V.cell? ⟨Yb, 11, none⟩ = some (.slice yea yen yec)) → Hid (y.Fit V ∧ y.msg = msg) → Calls Tryz.prog 16 #[y.val] V fun e w' => (∃ a n c, e = .returned (.slice a n c) ∧ Hid (IsB w' (.slice a n c) (PK.encM msg))) ∧ (Hid (Below Wb.heap.size Wb w') ∧ (w'.cell? ⟨w.heap.size, 0, none⟩ = some (.int .i64 mkd) ∧ w'.cell? ⟨w.heap.size, 1, none⟩ = some (.int .i64 mfr) ∧ w'.cell? ⟨w.heap.size, 2, none⟩ = some (.int .i64 mto) ∧ w'.cell? ⟨w.heap.size, 3, none⟩ = some (.int .i64 mtm) ∧ w'.cell? ⟨w.heap.size, 4, none⟩ = some (.int .i64 mix) ∧ w'.cell? ⟨w.heap.size, 5, none⟩ = some (.int .i64 mlt) ∧ w'.cell? ⟨w.heap.size, 6, none⟩ = some (.int .i64 mcm) ∧ w'.cell? ⟨w.heap.size, 7, none⟩ = some (.int .i64 mro) ∧ w'.cell? ⟨w.heap.size, 8, none⟩ = some (.bool mok) ∧ w'.cell? ⟨w.heap.size, 9, none⟩ = some (.int .i64 moff) ∧ w'.cell? ⟨w.heap.size, 10, none⟩ = some (.slice mda mdn mdc) ∧ w'.cell? ⟨w.heap.size, 11, none⟩ = some (.slice mea men mec)) ∧ (w'.cell? ⟨Xb, 0, none⟩ = some (.int .i64 xkd) ∧ w'.cell? ⟨Xb, 1, none⟩ = some (.int .i64 xfr) ∧ w'.cell? ⟨Xb, 2, none⟩ = some (.int .i64 xto) ∧ w'.cell? ⟨Xb, 3, none⟩ = some (.int .i64 xtm) ∧ w'.cell? ⟨Xb, 4, none⟩ = some (.int .i64 xix) ∧ w'.cell? ⟨Xb, 5, none⟩ = some (.int .i64 xlt) ∧ w'.cell? ⟨Xb, 6, none⟩ = some (.int .i64 xcm) ∧ w'.cell? ⟨Xb, 7, none⟩ = some (.int .i64 xro) ∧ w'.cell? ⟨Xb, 8, none⟩ = some (.bool xok) ∧ w'.cell? ⟨Xb, 9, none⟩ = some (.int .i64 xoff) ∧ w'.cell? ⟨Xb, 10, none⟩ = some (.slice xda xdn xdc) ∧ w'.cell? ⟨Xb, 11, none⟩ = some (.slice xea xen xec)) ∧ w'.cell? ⟨Yb, 0, none⟩ = some (.int .i64 ykd) ∧ w'.cell? ⟨Yb, 1, none⟩ = some (.int .i64 yfr) ∧ w'.cell? ⟨Yb, 2, none⟩ = some (.int .i64 yto) ∧ w'.cell? ⟨Yb, 3, none⟩ = some (.int .i64 ytm) ∧ w'.cell? ⟨Yb, 4, none⟩ = some (.int .i64 yix) ∧ w'.cell? ⟨Yb, 5, none⟩ = some (.int .i64 ylt) ∧ w'.cell? ⟨Yb, 6, none⟩ = some (.int .i64 ycm) ∧ w'.cell? ⟨Yb, 7, none⟩ = some (.int .i64 yro) ∧ w'.cell? ⟨Yb, 8, none⟩ = some (.bool yok) ∧ w'.cell? ⟨Yb, 9, none⟩ = some (.int .i64 yoff) ∧ w'.cell? ⟨Yb, 10, none⟩ = some (.slice yda ydn ydc) ∧ w'.cell? ⟨Yb, 11, none⟩ = some (.slice yea yen yec)) ∧ Hid (Below V.heap.size V w')) := fun V y h hy => (HEg.out V y (fin.out V h) hy.out.1 hy.out.2 HRm.out).mono fun e w' q => cv.out _ V w' e h q
    have C12 : Hid (∀ V, (Hid (Below Wb.heap.size Wb V) ∧ (V.cell? ⟨w.heap.size, 0, none⟩ = some (.int .i64 mkd) ∧ V.cell? ⟨w.heap.size, 1, none⟩ = some (.int .i64 mfr) ∧ V.cell? ⟨w.heap.size, 2, none⟩ = some (.int .i64 mto) ∧ V.cell? ⟨w.heap.size, 3, none⟩ = some (.int .i64 mtm) ∧ V.cell? ⟨w.heap.size, 4, none⟩ = some (.int .i64 mix) ∧ V.cell? ⟨w.heap.size, 5, none⟩ = some (.int .i64 mlt) ∧ V.cell? ⟨w.heap.size, 6, none⟩ = some (.int .i64 mcm) ∧ V.cell? ⟨w.heap.size, 7, none⟩ = some (.int .i64 mro) ∧ V.cell? ⟨w.heap.size, 8, none⟩ = some (.bool mok) ∧ V.cell? ⟨w.heap.size, 9, none⟩ = some (.int .i64 moff) ∧ V.cell? ⟨w.heap.size, 10, none⟩ = some (.slice mda mdn mdc) ∧ V.cell? ⟨w.heap.size, 11, none⟩ = some (.slice mea men mec)) ∧ (V.cell? ⟨Xb, 0, none⟩ = some (.int .i64 xkd) ∧ V.cell? ⟨Xb, 1, none⟩ = some (.int .i64 xfr) ∧ V.cell? ⟨Xb, 2, none⟩ = some (.int .i64 xto) ∧ V.cell? ⟨Xb, 3, none⟩ = some (.int .i64 xtm) ∧ V.cell? ⟨Xb, 4, none⟩ = some (.int .i64 xix) ∧ V.cell? ⟨Xb, 5, none⟩ = some (.int .i64 xlt) ∧ V.cell? ⟨Xb, 6, none⟩ = some (.int .i64 xcm) ∧ V.cell? ⟨Xb, 7, none⟩ = some (.int .i64 xro) ∧ V.cell? ⟨Xb, 8, none⟩ = some (.bool xok) ∧ V.cell? ⟨Xb, 9, none⟩ = some (.int .i64 xoff) ∧ V.cell? ⟨Xb, 10, none⟩ = some (.slice xda xdn xdc) ∧ V.cell? ⟨Xb, 11, none⟩ = some (.slice xea xen xec)) ∧ V.cell? ⟨Yb, 0, none⟩ = some (.int .i64 ykd) ∧ V.cell? ⟨Yb, 1, none⟩ = some (.int .i64 yfr) ∧ V.cell? ⟨Yb, 2, none⟩ = some (.int .i64 yto) ∧ V.cell? ⟨Yb, 3, none⟩ = some (.int .i64 ytm) ∧ V.cell? ⟨Yb, 4, none⟩ = some (.int .i64 yix) ∧ V.cell? ⟨Yb, 5, none⟩ = some (.int .i64 ylt) ∧ V.cell? ⟨Yb, 6, none⟩ = some (.int .i64 ycm) ∧ V.cell? ⟨Yb, 7, none⟩ = some (.int .i64 yro) ∧ V.cell? ⟨Yb, 8, none⟩ = some (.bool yok) ∧ V.cell? ⟨Yb, 9, none⟩ = some (.int .i64 yoff) ∧ V.cell? ⟨Yb, 10, none⟩ = some (.slice yda ydn ydc) ∧ V.cell? ⟨Yb, 11, none⟩ = some (.slice yea yen yec)) → Calls Tryz.prog 17 #[.agg #[.int .i64 mkd, .int .i64 mfr, .int .i64 mto, .int .i64 mtm, .int .i64 mix, .int .i64 mlt, .int .i64 mcm, .int .i64 mro, .bool mok, .int .i64 moff, .slice mda mdn mdc, .slice mea men mec]] V fun e w' => (∃ a n c, e = .returned (.slice a n c) ∧ Hid (IsB w' (.slice a n c) (PK.encM msg))) ∧ (Hid (Below Wb.heap.size Wb w') ∧ (w'.cell? ⟨w.heap.size, 0, none⟩ = some (.int .i64 mkd) ∧ w'.cell? ⟨w.heap.size, 1, none⟩ = some (.int .i64 mfr) ∧ w'.cell? ⟨w.heap.size, 2, none⟩ = some (.int .i64 mto) ∧ w'.cell? ⟨w.heap.size, 3, none⟩ = some (.int .i64 mtm) ∧ w'.cell? ⟨w.heap.size, 4, none⟩ = some (.int .i64 mix) ∧ w'.cell? ⟨w.heap.size, 5, none⟩ = some (.int .i64 mlt) ∧ w'.cell? ⟨w.heap.size, 6, none⟩ = some (.int .i64 mcm) ∧ w'.cell? ⟨w.heap.size, 7, none⟩ = some (.int .i64 mro) ∧ w'.cell? ⟨w.heap.size, 8, none⟩ = some (.bool mok) ∧ w'.cell? ⟨w.heap.size, 9, none⟩ = some (.int .i64 moff) ∧ w'.cell? ⟨w.heap.size, 10, none⟩ = some (.slice mda mdn mdc) ∧ w'.cell? ⟨w.heap.size, 11, none⟩ = some (.slice mea men mec)) ∧ (w'.cell? ⟨Xb, 0, none⟩ = some (.int .i64 xkd) ∧ w'.cell? ⟨Xb, 1, none⟩ = some (.int .i64 xfr) ∧ w'.cell? ⟨Xb, 2, none⟩ = some (.int .i64 xto) ∧ w'.cell? ⟨Xb, 3, none⟩ = some (.int .i64 xtm) ∧ w'.cell? ⟨Xb, 4, none⟩ = some (.int .i64 xix) ∧ w'.cell? ⟨Xb, 5, none⟩ = some (.int .i64 xlt) ∧ w'.cell? ⟨Xb, 6, none⟩ = some (.int .i64 xcm) ∧ w'.cell? ⟨Xb, 7, none⟩ = some (.int .i64 xro) ∧ w'.cell? ⟨Xb, 8, none⟩ = some (.bool xok) ∧ w'.cell? ⟨Xb, 9, none⟩ = some (.int .i64 xoff) ∧ w'.cell? ⟨Xb, 10, none⟩ = some (.slice xda xdn xdc) ∧ w'.cell? ⟨Xb, 11, none⟩ = some (.slice xea xen xec)) ∧ w'.cell? ⟨Yb, 0, none⟩ = some (.int .i64 ykd) ∧ w'.cell? ⟨Yb, 1, none⟩ = some (.int .i64 yfr) ∧ w'.cell? ⟨Yb, 2, none⟩ = some (.int .i64 yto) ∧ w'.cell? ⟨Yb, 3, none⟩ = some (.int .i64 ytm) ∧ w'.cell? ⟨Yb, 4, none⟩ = some (.int .i64 yix) ∧ w'.cell? ⟨Yb, 5, none⟩ = some (.int .i64 ylt) ∧ w'.cell? ⟨Yb, 6, none⟩ = some (.int .i64 ycm) ∧ w'.cell? ⟨Yb, 7, none⟩ = some (.int .i64 yro) ∧ w'.cell? ⟨Yb, 8, none⟩ = some (.bool yok) ∧ w'.cell? ⟨Yb, 9, none⟩ = some (.int .i64 yoff) ∧ w'.cell? ⟨Yb, 10, none⟩ = some (.slice yda ydn ydc) ∧ w'.cell? ⟨Yb, 11, none⟩ = some (.slice yea yen yec)) ∧ Hid (Below V.heap.size V w')) := fun V h => (HE2.out V (fin.out V h) HRm.out).mono fun e w' q => cv.out _ V w' e h q
    have C16 : Hid (∀ V, (Hid (Below Wb.heap.size Wb V) ∧ (V.cell? ⟨w.heap.size, 0, none⟩ = some (.int .i64 mkd) ∧ V.cell? ⟨w.heap.size, 1, none⟩ = some (.int .i64 mfr) ∧ V.cell? ⟨w.heap.size, 2, none⟩ = some (.int .i64 mto) ∧ V.cell? ⟨w.heap.size, 3, none⟩ = some (.int .i64 mtm) ∧ V.cell? ⟨w.heap.size, 4, none⟩ = some (.int .i64 mix) ∧ V.cell? ⟨w.heap.size, 5, none⟩ = some (.int .i64 mlt) ∧ V.cell? ⟨w.heap.size, 6, none⟩ = some (.int .i64 mcm) ∧ V.cell? ⟨w.heap.size, 7, none⟩ = some (.int .i64 mro) ∧ V.cell? ⟨w.heap.size, 8, none⟩ = some (.bool mok) ∧ V.cell? ⟨w.heap.size, 9, none⟩ = some (.int .i64 moff) ∧ V.cell? ⟨w.heap.size, 10, none⟩ = some (.slice mda mdn mdc) ∧ V.cell? ⟨w.heap.size, 11, none⟩ = some (.slice mea men mec)) ∧ (V.cell? ⟨Xb, 0, none⟩ = some (.int .i64 xkd) ∧ V.cell? ⟨Xb, 1, none⟩ = some (.int .i64 xfr) ∧ V.cell? ⟨Xb, 2, none⟩ = some (.int .i64 xto) ∧ V.cell? ⟨Xb, 3, none⟩ = some (.int .i64 xtm) ∧ V.cell? ⟨Xb, 4, none⟩ = some (.int .i64 xix) ∧ V.cell? ⟨Xb, 5, none⟩ = some (.int .i64 xlt) ∧ V.cell? ⟨Xb, 6, none⟩ = some (.int .i64 xcm) ∧ V.cell? ⟨Xb, 7, none⟩ = some (.int .i64 xro) ∧ V.cell? ⟨Xb, 8, none⟩ = some (.bool xok) ∧ V.cell? ⟨Xb, 9, none⟩ = some (.int .i64 xoff) ∧ V.cell? ⟨Xb, 10, none⟩ = some (.slice xda xdn xdc) ∧ V.cell? ⟨Xb, 11, none⟩ = some (.slice xea xen xec)) ∧ V.cell? ⟨Yb, 0, none⟩ = some (.int .i64 ykd) ∧ V.cell? ⟨Yb, 1, none⟩ = some (.int .i64 yfr) ∧ V.cell? ⟨Yb, 2, none⟩ = some (.int .i64 yto) ∧ V.cell? ⟨Yb, 3, none⟩ = some (.int .i64 ytm) ∧ V.cell? ⟨Yb, 4, none⟩ = some (.int .i64 yix) ∧ V.cell? ⟨Yb, 5, none⟩ = some (.int .i64 ylt) ∧ V.cell? ⟨Yb, 6, none⟩ = some (.int .i64 ycm) ∧ V.cell? ⟨Yb, 7, none⟩ = some (.int .i64 yro) ∧ V.cell? ⟨Yb, 8, none⟩ = some (.bool yok) ∧ V.cell? ⟨Yb, 9, none⟩ = some (.int .i64 yoff) ∧ V.cell? ⟨Yb, 10, none⟩ = some (.slice yda ydn ydc) ∧ V.cell? ⟨Yb, 11, none⟩ = some (.slice yea yen yec)) → Calls Tryz.prog 16 #[.agg #[.int .i64 xkd, .int .i64 xfr, .int .i64 xto, .int .i64 xtm, .int .i64 xix, .int .i64 xlt, .int .i64 xcm, .int .i64 xro, .bool xok, .int .i64 xoff, .slice xda xdn xdc, .slice xea xen xec]] V fun e w' => (∃ a n c, e = .returned (.slice a n c) ∧ Hid (IsB w' (.slice a n c) (PK.encM (PK.resM r)))) ∧ (Hid (Below Wb.heap.size Wb w') ∧ (w'.cell? ⟨w.heap.size, 0, none⟩ = some (.int .i64 mkd) ∧ w'.cell? ⟨w.heap.size, 1, none⟩ = some (.int .i64 mfr) ∧ w'.cell? ⟨w.heap.size, 2, none⟩ = some (.int .i64 mto) ∧ w'.cell? ⟨w.heap.size, 3, none⟩ = some (.int .i64 mtm) ∧ w'.cell? ⟨w.heap.size, 4, none⟩ = some (.int .i64 mix) ∧ w'.cell? ⟨w.heap.size, 5, none⟩ = some (.int .i64 mlt) ∧ w'.cell? ⟨w.heap.size, 6, none⟩ = some (.int .i64 mcm) ∧ w'.cell? ⟨w.heap.size, 7, none⟩ = some (.int .i64 mro) ∧ w'.cell? ⟨w.heap.size, 8, none⟩ = some (.bool mok) ∧ w'.cell? ⟨w.heap.size, 9, none⟩ = some (.int .i64 moff) ∧ w'.cell? ⟨w.heap.size, 10, none⟩ = some (.slice mda mdn mdc) ∧ w'.cell? ⟨w.heap.size, 11, none⟩ = some (.slice mea men mec)) ∧ (w'.cell? ⟨Xb, 0, none⟩ = some (.int .i64 xkd) ∧ w'.cell? ⟨Xb, 1, none⟩ = some (.int .i64 xfr) ∧ w'.cell? ⟨Xb, 2, none⟩ = some (.int .i64 xto) ∧ w'.cell? ⟨Xb, 3, none⟩ = some (.int .i64 xtm) ∧ w'.cell? ⟨Xb, 4, none⟩ = some (.int .i64 xix) ∧ w'.cell? ⟨Xb, 5, none⟩ = some (.int .i64 xlt) ∧ w'.cell? ⟨Xb, 6, none⟩ = some (.int .i64 xcm) ∧ w'.cell? ⟨Xb, 7, none⟩ = some (.int .i64 xro) ∧ w'.cell? ⟨Xb, 8, none⟩ = some (.bool xok) ∧ w'.cell? ⟨Xb, 9, none⟩ = some (.int .i64 xoff) ∧ w'.cell? ⟨Xb, 10, none⟩ = some (.slice xda xdn xdc) ∧ w'.cell? ⟨Xb, 11, none⟩ = some (.slice xea xen xec)) ∧ w'.cell? ⟨Yb, 0, none⟩ = some (.int .i64 ykd) ∧ w'.cell? ⟨Yb, 1, none⟩ = some (.int .i64 yfr) ∧ w'.cell? ⟨Yb, 2, none⟩ = some (.int .i64 yto) ∧ w'.cell? ⟨Yb, 3, none⟩ = some (.int .i64 ytm) ∧ w'.cell? ⟨Yb, 4, none⟩ = some (.int .i64 yix) ∧ w'.cell? ⟨Yb, 5, none⟩ = some (.int .i64 ylt) ∧ w'.cell? ⟨Yb, 6, none⟩ = some (.int .i64 ycm) ∧ w'.cell? ⟨Yb, 7, none⟩ = some (.int .i64 yro) ∧ w'.cell? ⟨Yb, 8, none⟩ = some (.bool yok) ∧ w'.cell? ⟨Yb, 9, none⟩ = some (.int .i64 yoff) ∧ w'.cell? ⟨Yb, 10, none⟩ = some (.slice yda ydn ydc) ∧ w'.cell? ⟨Yb, 11, none⟩ = some (.slice yea yen yec)) ∧ Hid (Below V.heap.size V w')) := fun V h => (HEn.out V ⟨xkd, xfr, xto, xtm, xix, xlt, xcm, xro, xok, xoff, xda, xdn, xdc, xd, xea, xen, xec, xes⟩ (fin.out V h) (FXb.out.below h.1.out) HXM.out).mono fun e w' q => cv.out _ V w' e h q
    have C17 : Hid (∀ V, (Hid (Below Wb.heap.size Wb V) ∧ (V.cell? ⟨w.heap.size, 0, none⟩ = some (.int .i64 mkd) ∧ V.cell? ⟨w.heap.size, 1, none⟩ = some (.int .i64 mfr) ∧ V.cell? ⟨w.heap.size, 2, none⟩ = some (.int .i64 mto) ∧ V.cell? ⟨w.heap.size, 3, none⟩ = some (.int .i64 mtm) ∧ V.cell? ⟨w.heap.size, 4, none⟩ = some (.int .i64 mix) ∧ V.cell? ⟨w.heap.size, 5, none⟩ = some (.int .i64 mlt) ∧ V.cell? ⟨w.heap.size, 6, none⟩ = some (.int .i64 mcm) ∧ V.cell? ⟨w.heap.size, 7, none⟩ = some (.int .i64 mro) ∧ V.cell? ⟨w.heap.size, 8, none⟩ = some (.bool mok) ∧ V.cell? ⟨w.heap.size, 9, none⟩ = some (.int .i64 moff) ∧ V.cell? ⟨w.heap.size, 10, none⟩ = some (.slice mda mdn mdc) ∧ V.cell? ⟨w.heap.size, 11, none⟩ = some (.slice mea men mec)) ∧ (V.cell? ⟨Xb, 0, none⟩ = some (.int .i64 xkd) ∧ V.cell? ⟨Xb, 1, none⟩ = some (.int .i64 xfr) ∧ V.cell? ⟨Xb, 2, none⟩ = some (.int .i64 xto) ∧ V.cell? ⟨Xb, 3, none⟩ = some (.int .i64 xtm) ∧ V.cell? ⟨Xb, 4, none⟩ = some (.int .i64 xix) ∧ V.cell? ⟨Xb, 5, none⟩ = some (.int .i64 xlt) ∧ V.cell? ⟨Xb, 6, none⟩ = some (.int .i64 xcm) ∧ V.cell? ⟨Xb, 7, none⟩ = some (.int .i64 xro) ∧ V.cell? ⟨Xb, 8, none⟩ = some (.bool xok) ∧ V.cell? ⟨Xb, 9, none⟩ = some (.int .i64 xoff) ∧ V.cell? ⟨Xb, 10, none⟩ = some (.slice xda xdn xdc) ∧ V.cell? ⟨Xb, 11, none⟩ = some (.slice xea xen xec)) ∧ V.cell? ⟨Yb, 0, none⟩ = some (.int .i64 ykd) ∧ V.cell? ⟨Yb, 1, none⟩ = some (.int .i64 yfr) ∧ V.cell? ⟨Yb, 2, none⟩ = some (.int .i64 yto) ∧ V.cell? ⟨Yb, 3, none⟩ = some (.int .i64 ytm) ∧ V.cell? ⟨Yb, 4, none⟩ = some (.int .i64 yix) ∧ V.cell? ⟨Yb, 5, none⟩ = some (.int .i64 ylt) ∧ V.cell? ⟨Yb, 6, none⟩ = some (.int .i64 ycm) ∧ V.cell? ⟨Yb, 7, none⟩ = some (.int .i64 yro) ∧ V.cell? ⟨Yb, 8, none⟩ = some (.bool yok) ∧ V.cell? ⟨Yb, 9, none⟩ = some (.int .i64 yoff) ∧ V.cell? ⟨Yb, 10, none⟩ = some (.slice yda ydn ydc) ∧ V.cell? ⟨Yb, 11, none⟩ = some (.slice yea yen yec)) → Calls Tryz.prog 17 #[.agg #[.int .i64 ykd, .int .i64 yfr, .int .i64 yto, .int .i64 ytm, .int .i64 yix, .int .i64 ylt, .int .i64 ycm, .int .i64 yro, .bool yok, .int .i64 yoff, .slice yda ydn ydc, .slice yea yen yec]] V fun e w' => (∃ a n c, e = .returned (.slice a n c) ∧ Hid (IsB w' (.slice a n c) (PK.encM (PK.resM r)))) ∧ (Hid (Below Wb.heap.size Wb w') ∧ (w'.cell? ⟨w.heap.size, 0, none⟩ = some (.int .i64 mkd) ∧ w'.cell? ⟨w.heap.size, 1, none⟩ = some (.int .i64 mfr) ∧ w'.cell? ⟨w.heap.size, 2, none⟩ = some (.int .i64 mto) ∧ w'.cell? ⟨w.heap.size, 3, none⟩ = some (.int .i64 mtm) ∧ w'.cell? ⟨w.heap.size, 4, none⟩ = some (.int .i64 mix) ∧ w'.cell? ⟨w.heap.size, 5, none⟩ = some (.int .i64 mlt) ∧ w'.cell? ⟨w.heap.size, 6, none⟩ = some (.int .i64 mcm) ∧ w'.cell? ⟨w.heap.size, 7, none⟩ = some (.int .i64 mro) ∧ w'.cell? ⟨w.heap.size, 8, none⟩ = some (.bool mok) ∧ w'.cell? ⟨w.heap.size, 9, none⟩ = some (.int .i64 moff) ∧ w'.cell? ⟨w.heap.size, 10, none⟩ = some (.slice mda mdn mdc) ∧ w'.cell? ⟨w.heap.size, 11, none⟩ = some (.slice mea men mec)) ∧ (w'.cell? ⟨Xb, 0, none⟩ = some (.int .i64 xkd) ∧ w'.cell? ⟨Xb, 1, none⟩ = some (.int .i64 xfr) ∧ w'.cell? ⟨Xb, 2, none⟩ = some (.int .i64 xto) ∧ w'.cell? ⟨Xb, 3, none⟩ = some (.int .i64 xtm) ∧ w'.cell? ⟨Xb, 4, none⟩ = some (.int .i64 xix) ∧ w'.cell? ⟨Xb, 5, none⟩ = some (.int .i64 xlt) ∧ w'.cell? ⟨Xb, 6, none⟩ = some (.int .i64 xcm) ∧ w'.cell? ⟨Xb, 7, none⟩ = some (.int .i64 xro) ∧ w'.cell? ⟨Xb, 8, none⟩ = some (.bool xok) ∧ w'.cell? ⟨Xb, 9, none⟩ = some (.int .i64 xoff) ∧ w'.cell? ⟨Xb, 10, none⟩ = some (.slice xda xdn xdc) ∧ w'.cell? ⟨Xb, 11, none⟩ = some (.slice xea xen xec)) ∧ w'.cell? ⟨Yb, 0, none⟩ = some (.int .i64 ykd) ∧ w'.cell? ⟨Yb, 1, none⟩ = some (.int .i64 yfr) ∧ w'.cell? ⟨Yb, 2, none⟩ = some (.int .i64 yto) ∧ w'.cell? ⟨Yb, 3, none⟩ = some (.int .i64 ytm) ∧ w'.cell? ⟨Yb, 4, none⟩ = some (.int .i64 yix) ∧ w'.cell? ⟨Yb, 5, none⟩ = some (.int .i64 ylt) ∧ w'.cell? ⟨Yb, 6, none⟩ = some (.int .i64 ycm) ∧ w'.cell? ⟨Yb, 7, none⟩ = some (.int .i64 yro) ∧ w'.cell? ⟨Yb, 8, none⟩ = some (.bool yok) ∧ w'.cell? ⟨Yb, 9, none⟩ = some (.int .i64 yoff) ∧ w'.cell? ⟨Yb, 10, none⟩ = some (.slice yda ydn ydc) ∧ w'.cell? ⟨Yb, 11, none⟩ = some (.slice yea yen yec)) ∧ Hid (Below V.heap.size V w')) := fun V h => (HRn.out V ⟨ykd, yfr, yto, ytm, yix, ylt, ycm, yro, yok, yoff, yda, ydn, ydc, yd, yea, yen, yec, yes⟩ (FYb.out.below h.1.out) HYM.out).mono fun e w' q => cv.out _ V w' e h q
    have S0 := cont.out Wb.drew (Below.refl _ _).drew
    clear cv cont step HNum HEn HRn HCk HSu HXM HYM FXb FYb Bb gXb gY gMb hXlb hYlb hMlb bWb HG HE2 HEg HM HRm HEe FM p0 p1 p2 p3 p4 p5 p6 p7 p8 p9 pa pb q0 q1 q2 q3 q4 q5 q6 q7 q8 q9 qa qb c0 c1 c2 c3 c4 c5 c6 c7 c8 c9 ca cb
    simp only [errV] at C13
    generalize PK.encM msg = EM at *
    generalize PK.encM (PK.resM r) = ER at *
    simp only [intV]
    generalize PK.errM r = er at *
    go_wp2_with fail
    rw [← hWb]
    try rw [hYb]
    clear hWb hYb
    refine wp_region_noPanic ?_
    refine wp_region_held_drew (S := fun V => (Hid (Below Wb.heap.size Wb V) ∧ (V.cell? ⟨w.heap.size, 0, none⟩ = some (.int .i64 mkd) ∧ V.cell? ⟨w.heap.size, 1, none⟩ = some (.int .i64 mfr) ∧ V.cell? ⟨w.heap.size, 2, none⟩ = some (.int .i64 mto) ∧ V.cell? ⟨w.heap.size, 3, none⟩ = some (.int .i64 mtm) ∧ V.cell? ⟨w.heap.size, 4, none⟩ = some (.int .i64 mix) ∧ V.cell? ⟨w.heap.size, 5, none⟩ = some (.int .i64 mlt) ∧ V.cell? ⟨w.heap.size, 6, none⟩ = some (.int .i64 mcm) ∧ V.cell? ⟨w.heap.size, 7, none⟩ = some (.int .i64 mro) ∧ V.cell? ⟨w.heap.size, 8, none⟩ = some (.bool mok) ∧ V.cell? ⟨w.heap.size, 9, none⟩ = some (.int .i64 moff) ∧ V.cell? ⟨w.heap.size, 10, none⟩ = some (.slice mda mdn mdc) ∧ V.cell? ⟨w.heap.size, 11, none⟩ = some (.slice mea men mec)) ∧ (V.cell? ⟨Xb, 0, none⟩ = some (.int .i64 xkd) ∧ V.cell? ⟨Xb, 1, none⟩ = some (.int .i64 xfr) ∧ V.cell? ⟨Xb, 2, none⟩ = some (.int .i64 xto) ∧ V.cell? ⟨Xb, 3, none⟩ = some (.int .i64 xtm) ∧ V.cell? ⟨Xb, 4, none⟩ = some (.int .i64 xix) ∧ V.cell? ⟨Xb, 5, none⟩ = some (.int .i64 xlt) ∧ V.cell? ⟨Xb, 6, none⟩ = some (.int .i64 xcm) ∧ V.cell? ⟨Xb, 7, none⟩ = some (.int .i64 xro) ∧ V.cell? ⟨Xb, 8, none⟩ = some (.bool xok) ∧ V.cell? ⟨Xb, 9, none⟩ = some (.int .i64 xoff) ∧ V.cell? ⟨Xb, 10, none⟩ = some (.slice xda xdn xdc) ∧ V.cell? ⟨Xb, 11, none⟩ = some (.slice xea xen xec)) ∧ V.cell? ⟨Yb, 0, none⟩ = some (.int .i64 ykd) ∧ V.cell? ⟨Yb, 1, none⟩ = some (.int .i64 yfr) ∧ V.cell? ⟨Yb, 2, none⟩ = some (.int .i64 yto) ∧ V.cell? ⟨Yb, 3, none⟩ = some (.int .i64 ytm) ∧ V.cell? ⟨Yb, 4, none⟩ = some (.int .i64 yix) ∧ V.cell? ⟨Yb, 5, none⟩ = some (.int .i64 ylt) ∧ V.cell? ⟨Yb, 6, none⟩ = some (.int .i64 ycm) ∧ V.cell? ⟨Yb, 7, none⟩ = some (.int .i64 yro) ∧ V.cell? ⟨Yb, 8, none⟩ = some (.bool yok) ∧ V.cell? ⟨Yb, 9, none⟩ = some (.int .i64 yoff) ∧ V.cell? ⟨Yb, 10, none⟩ = some (.slice yda ydn ydc) ∧ V.cell? ⟨Yb, 11, none⟩ = some (.slice yea yen yec))) (by kernel_rfl) S0 (fun hHeld => ?_)
    refine wpAnyH_take (i := 0) (v := ?hvz_0) (List.getElem?_toArray.trans rfl) (by kernel_rfl) (by kernel_rfl) (by kernel_rfl) (fun _ _ _ h => h) (Or.inl ⟨by rfl, ?hyz_0⟩) (by assumption) ?hrz_0
    case hyz_0 => (intro wt hSw; (try dsimp only at hSw); go_simp; try (with_reducible rfl))
    try simp only [Act.put, List.setIfInBounds_toArray, List.set_cons_zero, List.set_cons_succ]
    refine wpAnyH_take (i := 4) (v := ?hvz_4) (List.getElem?_toArray.trans rfl) (by kernel_rfl) (by kernel_rfl) (by kernel_rfl) (fun _ _ _ h => h) (Or.inl ⟨by rfl, ?hyz_4⟩) (by assumption) ?hrz_4
    case hyz_4 => (intro wt hSw; (try dsimp only at hSw); go_simp; try (with_reducible rfl))
    try simp only [Act.put, List.setIfInBounds_toArray, List.set_cons_zero, List.set_cons_succ]
    refine wpAnyH_ready (rs := [1]) (by kernel_rfl) (by simp) ?_
    refine AllReadyH.cons (List.getElem?_toArray.trans rfl) (fun K hK => ?_) (AllReadyH.nil)
    go_simp
    go_at_call 14
    refine (C14.out _ ?_).mono ?_
    assumption
    rintro e vx ⟨⟨y2, rfl, hy2⟩, kx⟩
    try (go_wp2_with fail)
    refine hK.out _ _ ?_ (fun hHeld => ?_)
    · (try dsimp only)
      assumption
    clear hK K
    try simp only [Act.put, List.setIfInBounds_toArray, List.set_cons_zero, List.set_cons_succ]
    refine wpAnyH_ready (rs := [2]) (by kernel_rfl) (by simp) ?_
    refine AllReadyH.cons (List.getElem?_toArray.trans rfl) (fun K hK => ?_) (AllReadyH.nil)
    go_simp
    go_at_call 13
    refine (C13.out _ _ ?_ hy2).mono ?_
    assumption
    rintro e vx ⟨rfl, kx⟩
    clear C13 hy2
    try (go_wp2_with fail)
    refine hK.out _ _ ?_ (fun hHeld => ?_)
    · (try dsimp only)
      assumption
    clear hK K
    try simp only [Act.put, List.setIfInBounds_toArray, List.set_cons_zero, List.set_cons_succ]
    refine wpAnyH_take (i := 3) (v := ?hve1_3) (List.getElem?_toArray.trans rfl) (by kernel_rfl) (by kernel_rfl) (by kernel_rfl) (fun _ _ _ h => h) (Or.inl ⟨by rfl, ?hye1_3⟩) (by assumption) ?hre1_3
    case hye1_3 => (intro wt hSw; (try dsimp only at hSw); go_simp; try (with_reducible rfl))
    try simp only [Act.put, List.setIfInBounds_toArray, List.set_cons_zero, List.set_cons_succ]
    refine wpAnyH_ready (rs := [5]) (by kernel_rfl) (by simp) ?_
    refine AllReadyH.cons (List.getElem?_toArray.trans rfl) (fun K hK => ?_) (AllReadyH.nil)
    go_simp
    go_at_call 15
    refine (C15.out _ ?_).mono ?_
    assumption
    rintro e vx ⟨rfl, kx⟩
    clear C15
    try (go_wp2_with fail)
    refine hK.out _ _ ?_ (fun hHeld => ?_)
    · (try dsimp only)
      assumption
    clear hK K
    try simp only [Act.put, List.setIfInBounds_toArray, List.set_cons_zero, List.set_cons_succ]
    refine wpAnyH_take (i := 6) (v := ?hve2_6) (List.getElem?_toArray.trans rfl) (by kernel_rfl) (by kernel_rfl) (by kernel_rfl) (fun _ _ _ h => h) (Or.inl ⟨by rfl, ?hye2_6⟩) (by assumption) ?hre2_6
    case hye2_6 => (intro wt hSw; (try dsimp only at hSw); go_simp; try (with_reducible rfl))
    try simp only [Act.put, List.setIfInBounds_toArray, List.set_cons_zero, List.set_cons_succ]
    refine wpAnyH_take (i := 7) (v := ?hve2_7) (List.getElem?_toArray.trans rfl) (by kernel_rfl) (by kernel_rfl) (by kernel_rfl) (fun _ _ _ h => h) (Or.inl ⟨by rfl, ?hye2_7⟩) (by assumption) ?hre2_7
    case hye2_7 => (intro wt hSw; (try dsimp only at hSw); go_simp; try (with_reducible rfl))
    try simp only [Act.put, List.setIfInBounds_toArray, List.set_cons_zero, List.set_cons_succ]
    refine wpAnyH_take (i := 8) (v := ?hve2_8) (List.getElem?_toArray.trans rfl) (by kernel_rfl) (by kernel_rfl) (by kernel_rfl) (fun _ _ _ h => h) (Or.inl ⟨by rfl, ?hye2_8⟩) (by assumption) ?hre2_8
    case hye2_8 => (intro wt hSw; (try dsimp only at hSw); go_simp; try (with_reducible rfl))
    try simp only [Act.put, List.setIfInBounds_toArray, List.set_cons_zero, List.set_cons_succ]
    refine wpAnyH_take (i := 12) (v := ?hve2_12) (List.getElem?_toArray.trans rfl) (by kernel_rfl) (by kernel_rfl) (by kernel_rfl) (fun _ _ _ h => h) (Or.inl ⟨by rfl, ?hye2_12⟩) (by assumption) ?hre2_12
    case hye2_12 => (intro wt hSw; (try dsimp only at hSw); go_simp; try (with_reducible rfl))
    try simp only [Act.put, List.setIfInBounds_toArray, List.set_cons_zero, List.set_cons_succ]
    refine wpAnyH_ready (rs := [9]) (by kernel_rfl) (by simp) ?_
    refine AllReadyH.cons (List.getElem?_toArray.trans rfl) (fun K hK => ?_) (AllReadyH.nil)
    go_simp
    go_at_call 14
    refine (C14.out _ ?_).mono ?_
    assumption
    rintro e vx ⟨⟨y2, rfl, hy2⟩, kx⟩
    try (go_wp2_with fail)
    refine hK.out _ _ ?_ (fun hHeld => ?_)
    · (try dsimp only)
      assumption
    clear hK K
    try simp only [Act.put, List.setIfInBounds_toArray, List.set_cons_zero, List.set_cons_succ]
    refine wpAnyH_ready (rs := [10]) (by kernel_rfl) (by simp) ?_
    refine AllReadyH.cons (List.getElem?_toArray.trans rfl) (fun K hK => ?_) (AllReadyH.nil)
    go_simp
    go_at_call 16
    refine (C11.out _ _ ?_ hy2).mono ?_
    assumption
    rintro e vx ⟨⟨a5, n5, c5, rfl, IA⟩, kx, bB⟩
    clear bB hy2 C11
    try (go_wp2_with fail)
    refine hK.out _ _ ?_ (fun hHeld => ?_)
    · (try dsimp only)
      assumption
    clear hK K
    try simp only [Act.put, List.setIfInBounds_toArray, List.set_cons_zero, List.set_cons_succ]
    refine wpAnyH_ready (rs := [11, 13]) (by kernel_rfl) (by simp) ?_
    refine AllReadyH.cons (List.getElem?_toArray.trans rfl) (fun K hK => ?_) (AllReadyH.cons (List.getElem?_toArray.trans rfl) (fun K hK => ?_) (AllReadyH.nil))
    · have hcv := run_toStr (P := Tryz.prog) T22 U9 IA.out
      go_simp
      try (go_wp2_with fail)
      refine hK.out _ _ ?_ (fun hHeld => ?_)
      · (try dsimp only)
        assumption
      clear hK K
      try simp only [Act.put, List.setIfInBounds_toArray, List.set_cons_zero, List.set_cons_succ]
      clear hcv IA
      refine wpAnyH_ready (rs := [13]) (by kernel_rfl) (by simp) ?_
      refine AllReadyH.cons (List.getElem?_toArray.trans rfl) (fun K hK => ?_) (AllReadyH.nil)
      go_simp
      go_at_call 17
      refine (C12.out _ ?_).mono ?_
      assumption
      rintro e vx ⟨⟨a6, n6, c6, rfl, IB⟩, kx, bB⟩
      clear bB C12
      try (go_wp2_with fail)
      refine hK.out _ _ ?_ (fun hHeld => ?_)
      · (try dsimp only)
        assumption
      clear hK K
      try simp only [Act.put, List.setIfInBounds_toArray, List.set_cons_zero, List.set_cons_succ]
      refine wpAnyH_ready (rs := [14]) (by kernel_rfl) (by simp) ?_
      refine AllReadyH.cons (List.getElem?_toArray.trans rfl) (fun K hK => ?_) (AllReadyH.nil)
      have hcv := run_toStr (P := Tryz.prog) T22 U9 IB.out
      go_simp
      try (go_wp2_with fail)
      refine hK.out _ _ ?_ (fun hHeld => ?_)
      · (try dsimp only)
        assumption
      clear hK K
      try simp only [Act.put, List.setIfInBounds_toArray, List.set_cons_zero, List.set_cons_succ]
      clear hcv IB
      refine wpAnyH_take (i := 15) (v := ?hve3_15) (List.getElem?_toArray.trans rfl) (by kernel_rfl) (by kernel_rfl) (by kernel_rfl) (fun _ _ _ h => h) (Or.inl ⟨by rfl, ?hye3_15⟩) (by assumption) ?hre3_15
      case hye3_15 => (intro wt hSw; (try dsimp only at hSw); go_simp; try (with_reducible rfl))
      try simp only [Act.put, List.setIfInBounds_toArray, List.set_cons_zero, List.set_cons_succ]
      refine wpAnyH_take (i := 16) (v := ?hve3_16) (List.getElem?_toArray.trans rfl) (by kernel_rfl) (by kernel_rfl) (by kernel_rfl) (fun _ _ _ h => h) (Or.inl ⟨by rfl, ?hye3_16⟩) (by assumption) ?hre3_16
      case hye3_16 => (intro wt hSw; (try dsimp only at hSw); go_simp; try (with_reducible rfl))
      try simp only [Act.put, List.setIfInBounds_toArray, List.set_cons_zero, List.set_cons_succ]
      refine wpAnyH_take (i := 17) (v := ?hve3_17) (List.getElem?_toArray.trans rfl) (by kernel_rfl) (by kernel_rfl) (by kernel_rfl) (fun _ _ _ h => h) (Or.inl ⟨by rfl, ?hye3_17⟩) (by assumption) ?hre3_17
      case hye3_17 => (intro wt hSw; (try dsimp only at hSw); go_simp; try (with_reducible rfl))
      try simp only [Act.put, List.setIfInBounds_toArray, List.set_cons_zero, List.set_cons_succ]
      refine wpAnyH_take (i := 18) (v := ?hve3_18) (List.getElem?_toArray.trans rfl) (by kernel_rfl) (by kernel_rfl) (by kernel_rfl) (fun _ _ _ h => h) (Or.inl ⟨by rfl, ?hye3_18⟩) (by assumption) ?hre3_18
      case hye3_18 => (intro wt hSw; (try dsimp only at hSw); go_simp; try (with_reducible rfl))
      try simp only [Act.put, List.setIfInBounds_toArray, List.set_cons_zero, List.set_cons_succ]
      refine wpAnyH_take (i := 21) (v := ?hve3_21) (List.getElem?_toArray.trans rfl) (by kernel_rfl) (by kernel_rfl) (by kernel_rfl) (fun _ _ _ h => h) (Or.inl ⟨by rfl, ?hye3_21⟩) (by assumption) ?hre3_21
      case hye3_21 => (intro wt hSw; (try dsimp only at hSw); go_simp; try (with_reducible rfl))
      try simp only [Act.put, List.setIfInBounds_toArray, List.set_cons_zero, List.set_cons_succ]
      refine wpAnyH_ready (rs := [19]) (by kernel_rfl) (by simp) ?_
      refine AllReadyH.cons (List.getElem?_toArray.trans rfl) (fun K hK => ?_) (AllReadyH.nil)
      go_simp
      go_at_call 16
      refine (C16.out _ ?_).mono ?_
      assumption
      rintro e vx ⟨⟨a7, n7, c7, rfl, IC⟩, kx, bB⟩
      clear bB C16
      try (go_wp2_with fail)
      refine hK.out _ _ ?_ (fun hHeld => ?_)
      · (try dsimp only)
        assumption
      clear hK K
      try simp only [Act.put, List.setIfInBounds_toArray, List.set_cons_zero, List.set_cons_succ]
      refine wpAnyH_ready (rs := [20, 22]) (by kernel_rfl) (by simp) ?_
      refine AllReadyH.cons (List.getElem?_toArray.trans rfl) (fun K hK => ?_) (AllReadyH.cons (List.getElem?_toArray.trans rfl) (fun K hK => ?_) (AllReadyH.nil))
      · have hcv := run_toStr (P := Tryz.prog) T22 U9 IC.out
        go_simp
        try (go_wp2_with fail)
        refine hK.out _ _ ?_ (fun hHeld => ?_)
        · (try dsimp only)
          assumption
        clear hK K
        try simp only [Act.put, List.setIfInBounds_toArray, List.set_cons_zero, List.set_cons_succ]
        clear hcv IC
        refine wpAnyH_ready (rs := [22]) (by kernel_rfl) (by simp) ?_
        refine AllReadyH.cons (List.getElem?_toArray.trans rfl) (fun K hK => ?_) (AllReadyH.nil)
        go_simp
        go_at_call 17
        refine (C17.out _ ?_).mono ?_
        assumption
        rintro e vx ⟨⟨a8, n8, c8, rfl, ID⟩, kx, bB⟩
        clear bB C17
        try (go_wp2_with fail)
        refine hK.out _ _ ?_ (fun hHeld => ?_)
        · (try dsimp only)
          assumption
        clear hK K
        try simp only [Act.put, List.setIfInBounds_toArray, List.set_cons_zero, List.set_cons_succ]
        refine wpAnyH_ready (rs := [23]) (by kernel_rfl) (by simp) ?_
        refine AllReadyH.cons (List.getElem?_toArray.trans rfl) (fun K hK => ?_) (AllReadyH.nil)
        have hcv := run_toStr (P := Tryz.prog) T22 U9 ID.out
        go_simp
        try (go_wp2_with fail)
        refine hK.out _ _ ?_ (fun hHeld => ?_)
        · (try dsimp only)
          assumption
        clear hK K
        try simp only [Act.put, List.setIfInBounds_toArray, List.set_cons_zero, List.set_cons_succ]
        clear hcv ID
        refine wpAnyH_take (i := 24) (v := ?hve4_24) (List.getElem?_toArray.trans rfl) (by kernel_rfl) (by kernel_rfl) (by kernel_rfl) (fun _ _ _ h => h) (Or.inl ⟨by rfl, ?hye4_24⟩) (by assumption) ?hre4_24
        case hye4_24 => (intro wt hSw; (try dsimp only at hSw); go_simp; try (with_reducible rfl))
        try simp only [Act.put, List.setIfInBounds_toArray, List.set_cons_zero, List.set_cons_succ]
        refine wpAnyH_take (i := 25) (v := ?hve4_25) (List.getElem?_toArray.trans rfl) (by kernel_rfl) (by kernel_rfl) (by kernel_rfl) (fun _ _ _ h => h) (Or.inl ⟨by rfl, ?hye4_25⟩) (by assumption) ?hre4_25
        case hye4_25 => (intro wt hSw; (try dsimp only at hSw); go_simp; try (with_reducible rfl))
        try simp only [Act.put, List.setIfInBounds_toArray, List.set_cons_zero, List.set_cons_succ]
        refine wpAnyH_take (i := 26) (v := ?hve4_26) (List.getElem?_toArray.trans rfl) (by kernel_rfl) (by kernel_rfl) (by kernel_rfl) (fun _ _ _ h => h) (Or.inl ⟨by rfl, ?hye4_26⟩) (by assumption) ?hre4_26
        case hye4_26 => (intro wt hSw; (try dsimp only at hSw); go_simp; try (with_reducible rfl))
        try simp only [Act.put, List.setIfInBounds_toArray, List.set_cons_zero, List.set_cons_succ]
        refine wpAnyH_take (i := 27) (v := ?hve4_27) (List.getElem?_toArray.trans rfl) (by kernel_rfl) (by kernel_rfl) (by kernel_rfl) (fun _ _ _ h => h) (Or.inl ⟨by rfl, ?hye4_27⟩) (by assumption) ?hre4_27
        case hye4_27 => (intro wt hSw; (try dsimp only at hSw); go_simp; try (with_reducible rfl))
        try simp only [Act.put, List.setIfInBounds_toArray, List.set_cons_zero, List.set_cons_succ]
        refine wpAnyH_take (i := 29) (v := ?hve4_29) (List.getElem?_toArray.trans rfl) (by kernel_rfl) (by kernel_rfl) (by kernel_rfl) (fun _ _ _ h => h) (Or.inl ⟨by rfl, ?hye4_29⟩) (by assumption) ?hre4_29
        case hye4_29 => (intro wt hSw; (try dsimp only at hSw); go_simp; try (with_reducible rfl))
        try simp only [Act.put, List.setIfInBounds_toArray, List.set_cons_zero, List.set_cons_succ]
        refine wpAnyH_ready (rs := [28]) (by kernel_rfl) (by simp) ?_
        refine AllReadyH.cons (List.getElem?_toArray.trans rfl) (fun K hK => ?_) (AllReadyH.nil)
        go_simp
        go_at_call 18
        refine (C18.out _ ?_).mono ?_
        assumption
        rintro e vx ⟨rfl, kx⟩
        clear C18
        try (go_wp2_with fail)
        refine hK.out _ _ ?_ (fun hHeld => ?_)
        · (try dsimp only)
          assumption
        clear hK K
        try simp only [Act.put, List.setIfInBounds_toArray, List.set_cons_zero, List.set_cons_succ]
        refine wpAnyH_take (i := 30) (v := ?hve5_30) (List.getElem?_toArray.trans rfl) (by kernel_rfl) (by kernel_rfl) (by kernel_rfl) (fun _ _ _ h => h) (Or.inl ⟨by rfl, ?hye5_30⟩) (by assumption) ?hre5_30
        case hye5_30 => (intro wt hSw; (try dsimp only at hSw); go_simp; try (with_reducible rfl))
        try simp only [Act.put, List.setIfInBounds_toArray, List.set_cons_zero, List.set_cons_succ]
        refine wpAnyH_take (i := 31) (v := ?hve5_31) (List.getElem?_toArray.trans rfl) (by kernel_rfl) (by kernel_rfl) (by kernel_rfl) (fun _ _ _ h => h) (Or.inl ⟨by rfl, ?hye5_31⟩) (by assumption) ?hre5_31
        case hye5_31 => (intro wt hSw; (try dsimp only at hSw); go_simp; try (with_reducible rfl))
        try simp only [Act.put, List.setIfInBounds_toArray, List.set_cons_zero, List.set_cons_succ]
        refine wpAnyH_take (i := 32) (v := ?hve5_32) (List.getElem?_toArray.trans rfl) (by kernel_rfl) (by kernel_rfl) (by kernel_rfl) (fun _ _ _ h => h) (Or.inl ⟨by rfl, ?hye5_32⟩) (by assumption) ?hre5_32
        case hye5_32 => (intro wt hSw; (try dsimp only at hSw); go_simp; try (with_reducible rfl))
        try simp only [Act.put, List.setIfInBounds_toArray, List.set_cons_zero, List.set_cons_succ]
        refine wpAnyH_ready (rs := [33]) (by kernel_rfl) (by simp) ?_
        refine AllReadyH.cons (List.getElem?_toArray.trans rfl) (fun K hK => ?_) (AllReadyH.nil)
        go_simp
        go_at_call 10
        refine (C10.out _ ?_).mono ?_
        assumption
        rintro e vx ⟨rfl, kx⟩
        clear C10
        try (go_wp2_with fail)
        refine hK.out _ _ ?_ (fun hHeld => ?_)
        · (try dsimp only)
          assumption
        clear hK K
        try simp only [Act.put, List.setIfInBounds_toArray, List.set_cons_zero, List.set_cons_succ]
        refine wpAnyH_take (i := 34) (v := ?hve6_34) (List.getElem?_toArray.trans rfl) (by kernel_rfl) (by kernel_rfl) (by kernel_rfl) (fun _ _ _ h => h) (Or.inl ⟨by rfl, ?hye6_34⟩) (by assumption) ?hre6_34
        case hye6_34 => (intro wt hSw; (try dsimp only at hSw); go_simp; try (with_reducible rfl))
        try simp only [Act.put, List.setIfInBounds_toArray, List.set_cons_zero, List.set_cons_succ]
        refine wpAnyH_take (i := 35) (v := ?hve6_35) (List.getElem?_toArray.trans rfl) (by kernel_rfl) (by kernel_rfl) (by kernel_rfl) (fun _ _ _ h => h) (Or.inl ⟨by rfl, ?hye6_35⟩) (by assumption) ?hre6_35
        case hye6_35 => (intro wt hSw; (try dsimp only at hSw); go_simp; try (with_reducible rfl))
        try simp only [Act.put, List.setIfInBounds_toArray, List.set_cons_zero, List.set_cons_succ]
        refine wpAnyH_done (by kernel_rfl) ?_ _
        refine NoPanic.normal ?_
        go_wp2
        go_ret
        exact ⟨rfl, fin.out _ (by assumption)⟩
      · go_simp
        go_at_call 17
        refine (C17.out _ ?_).mono ?_
        assumption
        rintro e vx ⟨⟨a8, n8, c8, rfl, ID⟩, kx, bB⟩
        have IC := Lib.hid (IC.out.below bB.out)
        clear bB C17
        try (go_wp2_with fail)
        refine hK.out _ _ ?_ (fun hHeld => ?_)
        · (try dsimp only)
          assumption
        clear hK K
        try simp only [Act.put, List.setIfInBounds_toArray, List.set_cons_zero, List.set_cons_succ]
        refine wpAnyH_ready (rs := [20, 23]) (by kernel_rfl) (by simp) ?_
        refine AllReadyH.cons (List.getElem?_toArray.trans rfl) (fun K hK => ?_) (AllReadyH.cons (List.getElem?_toArray.trans rfl) (fun K hK => ?_) (AllReadyH.nil))
        · have hcv := run_toStr (P := Tryz.prog) T22 U9 IC.out
          go_simp
          try (go_wp2_with fail)
          refine hK.out _ _ ?_ (fun hHeld => ?_)
          · (try dsimp only)
            assumption
          clear hK K
          try simp only [Act.put, List.setIfInBounds_toArray, List.set_cons_zero, List.set_cons_succ]
          clear hcv IC
          refine wpAnyH_ready (rs := [23]) (by kernel_rfl) (by simp) ?_
          refine AllReadyH.cons (List.getElem?_toArray.trans rfl) (fun K hK => ?_) (AllReadyH.nil)
          have hcv := run_toStr (P := Tryz.prog) T22 U9 ID.out
          go_simp
          try (go_wp2_with fail)
          refine hK.out _ _ ?_ (fun hHeld => ?_)
          · (try dsimp only)
            assumption
          clear hK K
          try simp only [Act.put, List.setIfInBounds_toArray, List.set_cons_zero, List.set_cons_succ]
          clear hcv ID
          refine wpAnyH_take (i := 24) (v := ?hve7_24) (List.getElem?_toArray.trans rfl) (by kernel_rfl) (by kernel_rfl) (by kernel_rfl) (fun _ _ _ h => h) (Or.inl ⟨by rfl, ?hye7_24⟩) (by assumption) ?hre7_24
          case hye7_24 => (intro wt hSw; (try dsimp only at hSw); go_simp; try (with_reducible rfl))
          try simp only [Act.put, List.setIfInBounds_toArray, List.set_cons_zero, List.set_cons_succ]
          refine wpAnyH_take (i := 25) (v := ?hve7_25) (List.getElem?_toArray.trans rfl) (by kernel_rfl) (by kernel_rfl) (by kernel_rfl) (fun _ _ _ h => h) (Or.inl ⟨by rfl, ?hye7_25⟩) (by assumption) ?hre7_25
          case hye7_25 => (intro wt hSw; (try dsimp only at hSw); go_simp; try (with_reducible rfl))
          try simp only [Act.put, List.setIfInBounds_toArray, List.set_cons_zero, List.set_cons_succ]
          refine wpAnyH_take (i := 26) (v := ?hve7_26) (List.getElem?_toArray.trans rfl) (by kernel_rfl) (by kernel_rfl) (by kernel_rfl) (fun _ _ _ h => h) (Or.inl ⟨by rfl, ?hye7_26⟩) (by assumption) ?hre7_26
          case hye7_26 => (intro wt hSw; (try dsimp only at hSw); go_simp; try (with_reducible rfl))
          try simp only [Act.put, List.setIfInBounds_toArray, List.set_cons_zero, List.set_cons_succ]
          refine wpAnyH_take (i := 27) (v := ?hve7_27) (List.getElem?_toArray.trans rfl) (by kernel_rfl) (by kernel_rfl) (by kernel_rfl) (fun _ _ _ h => h) (Or.inl ⟨by rfl, ?hye7_27⟩) (by assumption) ?hre7_27
          case hye7_27 => (intro wt hSw; (try dsimp only at hSw); go_simp; try (with_reducible rfl))
          try simp only [Act.put, List.setIfInBounds_toArray, List.set_cons_zero, List.set_cons_succ]
          refine wpAnyH_take (i := 29) (v := ?hve7_29) (List.getElem?_toArray.trans rfl) (by kernel_rfl) (by kernel_rfl) (by kernel_rfl) (fun _ _ _ h => h) (Or.inl ⟨by rfl, ?hye7_29⟩) (by assumption) ?hre7_29
          case hye7_29 => (intro wt hSw; (try dsimp only at hSw); go_simp; try (with_reducible rfl))
          try simp only [Act.put, List.setIfInBounds_toArray, List.set_cons_zero, List.set_cons_succ]
          refine wpAnyH_ready (rs := [28]) (by kernel_rfl) (by simp) ?_
          refine AllReadyH.cons (List.getElem?_toArray.trans rfl) (fun K hK => ?_) (AllReadyH.nil)
          go_simp
          go_at_call 18
          refine (C18.out _ ?_).mono ?_
          assumption
          rintro e vx ⟨rfl, kx⟩
          clear C18
          try (go_wp2_with fail)
          refine hK.out _ _ ?_ (fun hHeld => ?_)
          · (try dsimp only)
            assumption
          clear hK K
          try simp only [Act.put, List.setIfInBounds_toArray, List.set_cons_zero, List.set_cons_succ]
          refine wpAnyH_take (i := 30) (v := ?hve8_30) (List.getElem?_toArray.trans rfl) (by kernel_rfl) (by kernel_rfl) (by kernel_rfl) (fun _ _ _ h => h) (Or.inl ⟨by rfl, ?hye8_30⟩) (by assumption) ?hre8_30
          case hye8_30 => (intro wt hSw; (try dsimp only at hSw); go_simp; try (with_reducible rfl))
          try simp only [Act.put, List.setIfInBounds_toArray, List.set_cons_zero, List.set_cons_succ]
          refine wpAnyH_take (i := 31) (v := ?hve8_31) (List.getElem?_toArray.trans rfl) (by kernel_rfl) (by kernel_rfl) (by kernel_rfl) (fun _ _ _ h => h) (Or.inl ⟨by rfl, ?hye8_31⟩) (by assumption) ?hre8_31
          case hye8_31 => (intro wt hSw; (try dsimp only at hSw); go_simp; try (with_reducible rfl))
          try simp only [Act.put, List.setIfInBounds_toArray, List.set_cons_zero, List.set_cons_succ]
          refine wpAnyH_take (i := 32) (v := ?hve8_32) (List.getElem?_toArray.trans rfl) (by kernel_rfl) (by kernel_rfl) (by kernel_rfl) (fun _ _ _ h => h) (Or.inl ⟨by rfl, ?hye8_32⟩) (by assumption) ?hre8_32
          case hye8_32 => (intro wt hSw; (try dsimp only at hSw); go_simp; try (with_reducible rfl))
          try simp only [Act.put, List.setIfInBounds_toArray, List.set_cons_zero, List.set_cons_succ]
          refine wpAnyH_ready (rs := [33]) (by kernel_rfl) (by simp) ?_
          refine AllReadyH.cons (List.getElem?_toArray.trans rfl) (fun K hK => ?_) (AllReadyH.nil)
          go_simp
          go_at_call 10
          refine (C10.out _ ?_).mono ?_
          assumption
          rintro e vx ⟨rfl, kx⟩
          clear C10
          try (go_wp2_with fail)
          refine hK.out _ _ ?_ (fun hHeld => ?_)
          · (try dsimp only)
            assumption
          clear hK K
          try simp only [Act.put, List.setIfInBounds_toArray, List.set_cons_zero, List.set_cons_succ]
          refine wpAnyH_take (i := 34) (v := ?hve9_34) (List.getElem?_toArray.trans rfl) (by kernel_rfl) (by kernel_rfl) (by kernel_rfl) (fun _ _ _ h => h) (Or.inl ⟨by rfl, ?hye9_34⟩) (by assumption) ?hre9_34
          case hye9_34 => (intro wt hSw; (try dsimp only at hSw); go_simp; try (with_reducible rfl))
          try simp only [Act.put, List.setIfInBounds_toArray, List.set_cons_zero, List.set_cons_succ]
          refine wpAnyH_take (i := 35) (v := ?hve9_35) (List.getElem?_toArray.trans rfl) (by kernel_rfl) (by kernel_rfl) (by kernel_rfl) (fun _ _ _ h => h) (Or.inl ⟨by rfl, ?hye9_35⟩) (by assumption) ?hre9_35
          case hye9_35 => (intro wt hSw; (try dsimp only at hSw); go_simp; try (with_reducible rfl))
          try simp only [Act.put, List.setIfInBounds_toArray, List.set_cons_zero, List.set_cons_succ]
          refine wpAnyH_done (by kernel_rfl) ?_ _
          refine NoPanic.normal ?_
          go_wp2
          go_ret
          exact ⟨rfl, fin.out _ (by assumption)⟩
        · have hcv := run_toStr (P := Tryz.prog) T22 U9 ID.out
          go_simp
          try (go_wp2_with fail)
          refine hK.out _ _ ?_ (fun hHeld => ?_)
          · (try dsimp only)
            assumption
          clear hK K
          try simp only [Act.put, List.setIfInBounds_toArray, List.set_cons_zero, List.set_cons_succ]
          clear hcv ID
          refine wpAnyH_ready (rs := [20]) (by kernel_rfl) (by simp) ?_
          refine AllReadyH.cons (List.getElem?_toArray.trans rfl) (fun K hK => ?_) (AllReadyH.nil)
          have hcv := run_toStr (P := Tryz.prog) T22 U9 IC.out
          go_simp
          try (go_wp2_with fail)
          refine hK.out _ _ ?_ (fun hHeld => ?_)
          · (try dsimp only)
            assumption
          clear hK K
          try simp only [Act.put, List.setIfInBounds_toArray, List.set_cons_zero, List.set_cons_succ]
          clear hcv IC
          refine wpAnyH_take (i := 24) (v := ?hve10_24) (List.getElem?_toArray.trans rfl) (by kernel_rfl) (by kernel_rfl) (by kernel_rfl) (fun _ _ _ h => h) (Or.inl ⟨by rfl, ?hye10_24⟩) (by assumption) ?hre10_24
          case hye10_24 => (intro wt hSw; (try dsimp only at hSw); go_simp; try (with_reducible rfl))
          try simp only [Act.put, List.setIfInBounds_toArray, List.set_cons_zero, List.set_cons_succ]
          refine wpAnyH_take (i := 25) (v := ?hve10_25) (List.getElem?_toArray.trans rfl) (by kernel_rfl) (by kernel_rfl) (by kernel_rfl) (fun _ _ _ h => h) (Or.inl ⟨by rfl, ?hye10_25⟩) (by assumption) ?hre10_25
          case hye10_25 => (intro wt hSw; (try dsimp only at hSw); go_simp; try (with_reducible rfl))
          try simp only [Act.put, List.setIfInBounds_toArray, List.set_cons_zero, List.set_cons_succ]
          refine wpAnyH_take (i := 26) (v := ?hve10_26) (List.getElem?_toArray.trans rfl) (by kernel_rfl) (by kernel_rfl) (by kernel_rfl) (fun _ _ _ h => h) (Or.inl ⟨by rfl, ?hye10_26⟩) (by assumption) ?hre10_26
          case hye10_26 => (intro wt hSw; (try dsimp only at hSw); go_simp; try (with_reducible rfl))
          try simp only [Act.put, List.setIfInBounds_toArray, List.set_cons_zero, List.set_cons_succ]
          refine wpAnyH_take (i := 27) (v := ?hve10_27) (List.getElem?_toArray.trans rfl) (by kernel_rfl) (by kernel_rfl) (by kernel_rfl) (fun _ _ _ h => h) (Or.inl ⟨by rfl, ?hye10_27⟩) (by assumption) ?hre10_27
          case hye10_27 => (intro wt hSw; (try dsimp only at hSw); go_simp; try (with_reducible rfl))
          try simp only [Act.put, List.setIfInBounds_toArray, List.set_cons_zero, List.set_cons_succ]
          refine wpAnyH_take (i := 29) (v := ?hve10_29) (List.getElem?_toArray.trans rfl) (by kernel_rfl) (by kernel_rfl) (by kernel_rfl) (fun _ _ _ h => h) (Or.inl ⟨by rfl, ?hye10_29⟩) (by assumption) ?hre10_29
          case hye10_29 => (intro wt hSw; (try dsimp only at hSw); go_simp; try (with_reducible rfl))
          try simp only [Act.put, List.setIfInBounds_toArray, List.set_cons_zero, List.set_cons_succ]
          refine wpAnyH_ready (rs := [28]) (by kernel_rfl) (by simp) ?_
          refine AllReadyH.cons (List.getElem?_toArray.trans rfl) (fun K hK => ?_) (AllReadyH.nil)
          go_simp
          go_at_call 18
          refine (C18.out _ ?_).mono ?_
          assumption
          rintro e vx ⟨rfl, kx⟩
          clear C18
          try (go_wp2_with fail)
          refine hK.out _ _ ?_ (fun hHeld => ?_)
          · (try dsimp only)
            assumption
          clear hK K
          try simp only [Act.put, List.setIfInBounds_toArray, List.set_cons_zero, List.set_cons_succ]
          refine wpAnyH_take (i := 30) (v := ?hve11_30) (List.getElem?_toArray.trans rfl) (by kernel_rfl) (by kernel_rfl) (by kernel_rfl) (fun _ _ _ h => h) (Or.inl ⟨by rfl, ?hye11_30⟩) (by assumption) ?hre11_30
          case hye11_30 => (intro wt hSw; (try dsimp only at hSw); go_simp; try (with_reducible rfl))
          try simp only [Act.put, List.setIfInBounds_toArray, List.set_cons_zero, List.set_cons_succ]
          refine wpAnyH_take (i := 31) (v := ?hve11_31) (List.getElem?_toArray.trans rfl) (by kernel_rfl) (by kernel_rfl) (by kernel_rfl) (fun _ _ _ h => h) (Or.inl ⟨by rfl, ?hye11_31⟩) (by assumption) ?hre11_31
          case hye11_31 => (intro wt hSw; (try dsimp only at hSw); go_simp; try (with_reducible rfl))
          try simp only [Act.put, List.setIfInBounds_toArray, List.set_cons_zero, List.set_cons_succ]
          refine wpAnyH_take (i := 32) (v := ?hve11_32) (List.getElem?_toArray.trans rfl) (by kernel_rfl) (by kernel_rfl) (by kernel_rfl) (fun _ _ _ h => h) (Or.inl ⟨by rfl, ?hye11_32⟩) (by assumption) ?hre11_32
          case hye11_32 => (intro wt hSw; (try dsimp only at hSw); go_simp; try (with_reducible rfl))
          try simp only [Act.put, List.setIfInBounds_toArray, List.set_cons_zero, List.set_cons_succ]
          refine wpAnyH_ready (rs := [33]) (by kernel_rfl) (by simp) ?_
          refine AllReadyH.cons (List.getElem?_toArray.trans rfl) (fun K hK => ?_) (AllReadyH.nil)
          go_simp
          go_at_call 10
          refine (C10.out _ ?_).mono ?_
          assumption
          rintro e vx ⟨rfl, kx⟩
          clear C10
          try (go_wp2_with fail)
          refine hK.out _ _ ?_ (fun hHeld => ?_)
          · (try dsimp only)
            assumption
          clear hK K
          try simp only [Act.put, List.setIfInBounds_toArray, List.set_cons_zero, List.set_cons_succ]
          refine wpAnyH_take (i := 34) (v := ?hve12_34) (List.getElem?_toArray.trans rfl) (by kernel_rfl) (by kernel_rfl) (by kernel_rfl) (fun _ _ _ h => h) (Or.inl ⟨by rfl, ?hye12_34⟩) (by assumption) ?hre12_34
          case hye12_34 => (intro wt hSw; (try dsimp only at hSw); go_simp; try (with_reducible rfl))
          try simp only [Act.put, List.setIfInBounds_toArray, List.set_cons_zero, List.set_cons_succ]
          refine wpAnyH_take (i := 35) (v := ?hve12_35) (List.getElem?_toArray.trans rfl) (by kernel_rfl) (by kernel_rfl) (by kernel_rfl) (fun _ _ _ h => h) (Or.inl ⟨by rfl, ?hye12_35⟩) (by assumption) ?hre12_35
          case hye12_35 => (intro wt hSw; (try dsimp only at hSw); go_simp; try (with_reducible rfl))
          try simp only [Act.put, List.setIfInBounds_toArray, List.set_cons_zero, List.set_cons_succ]
          refine wpAnyH_done (by kernel_rfl) ?_ _
          refine NoPanic.normal ?_
          go_wp2
          go_ret
          exact ⟨rfl, fin.out _ (by assumption)⟩
    · go_simp
      go_at_call 17
      refine (C12.out _ ?_).mono ?_
      assumption
      rintro e vx ⟨⟨a6, n6, c6, rfl, IB⟩, kx, bB⟩
      have IA := Lib.hid (IA.out.below bB.out)
      clear bB C12
      try (go_wp2_with fail)
      refine hK.out _ _ ?_ (fun hHeld => ?_)
      · (try dsimp only)
        assumption
      clear hK K
      try simp only [Act.put, List.setIfInBounds_toArray, List.set_cons_zero, List.set_cons_succ]
      refine wpAnyH_ready (rs := [11, 14]) (by kernel_rfl) (by simp) ?_
      refine AllReadyH.cons (List.getElem?_toArray.trans rfl) (fun K hK => ?_) (AllReadyH.cons (List.getElem?_toArray.trans rfl) (fun K hK => ?_) (AllReadyH.nil))
      · have hcv := run_toStr (P := Tryz.prog) T22 U9 IA.out
        go_simp
        try (go_wp2_with fail)
        refine hK.out _ _ ?_ (fun hHeld => ?_)
        · (try dsimp only)
          assumption
        clear hK K
        try simp only [Act.put, List.setIfInBounds_toArray, List.set_cons_zero, List.set_cons_succ]
        clear hcv IA
        refine wpAnyH_ready (rs := [14]) (by kernel_rfl) (by simp) ?_
        refine AllReadyH.cons (List.getElem?_toArray.trans rfl) (fun K hK => ?_) (AllReadyH.nil)
        have hcv := run_toStr (P := Tryz.prog) T22 U9 IB.out
        go_simp
        try (go_wp2_with fail)
        refine hK.out _ _ ?_ (fun hHeld => ?_)
        · (try dsimp only)
          assumption
        clear hK K
        try simp only [Act.put, List.setIfInBounds_toArray, List.set_cons_zero, List.set_cons_succ]
        clear hcv IB
        refine wpAnyH_take (i := 15) (v := ?hve13_15) (List.getElem?_toArray.trans rfl) (by kernel_rfl) (by kernel_rfl) (by kernel_rfl) (fun _ _ _ h => h) (Or.inl ⟨by rfl, ?hye13_15⟩) (by assumption) ?hre13_15
        case hye13_15 => (intro wt hSw; (try dsimp only at hSw); go_simp; try (with_reducible rfl))
        try simp only [Act.put, List.setIfInBounds_toArray, List.set_cons_zero, List.set_cons_succ]
        refine wpAnyH_take (i := 16) (v := ?hve13_16) (List.getElem?_toArray.trans rfl) (by kernel_rfl) (by kernel_rfl) (by kernel_rfl) (fun _ _ _ h => h) (Or.inl ⟨by rfl, ?hye13_16⟩) (by assumption) ?hre13_16
        case hye13_16 => (intro wt hSw; (try dsimp only at hSw); go_simp; try (with_reducible rfl))
        try simp only [Act.put, List.setIfInBounds_toArray, List.set_cons_zero, List.set_cons_succ]
        refine wpAnyH_take (i := 17) (v := ?hve13_17) (List.getElem?_toArray.trans rfl) (by kernel_rfl) (by kernel_rfl) (by kernel_rfl) (fun _ _ _ h => h) (Or.inl ⟨by rfl, ?hye13_17⟩) (by assumption) ?hre13_17
        case hye13_17 => (intro wt hSw; (try dsimp only at hSw); go_simp; try (with_reducible rfl))
        try simp only [Act.put, List.setIfInBounds_toArray, List.set_cons_zero, List.set_cons_succ]
        refine wpAnyH_take (i := 18) (v := ?hve13_18) (List.getElem?_toArray.trans rfl) (by kernel_rfl) (by kernel_rfl) (by kernel_rfl) (fun _ _ _ h => h) (Or.inl ⟨by rfl, ?hye13_18⟩) (by assumption) ?hre13_18
        case hye13_18 => (intro wt hSw; (try dsimp only at hSw); go_simp; try (with_reducible rfl))
        try simp only [Act.put, List.setIfInBounds_toArray, List.set_cons_zero, List.set_cons_succ]
        refine wpAnyH_take (i := 21) (v := ?hve13_21) (List.getElem?_toArray.trans rfl) (by kernel_rfl) (by kernel_rfl) (by kernel_rfl) (fun _ _ _ h => h) (Or.inl ⟨by rfl, ?hye13_21⟩) (by assumption) ?hre13_21
        case hye13_21 => (intro wt hSw; (try dsimp only at hSw); go_simp; try (with_reducible rfl))
        try simp only [Act.put, List.setIfInBounds_toArray, List.set_cons_zero, List.set_cons_succ]
        refine wpAnyH_ready (rs := [19]) (by kernel_rfl) (by simp) ?_
        refine AllReadyH.cons (List.getElem?_toArray.trans rfl) (fun K hK => ?_) (AllReadyH.nil)
        go_simp
        go_at_call 16
        refine (C16.out _ ?_).mono ?_
        assumption
        rintro e vx ⟨⟨a7, n7, c7, rfl, IC⟩, kx, bB⟩
        clear bB C16
        try (go_wp2_with fail)
        refine hK.out _ _ ?_ (fun hHeld => ?_)
        · (try dsimp only)
          assumption
        clear hK K
        try simp only [Act.put, List.setIfInBounds_toArray, List.set_cons_zero, List.set_cons_succ]
        refine wpAnyH_ready (rs := [20, 22]) (by kernel_rfl) (by simp) ?_
        refine AllReadyH.cons (List.getElem?_toArray.trans rfl) (fun K hK => ?_) (AllReadyH.cons (List.getElem?_toArray.trans rfl) (fun K hK => ?_) (AllReadyH.nil))
        · have hcv := run_toStr (P := Tryz.prog) T22 U9 IC.out
          go_simp
          try (go_wp2_with fail)
          refine hK.out _ _ ?_ (fun hHeld => ?_)
          · (try dsimp only)
            assumption
          clear hK K
          try simp only [Act.put, List.setIfInBounds_toArray, List.set_cons_zero, List.set_cons_succ]
          clear hcv IC
          refine wpAnyH_ready (rs := [22]) (by kernel_rfl) (by simp) ?_
          refine AllReadyH.cons (List.getElem?_toArray.trans rfl) (fun K hK => ?_) (AllReadyH.nil)
          go_simp
          go_at_call 17
          refine (C17.out _ ?_).mono ?_
          assumption
          rintro e vx ⟨⟨a8, n8, c8, rfl, ID⟩, kx, bB⟩
          clear bB C17
          try (go_wp2_with fail)
          refine hK.out _ _ ?_ (fun hHeld => ?_)
          · (try dsimp only)
            assumption
          clear hK K
          try simp only [Act.put, List.setIfInBounds_toArray, List.set_cons_zero, List.set_cons_succ]
          refine wpAnyH_ready (rs := [23]) (by kernel_rfl) (by simp) ?_
          refine AllReadyH.cons (List.getElem?_toArray.trans rfl) (fun K hK => ?_) (AllReadyH.nil)
          have hcv := run_toStr (P := Tryz.prog) T22 U9 ID.out
          go_simp
          try (go_wp2_with fail)
          refine hK.out _ _ ?_ (fun hHeld => ?_)
          · (try dsimp only)
            assumption
          clear hK K
          try simp only [Act.put, List.setIfInBounds_toArray, List.set_cons_zero, List.set_cons_succ]
          clear hcv ID
          refine wpAnyH_take (i := 24) (v := ?hve14_24) (List.getElem?_toArray.trans rfl) (by kernel_rfl) (by kernel_rfl) (by kernel_rfl) (fun _ _ _ h => h) (Or.inl ⟨by rfl, ?hye14_24⟩) (by assumption) ?hre14_24
          case hye14_24 => (intro wt hSw; (try dsimp only at hSw); go_simp; try (with_reducible rfl))
          try simp only [Act.put, List.setIfInBounds_toArray, List.set_cons_zero, List.set_cons_succ]
          refine wpAnyH_take (i := 25) (v := ?hve14_25) (List.getElem?_toArray.trans rfl) (by kernel_rfl) (by kernel_rfl) (by kernel_rfl) (fun _ _ _ h => h) (Or.inl ⟨by rfl, ?hye14_25⟩) (by assumption) ?hre14_25
          case hye14_25 => (intro wt hSw; (try dsimp only at hSw); go_simp; try (with_reducible rfl))
          try simp only [Act.put, List.setIfInBounds_toArray, List.set_cons_zero, List.set_cons_succ]
          refine wpAnyH_take (i := 26) (v := ?hve14_26) (List.getElem?_toArray.trans rfl) (by kernel_rfl) (by kernel_rfl) (by kernel_rfl) (fun _ _ _ h => h) (Or.inl ⟨by rfl, ?hye14_26⟩) (by assumption) ?hre14_26
          case hye14_26 => (intro wt hSw; (try dsimp only at hSw); go_simp; try (with_reducible rfl))
          try simp only [Act.put, List.setIfInBounds_toArray, List.set_cons_zero, List.set_cons_succ]
          refine wpAnyH_take (i := 27) (v := ?hve14_27) (List.getElem?_toArray.trans rfl) (by kernel_rfl) (by kernel_rfl) (by kernel_rfl) (fun _ _ _ h => h) (Or.inl ⟨by rfl, ?hye14_27⟩) (by assumption) ?hre14_27
          case hye14_27 => (intro wt hSw; (try dsimp only at hSw); go_simp; try (with_reducible rfl))
          try simp only [Act.put, List.setIfInBounds_toArray, List.set_cons_zero, List.set_cons_succ]
          refine wpAnyH_take (i := 29) (v := ?hve14_29) (List.getElem?_toArray.trans rfl) (by kernel_rfl) (by kernel_rfl) (by kernel_rfl) (fun _ _ _ h => h) (Or.inl ⟨by rfl, ?hye14_29⟩) (by assumption) ?hre14_29
          case hye14_29 => (intro wt hSw; (try dsimp only at hSw); go_simp; try (with_reducible rfl))
          try simp only [Act.put, List.setIfInBounds_toArray, List.set_cons_zero, List.set_cons_succ]
          refine wpAnyH_ready (rs := [28]) (by kernel_rfl) (by simp) ?_
          refine AllReadyH.cons (List.getElem?_toArray.trans rfl) (fun K hK => ?_) (AllReadyH.nil)
          go_simp
          go_at_call 18
          refine (C18.out _ ?_).mono ?_
          assumption
          rintro e vx ⟨rfl, kx⟩
          clear C18
          try (go_wp2_with fail)
          refine hK.out _ _ ?_ (fun hHeld => ?_)
          · (try dsimp only)
            assumption
          clear hK K
          try simp only [Act.put, List.setIfInBounds_toArray, List.set_cons_zero, List.set_cons_succ]
          refine wpAnyH_take (i := 30) (v := ?hve15_30) (List.getElem?_toArray.trans rfl) (by kernel_rfl) (by kernel_rfl) (by kernel_rfl) (fun _ _ _ h => h) (Or.inl ⟨by rfl, ?hye15_30⟩) (by assumption) ?hre15_30
          case hye15_30 => (intro wt hSw; (try dsimp only at hSw); go_simp; try (with_reducible rfl))
          try simp only [Act.put, List.setIfInBounds_toArray, List.set_cons_zero, List.set_cons_succ]
          refine wpAnyH_take (i := 31) (v := ?hve15_31) (List.getElem?_toArray.trans rfl) (by kernel_rfl) (by kernel_rfl) (by kernel_rfl) (fun _ _ _ h => h) (Or.inl ⟨by rfl, ?hye15_31⟩) (by assumption) ?hre15_31
          case hye15_31 => (intro wt hSw; (try dsimp only at hSw); go_simp; try (with_reducible rfl))
          try simp only [Act.put, List.setIfInBounds_toArray, List.set_cons_zero, List.set_cons_succ]
          refine wpAnyH_take (i := 32) (v := ?hve15_32) (List.getElem?_toArray.trans rfl) (by kernel_rfl) (by kernel_rfl) (by kernel_rfl) (fun _ _ _ h => h) (Or.inl ⟨by rfl, ?hye15_32⟩) (by assumption) ?hre15_32
          case hye15_32 => (intro wt hSw; (try dsimp only at hSw); go_simp; try (with_reducible rfl))
          try simp only [Act.put, List.setIfInBounds_toArray, List.set_cons_zero, List.set_cons_succ]
          refine wpAnyH_ready (rs := [33]) (by kernel_rfl) (by simp) ?_
          refine AllReadyH.cons (List.getElem?_toArray.trans rfl) (fun K hK => ?_) (AllReadyH.nil)
          go_simp
          go_at_call 10
          refine (C10.out _ ?_).mono ?_
          assumption
          rintro e vx ⟨rfl, kx⟩
          clear C10
          try (go_wp2_with fail)
          refine hK.out _ _ ?_ (fun hHeld => ?_)
          · (try dsimp only)
            assumption
          clear hK K
          try simp only [Act.put, List.setIfInBounds_toArray, List.set_cons_zero, List.set_cons_succ]
          refine wpAnyH_take (i := 34) (v := ?hve16_34) (List.getElem?_toArray.trans rfl) (by kernel_rfl) (by kernel_rfl) (by kernel_rfl) (fun _ _ _ h => h) (Or.inl ⟨by rfl, ?hye16_34⟩) (by assumption) ?hre16_34
          case hye16_34 => (intro wt hSw; (try dsimp only at hSw); go_simp; try (with_reducible rfl))
          try simp only [Act.put, List.setIfInBounds_toArray, List.set_cons_zero, List.set_cons_succ]
          refine wpAnyH_take (i := 35) (v := ?hve16_35) (List.getElem?_toArray.trans rfl) (by kernel_rfl) (by kernel_rfl) (by kernel_rfl) (fun _ _ _ h => h) (Or.inl ⟨by rfl, ?hye16_35⟩) (by assumption) ?hre16_35
          case hye16_35 => (intro wt hSw; (try dsimp only at hSw); go_simp; try (with_reducible rfl))
          try simp only [Act.put, List.setIfInBounds_toArray, List.set_cons_zero, List.set_cons_succ]
          refine wpAnyH_done (by kernel_rfl) ?_ _
          refine NoPanic.normal ?_
          go_wp2
          go_ret
          exact ⟨rfl, fin.out _ (by assumption)⟩
        · go_simp
          go_at_call 17
          refine (C17.out _ ?_).mono ?_
          assumption
          rintro e vx ⟨⟨a8, n8, c8, rfl, ID⟩, kx, bB⟩
          have IC := Lib.hid (IC.out.below bB.out)
          clear bB C17
          try (go_wp2_with fail)
          refine hK.out _ _ ?_ (fun hHeld => ?_)
          · (try dsimp only)
            assumption
          clear hK K
          try simp only [Act.put, List.setIfInBounds_toArray, List.set_cons_zero, List.set_cons_succ]
          refine wpAnyH_ready (rs := [20, 23]) (by kernel_rfl) (by simp) ?_
          refine AllReadyH.cons (List.getElem?_toArray.trans rfl) (fun K hK => ?_) (AllReadyH.cons (List.getElem?_toArray.trans rfl) (fun K hK => ?_) (AllReadyH.nil))
          · have hcv := run_toStr (P := Tryz.prog) T22 U9 IC.out
            go_simp
            try (go_wp2_with fail)
            refine hK.out _ _ ?_ (fun hHeld => ?_)
            · (try dsimp only)
              assumption
            clear hK K
            try simp only [Act.put, List.setIfInBounds_toArray, List.set_cons_zero, List.set_cons_succ]
            clear hcv IC
            refine wpAnyH_ready (rs := [23]) (by kernel_rfl) (by simp) ?_
            refine AllReadyH.cons (List.getElem?_toArray.trans rfl) (fun K hK => ?_) (AllReadyH.nil)
            have hcv := run_toStr (P := Tryz.prog) T22 U9 ID.out
            go_simp
            try (go_wp2_with fail)
            refine hK.out _ _ ?_ (fun hHeld => ?_)
            · (try dsimp only)
              assumption
            clear hK K
            try simp only [Act.put, List.setIfInBounds_toArray, List.set_cons_zero, List.set_cons_succ]
            clear hcv ID
            refine wpAnyH_take (i := 24) (v := ?hve17_24) (List.getElem?_toArray.trans rfl) (by kernel_rfl) (by kernel_rfl) (by kernel_rfl) (fun _ _ _ h => h) (Or.inl ⟨by rfl, ?hye17_24⟩) (by assumption) ?hre17_24
            case hye17_24 => (intro wt hSw; (try dsimp only at hSw); go_simp; try (with_reducible rfl))
            try simp only [Act.put, List.setIfInBounds_toArray, List.set_cons_zero, List.set_cons_succ]
            refine wpAnyH_take (i := 25) (v := ?hve17_25) (List.getElem?_toArray.trans rfl) (by kernel_rfl) (by kernel_rfl) (by kernel_rfl) (fun _ _ _ h => h) (Or.inl ⟨by rfl, ?hye17_25⟩) (by assumption) ?hre17_25
            case hye17_25 => (intro wt hSw; (try dsimp only at hSw); go_simp; try (with_reducible rfl))
            try simp only [Act.put, List.setIfInBounds_toArray, List.set_cons_zero, List.set_cons_succ]
            refine wpAnyH_take (i := 26) (v := ?hve17_26) (List.getElem?_toArray.trans rfl) (by kernel_rfl) (by kernel_rfl) (by kernel_rfl) (fun _ _ _ h => h) (Or.inl ⟨by rfl, ?hye17_26⟩) (by assumption) ?hre17_26
            case hye17_26 => (intro wt hSw; (try dsimp only at hSw); go_simp; try (with_reducible rfl))
            try simp only [Act.put, List.setIfInBounds_toArray, List.set_cons_zero, List.set_cons_succ]
            refine wpAnyH_take (i := 27) (v := ?hve17_27) (List.getElem?_toArray.trans rfl) (by kernel_rfl) (by kernel_rfl) (by kernel_rfl) (fun _ _ _ h => h) (Or.inl ⟨by rfl, ?hye17_27⟩) (by assumption) ?hre17_27
            case hye17_27 => (intro wt hSw; (try dsimp only at hSw); go_simp; try (with_reducible rfl))
            try simp only [Act.put, List.setIfInBounds_toArray, List.set_cons_zero, List.set_cons_succ]
            refine wpAnyH_take (i := 29) (v := ?hve17_29) (List.getElem?_toArray.trans rfl) (by kernel_rfl) (by kernel_rfl) (by kernel_rfl) (fun _ _ _ h => h) (Or.inl ⟨by rfl, ?hye17_29⟩) (by assumption) ?hre17_29
            case hye17_29 => (intro wt hSw; (try dsimp only at hSw); go_simp; try (with_reducible rfl))
            try simp only [Act.put, List.setIfInBounds_toArray, List.set_cons_zero, List.set_cons_succ]
            refine wpAnyH_ready (rs := [28]) (by kernel_rfl) (by simp) ?_
            refine AllReadyH.cons (List.getElem?_toArray.trans rfl) (fun K hK => ?_) (AllReadyH.nil)
            go_simp
            go_at_call 18
            refine (C18.out _ ?_).mono ?_
            assumption
            rintro e vx ⟨rfl, kx⟩
            clear C18
            try (go_wp2_with fail)
            refine hK.out _ _ ?_ (fun hHeld => ?_)
            · (try dsimp only)
              assumption
            clear hK K
            try simp only [Act.put, List.setIfInBounds_toArray, List.set_cons_zero, List.set_cons_succ]
            refine wpAnyH_take (i := 30) (v := ?hve18_30) (List.getElem?_toArray.trans rfl) (by kernel_rfl) (by kernel_rfl) (by kernel_rfl) (fun _ _ _ h => h) (Or.inl ⟨by rfl, ?hye18_30⟩) (by assumption) ?hre18_30
            case hye18_30 => (intro wt hSw; (try dsimp only at hSw); go_simp; try (with_reducible rfl))
            try simp only [Act.put, List.setIfInBounds_toArray, List.set_cons_zero, List.set_cons_succ]
            refine wpAnyH_take (i := 31) (v := ?hve18_31) (List.getElem?_toArray.trans rfl) (by kernel_rfl) (by kernel_rfl) (by kernel_rfl) (fun _ _ _ h => h) (Or.inl ⟨by rfl, ?hye18_31⟩) (by assumption) ?hre18_31
            case hye18_31 => (intro wt hSw; (try dsimp only at hSw); go_simp; try (with_reducible rfl))
            try simp only [Act.put, List.setIfInBounds_toArray, List.set_cons_zero, List.set_cons_succ]
            refine wpAnyH_take (i := 32) (v := ?hve18_32) (List.getElem?_toArray.trans rfl) (by kernel_rfl) (by kernel_rfl) (by kernel_rfl) (fun _ _ _ h => h) (Or.inl ⟨by rfl, ?hye18_32⟩) (by assumption) ?hre18_32
            case hye18_32 => (intro wt hSw; (try dsimp only at hSw); go_simp; try (with_reducible rfl))
            try simp only [Act.put, List.setIfInBounds_toArray, List.set_cons_zero, List.set_cons_succ]
            refine wpAnyH_ready (rs := [33]) (by kernel_rfl) (by simp) ?_
            refine AllReadyH.cons (List.getElem?_toArray.trans rfl) (fun K hK => ?_) (AllReadyH.nil)
            go_simp
            go_at_call 10
            refine (C10.out _ ?_).mono ?_
            assumption
            rintro e vx ⟨rfl, kx⟩
            clear C10
            try (go_wp2_with fail)
            refine hK.out _ _ ?_ (fun hHeld => ?_)
            · (try dsimp only)
              assumption
            clear hK K
            try simp only [Act.put, List.setIfInBounds_toArray, List.set_cons_zero, List.set_cons_succ]
            refine wpAnyH_take (i := 34) (v := ?hve19_34) (List.getElem?_toArray.trans rfl) (by kernel_rfl) (by kernel_rfl) (by kernel_rfl) (fun _ _ _ h => h) (Or.inl ⟨by rfl, ?hye19_34⟩) (by assumption) ?hre19_34
            case hye19_34 => (intro wt hSw; (try dsimp only at hSw); go_simp; try (with_reducible rfl))
            try simp only [Act.put, List.setIfInBounds_toArray, List.set_cons_zero, List.set_cons_succ]
            refine wpAnyH_take (i := 35) (v := ?hve19_35) (List.getElem?_toArray.trans rfl) (by kernel_rfl) (by kernel_rfl) (by kernel_rfl) (fun _ _ _ h => h) (Or.inl ⟨by rfl, ?hye19_35⟩) (by assumption) ?hre19_35
            case hye19_35 => (intro wt hSw; (try dsimp only at hSw); go_simp; try (with_reducible rfl))
            try simp only [Act.put, List.setIfInBounds_toArray, List.set_cons_zero, List.set_cons_succ]
            refine wpAnyH_done (by kernel_rfl) ?_ _
            refine NoPanic.normal ?_
            go_wp2
            go_ret
            exact ⟨rfl, fin.out _ (by assumption)⟩
          · have hcv := run_toStr (P := Tryz.prog) T22 U9 ID.out
            go_simp
            try (go_wp2_with fail)
            refine hK.out _ _ ?_ (fun hHeld => ?_)
            · (try dsimp only)
              assumption
            clear hK K
            try simp only [Act.put, List.setIfInBounds_toArray, List.set_cons_zero, List.set_cons_succ]
            clear hcv ID
            refine wpAnyH_ready (rs := [20]) (by kernel_rfl) (by simp) ?_
            refine AllReadyH.cons (List.getElem?_toArray.trans rfl) (fun K hK => ?_) (AllReadyH.nil)
            have hcv := run_toStr (P := Tryz.prog) T22 U9 IC.out
            go_simp
            try (go_wp2_with fail)
            refine hK.out _ _ ?_ (fun hHeld => ?_)
            · (try dsimp only)
              assumption
            clear hK K
            try simp only [Act.put, List.setIfInBounds_toArray, List.set_cons_zero, List.set_cons_succ]
            clear hcv IC
            refine wpAnyH_take (i := 24) (v := ?hve20_24) (List.getElem?_toArray.trans rfl) (by kernel_rfl) (by kernel_rfl) (by kernel_rfl) (fun _ _ _ h => h) (Or.inl ⟨by rfl, ?hye20_24⟩) (by assumption) ?hre20_24
            case hye20_24 => (intro wt hSw; (try dsimp only at hSw); go_simp; try (with_reducible rfl))
            try simp only [Act.put, List.setIfInBounds_toArray, List.set_cons_zero, List.set_cons_succ]
            refine wpAnyH_take (i := 25) (v := ?hve20_25) (List.getElem?_toArray.trans rfl) (by kernel_rfl) (by kernel_rfl) (by kernel_rfl) (fun _ _ _ h => h) (Or.inl ⟨by rfl, ?hye20_25⟩) (by assumption) ?hre20_25
            case hye20_25 => (intro wt hSw; (try dsimp only at hSw); go_simp; try (with_reducible rfl))
            try simp only [Act.put, List.setIfInBounds_toArray, List.set_cons_zero, List.set_cons_succ]
            refine wpAnyH_take (i := 26) (v := ?hve20_26) (List.getElem?_toArray.trans rfl) (by kernel_rfl) (by kernel_rfl) (by kernel_rfl) (fun _ _ _ h => h) (Or.inl ⟨by rfl, ?hye20_26⟩) (by assumption) ?hre20_26
            case hye20_26 => (intro wt hSw; (try dsimp only at hSw); go_simp; try (with_reducible rfl))
            try simp only [Act.put, List.setIfInBounds_toArray, List.set_cons_zero, List.set_cons_succ]
            refine wpAnyH_take (i := 27) (v := ?hve20_27) (List.getElem?_toArray.trans rfl) (by kernel_rfl) (by kernel_rfl) (by kernel_rfl) (fun _ _ _ h => h) (Or.inl ⟨by rfl, ?hye20_27⟩) (by assumption) ?hre20_27
            case hye20_27 => (intro wt hSw; (try dsimp only at hSw); go_simp; try (with_reducible rfl))
            try simp only [Act.put, List.setIfInBounds_toArray, List.set_cons_zero, List.set_cons_succ]
            refine wpAnyH_take (i := 29) (v := ?hve20_29) (List.getElem?_toArray.trans rfl) (by kernel_rfl) (by kernel_rfl) (by kernel_rfl) (fun _ _ _ h => h) (Or.inl ⟨by rfl, ?hye20_29⟩) (by assumption) ?hre20_29
            case hye20_29 => (intro wt hSw; (try dsimp only at hSw); go_simp; try (with_reducible rfl))
            try simp only [Act.put, List.setIfInBounds_toArray, List.set_cons_zero, List.set_cons_succ]
            refine wpAnyH_ready (rs := [28]) (by kernel_rfl) (by simp) ?_
            refine AllReadyH.cons (List.getElem?_toArray.trans rfl) (fun K hK => ?_) (AllReadyH.nil)
            go_simp
            go_at_call 18
            refine (C18.out _ ?_).mono ?_
            assumption
            rintro e vx ⟨rfl, kx⟩
            clear C18
            try (go_wp2_with fail)
            refine hK.out _ _ ?_ (fun hHeld => ?_)
            · (try dsimp only)
              assumption
            clear hK K
            try simp only [Act.put, List.setIfInBounds_toArray, List.set_cons_zero, List.set_cons_succ]
            refine wpAnyH_take (i := 30) (v := ?hve21_30) (List.getElem?_toArray.trans rfl) (by kernel_rfl) (by kernel_rfl) (by kernel_rfl) (fun _ _ _ h => h) (Or.inl ⟨by rfl, ?hye21_30⟩) (by assumption) ?hre21_30
            case hye21_30 => (intro wt hSw; (try dsimp only at hSw); go_simp; try (with_reducible rfl))
            try simp only [Act.put, List.setIfInBounds_toArray, List.set_cons_zero, List.set_cons_succ]
            refine wpAnyH_take (i := 31) (v := ?hve21_31) (List.getElem?_toArray.trans rfl) (by kernel_rfl) (by kernel_rfl) (by kernel_rfl) (fun _ _ _ h => h) (Or.inl ⟨by rfl, ?hye21_31⟩) (by assumption) ?hre21_31
            case hye21_31 => (intro wt hSw; (try dsimp only at hSw); go_simp; try (with_reducible rfl))
            try simp only [Act.put, List.setIfInBounds_toArray, List.set_cons_zero, List.set_cons_succ]
            refine wpAnyH_take (i := 32) (v := ?hve21_32) (List.getElem?_toArray.trans rfl) (by kernel_rfl) (by kernel_rfl) (by kernel_rfl) (fun _ _ _ h => h) (Or.inl ⟨by rfl, ?hye21_32⟩) (by assumption) ?hre21_32
            case hye21_32 => (intro wt hSw; (try dsimp only at hSw); go_simp; try (with_reducible rfl))
            try simp only [Act.put, List.setIfInBounds_toArray, List.set_cons_zero, List.set_cons_succ]
            refine wpAnyH_ready (rs := [33]) (by kernel_rfl) (by simp) ?_
            refine AllReadyH.cons (List.getElem?_toArray.trans rfl) (fun K hK => ?_) (AllReadyH.nil)
            go_simp
            go_at_call 10
            refine (C10.out _ ?_).mono ?_
            assumption
            rintro e vx ⟨rfl, kx⟩
            clear C10
            try (go_wp2_with fail)
            refine hK.out _ _ ?_ (fun hHeld => ?_)
            · (try dsimp only)
              assumption
            clear hK K
            try simp only [Act.put, List.setIfInBounds_toArray, List.set_cons_zero, List.set_cons_succ]
            refine wpAnyH_take (i := 34) (v := ?hve22_34) (List.getElem?_toArray.trans rfl) (by kernel_rfl) (by kernel_rfl) (by kernel_rfl) (fun _ _ _ h => h) (Or.inl ⟨by rfl, ?hye22_34⟩) (by assumption) ?hre22_34
            case hye22_34 => (intro wt hSw; (try dsimp only at hSw); go_simp; try (with_reducible rfl))
            try simp only [Act.put, List.setIfInBounds_toArray, List.set_cons_zero, List.set_cons_succ]
            refine wpAnyH_take (i := 35) (v := ?hve22_35) (List.getElem?_toArray.trans rfl) (by kernel_rfl) (by kernel_rfl) (by kernel_rfl) (fun _ _ _ h => h) (Or.inl ⟨by rfl, ?hye22_35⟩) (by assumption) ?hre22_35
            case hye22_35 => (intro wt hSw; (try dsimp only at hSw); go_simp; try (with_reducible rfl))
            try simp only [Act.put, List.setIfInBounds_toArray, List.set_cons_zero, List.set_cons_succ]
            refine wpAnyH_done (by kernel_rfl) ?_ _
            refine NoPanic.normal ?_
            go_wp2
            go_ret
            exact ⟨rfl, fin.out _ (by assumption)⟩
      · have hcv := run_toStr (P := Tryz.prog) T22 U9 IB.out
        go_simp
        try (go_wp2_with fail)
        refine hK.out _ _ ?_ (fun hHeld => ?_)
        · (try dsimp only)
          assumption
        clear hK K
        try simp only [Act.put, List.setIfInBounds_toArray, List.set_cons_zero, List.set_cons_succ]
        clear hcv IB
        refine wpAnyH_ready (rs := [11]) (by kernel_rfl) (by simp) ?_
        refine AllReadyH.cons (List.getElem?_toArray.trans rfl) (fun K hK => ?_) (AllReadyH.nil)
        have hcv := run_toStr (P := Tryz.prog) T22 U9 IA.out
        go_simp
        try (go_wp2_with fail)
        refine hK.out _ _ ?_ (fun hHeld => ?_)
        · (try dsimp only)
          assumption
        clear hK K
        try simp only [Act.put, List.setIfInBounds_toArray, List.set_cons_zero, List.set_cons_succ]
        clear hcv IA
        refine wpAnyH_take (i := 15) (v := ?hve23_15) (List.getElem?_toArray.trans rfl) (by kernel_rfl) (by kernel_rfl) (by kernel_rfl) (fun _ _ _ h => h) (Or.inl ⟨by rfl, ?hye23_15⟩) (by assumption) ?hre23_15
        case hye23_15 => (intro wt hSw; (try dsimp only at hSw); go_simp; try (with_reducible rfl))
        try simp only [Act.put, List.setIfInBounds_toArray, List.set_cons_zero, List.set_cons_succ]
        refine wpAnyH_take (i := 16) (v := ?hve23_16) (List.getElem?_toArray.trans rfl) (by kernel_rfl) (by kernel_rfl) (by kernel_rfl) (fun _ _ _ h => h) (Or.inl ⟨by rfl, ?hye23_16⟩) (by assumption) ?hre23_16
        case hye23_16 => (intro wt hSw; (try dsimp only at hSw); go_simp; try (with_reducible rfl))
        try simp only [Act.put, List.setIfInBounds_toArray, List.set_cons_zero, List.set_cons_succ]
        refine wpAnyH_take (i := 17) (v := ?hve23_17) (List.getElem?_toArray.trans rfl) (by kernel_rfl) (by kernel_rfl) (by kernel_rfl) (fun _ _ _ h => h) (Or.inl ⟨by rfl, ?hye23_17⟩) (by assumption) ?hre23_17
        case hye23_17 => (intro wt hSw; (try dsimp only at hSw); go_simp; try (with_reducible rfl))
        try simp only [Act.put, List.setIfInBounds_toArray, List.set_cons_zero, List.set_cons_succ]
        refine wpAnyH_take (i := 18) (v := ?hve23_18) (List.getElem?_toArray.trans rfl) (by kernel_rfl) (by kernel_rfl) (by kernel_rfl) (fun _ _ _ h => h) (Or.inl ⟨by rfl, ?hye23_18⟩) (by assumption) ?hre23_18
        case hye23_18 => (intro wt hSw; (try dsimp only at hSw); go_simp; try (with_reducible rfl))
        try simp only [Act.put, List.setIfInBounds_toArray, List.set_cons_zero, List.set_cons_succ]
        refine wpAnyH_take (i := 21) (v := ?hve23_21) (List.getElem?_toArray.trans rfl) (by kernel_rfl) (by kernel_rfl) (by kernel_rfl) (fun _ _ _ h => h) (Or.inl ⟨by rfl, ?hye23_21⟩) (by assumption) ?hre23_21
        case hye23_21 => (intro wt hSw; (try dsimp only at hSw); go_simp; try (with_reducible rfl))
        try simp only [Act.put, List.setIfInBounds_toArray, List.set_cons_zero, List.set_cons_succ]
        refine wpAnyH_ready (rs := [19]) (by kernel_rfl) (by simp) ?_
        refine AllReadyH.cons (List.getElem?_toArray.trans rfl) (fun K hK => ?_) (AllReadyH.nil)
        go_simp
        go_at_call 16
        refine (C16.out _ ?_).mono ?_
        assumption
        rintro e vx ⟨⟨a7, n7, c7, rfl, IC⟩, kx, bB⟩
        clear bB C16
        try (go_wp2_with fail)
        refine hK.out _ _ ?_ (fun hHeld => ?_)
        · (try dsimp only)
          assumption
        clear hK K
        try simp only [Act.put, List.setIfInBounds_toArray, List.set_cons_zero, List.set_cons_succ]
        refine wpAnyH_ready (rs := [20, 22]) (by kernel_rfl) (by simp) ?_
        refine AllReadyH.cons (List.getElem?_toArray.trans rfl) (fun K hK => ?_) (AllReadyH.cons (List.getElem?_toArray.trans rfl) (fun K hK => ?_) (AllReadyH.nil))
        · have hcv := run_toStr (P := Tryz.prog) T22 U9 IC.out
          go_simp
          try (go_wp2_with fail)
          refine hK.out _ _ ?_ (fun hHeld => ?_)
          · (try dsimp only)
            assumption
          clear hK K
          try simp only [Act.put, List.setIfInBounds_toArray, List.set_cons_zero, List.set_cons_succ]
          clear hcv IC
          refine wpAnyH_ready (rs := [22]) (by kernel_rfl) (by simp) ?_
          refine AllReadyH.cons (List.getElem?_toArray.trans rfl) (fun K hK => ?_) (AllReadyH.nil)
          go_simp
          go_at_call 17
          refine (C17.out _ ?_).mono ?_
          assumption
          rintro e vx ⟨⟨a8, n8, c8, rfl, ID⟩, kx, bB⟩
          clear bB C17
          try (go_wp2_with fail)
          refine hK.out _ _ ?_ (fun hHeld => ?_)
          · (try dsimp only)
            assumption
          clear hK K
          try simp only [Act.put, List.setIfInBounds_toArray, List.set_cons_zero, List.set_cons_succ]
          refine wpAnyH_ready (rs := [23]) (by kernel_rfl) (by simp) ?_
          refine AllReadyH.cons (List.getElem?_toArray.trans rfl) (fun K hK => ?_) (AllReadyH.nil)
          have hcv := run_toStr (P := Tryz.prog) T22 U9 ID.out
          go_simp
          try (go_wp2_with fail)
          refine hK.out _ _ ?_ (fun hHeld => ?_)
          · (try dsimp only)
            assumption
          clear hK K
          try simp only [Act.put, List.setIfInBounds_toArray, List.set_cons_zero, List.set_cons_succ]
          clear hcv ID
          refine wpAnyH_take (i := 24) (v := ?hve24_24) (List.getElem?_toArray.trans rfl) (by kernel_rfl) (by kernel_rfl) (by kernel_rfl) (fun _ _ _ h => h) (Or.inl ⟨by rfl, ?hye24_24⟩) (by assumption) ?hre24_24
          case hye24_24 => (intro wt hSw; (try dsimp only at hSw); go_simp; try (with_reducible rfl))
          try simp only [Act.put, List.setIfInBounds_toArray, List.set_cons_zero, List.set_cons_succ]
          refine wpAnyH_take (i := 25) (v := ?hve24_25) (List.getElem?_toArray.trans rfl) (by kernel_rfl) (by kernel_rfl) (by kernel_rfl) (fun _ _ _ h => h) (Or.inl ⟨by rfl, ?hye24_25⟩) (by assumption) ?hre24_25
          case hye24_25 => (intro wt hSw; (try dsimp only at hSw); go_simp; try (with_reducible rfl))
          try simp only [Act.put, List.setIfInBounds_toArray, List.set_cons_zero, List.set_cons_succ]
          refine wpAnyH_take (i := 26) (v := ?hve24_26) (List.getElem?_toArray.trans rfl) (by kernel_rfl) (by kernel_rfl) (by kernel_rfl) (fun _ _ _ h => h) (Or.inl ⟨by rfl, ?hye24_26⟩) (by assumption) ?hre24_26
          case hye24_26 => (intro wt hSw; (try dsimp only at hSw); go_simp; try (with_reducible rfl))
          try simp only [Act.put, List.setIfInBounds_toArray, List.set_cons_zero, List.set_cons_succ]
          refine wpAnyH_take (i := 27) (v := ?hve24_27) (List.getElem?_toArray.trans rfl) (by kernel_rfl) (by kernel_rfl) (by kernel_rfl) (fun _ _ _ h => h) (Or.inl ⟨by rfl, ?hye24_27⟩) (by assumption) ?hre24_27
          case hye24_27 => (intro wt hSw; (try dsimp only at hSw); go_simp; try (with_reducible rfl))
          try simp only [Act.put, List.setIfInBounds_toArray, List.set_cons_zero, List.set_cons_succ]
          refine wpAnyH_take (i := 29) (v := ?hve24_29) (List.getElem?_toArray.trans rfl) (by kernel_rfl) (by kernel_rfl) (by kernel_rfl) (fun _ _ _ h => h) (Or.inl ⟨by rfl, ?hye24_29⟩) (by assumption) ?hre24_29
          case hye24_29 => (intro wt hSw; (try dsimp only at hSw); go_simp; try (with_reducible rfl))
          try simp only [Act.put, List.setIfInBounds_toArray, List.set_cons_zero, List.set_cons_succ]
          refine wpAnyH_ready (rs := [28]) (by kernel_rfl) (by simp) ?_
          refine AllReadyH.cons (List.getElem?_toArray.trans rfl) (fun K hK => ?_) (AllReadyH.nil)
          go_simp
          go_at_call 18
          refine (C18.out _ ?_).mono ?_
          assumption
          rintro e vx ⟨rfl, kx⟩
          clear C18
          try (go_wp2_with fail)
          refine hK.out _ _ ?_ (fun hHeld => ?_)
          · (try dsimp only)
            assumption
          clear hK K
          try simp only [Act.put, List.setIfInBounds_toArray, List.set_cons_zero, List.set_cons_succ]
          refine wpAnyH_take (i := 30) (v := ?hve25_30) (List.getElem?_toArray.trans rfl) (by kernel_rfl) (by kernel_rfl) (by kernel_rfl) (fun _ _ _ h => h) (Or.inl ⟨by rfl, ?hye25_30⟩) (by assumption) ?hre25_30
          case hye25_30 => (intro wt hSw; (try dsimp only at hSw); go_simp; try (with_reducible rfl))
          try simp only [Act.put, List.setIfInBounds_toArray, List.set_cons_zero, List.set_cons_succ]
          refine wpAnyH_take (i := 31) (v := ?hve25_31) (List.getElem?_toArray.trans rfl) (by kernel_rfl) (by kernel_rfl) (by kernel_rfl) (fun _ _ _ h => h) (Or.inl ⟨by rfl, ?hye25_31⟩) (by assumption) ?hre25_31
          case hye25_31 => (intro wt hSw; (try dsimp only at hSw); go_simp; try (with_reducible rfl))
          try simp only [Act.put, List.setIfInBounds_toArray, List.set_cons_zero, List.set_cons_succ]
          refine wpAnyH_take (i := 32) (v := ?hve25_32) (List.getElem?_toArray.trans rfl) (by kernel_rfl) (by kernel_rfl) (by kernel_rfl) (fun _ _ _ h => h) (Or.inl ⟨by rfl, ?hye25_32⟩) (by assumption) ?hre25_32
          case hye25_32 => (intro wt hSw; (try dsimp only at hSw); go_simp; try (with_reducible rfl))
          try simp only [Act.put, List.setIfInBounds_toArray, List.set_cons_zero, List.set_cons_succ]
          refine wpAnyH_ready (rs := [33]) (by kernel_rfl) (by simp) ?_
          refine AllReadyH.cons (List.getElem?_toArray.trans rfl) (fun K hK => ?_) (AllReadyH.nil)
          go_simp
          go_at_call 10
          refine (C10.out _ ?_).mono ?_
          assumption
          rintro e vx ⟨rfl, kx⟩
          clear C10
          try (go_wp2_with fail)
          refine hK.out _ _ ?_ (fun hHeld => ?_)
          · (try dsimp only)
            assumption
          clear hK K
          try simp only [Act.put, List.setIfInBounds_toArray, List.set_cons_zero, List.set_cons_succ]
          refine wpAnyH_take (i := 34) (v := ?hve26_34) (List.getElem?_toArray.trans rfl) (by kernel_rfl) (by kernel_rfl) (by kernel_rfl) (fun _ _ _ h => h) (Or.inl ⟨by rfl, ?hye26_34⟩) (by assumption) ?hre26_34
          case hye26_34 => (intro wt hSw; (try dsimp only at hSw); go_simp; try (with_reducible rfl))
          try simp only [Act.put, List.setIfInBounds_toArray, List.set_cons_zero, List.set_cons_succ]
          refine wpAnyH_take (i := 35) (v := ?hve26_35) (List.getElem?_toArray.trans rfl) (by kernel_rfl) (by kernel_rfl) (by kernel_rfl) (fun _ _ _ h => h) (Or.inl ⟨by rfl, ?hye26_35⟩) (by assumption) ?hre26_35
          case hye26_35 => (intro wt hSw; (try dsimp only at hSw); go_simp; try (with_reducible rfl))
          try simp only [Act.put, List.setIfInBounds_toArray, List.set_cons_zero, List.set_cons_succ]
          refine wpAnyH_done (by kernel_rfl) ?_ _
          refine NoPanic.normal ?_
          go_wp2
          go_ret
          exact ⟨rfl, fin.out _ (by assumption)⟩
        · go_simp
          go_at_call 17
          refine (C17.out _ ?_).mono ?_
          assumption
          rintro e vx ⟨⟨a8, n8, c8, rfl, ID⟩, kx, bB⟩
          have IC := Lib.hid (IC.out.below bB.out)
          clear bB C17
          try (go_wp2_with fail)
          refine hK.out _ _ ?_ (fun hHeld => ?_)
          · (try dsimp only)
            assumption
          clear hK K
          try simp only [Act.put, List.setIfInBounds_toArray, List.set_cons_zero, List.set_cons_succ]
          refine wpAnyH_ready (rs := [20, 23]) (by kernel_rfl) (by simp) ?_
          refine AllReadyH.cons (List.getElem?_toArray.trans rfl) (fun K hK => ?_) (AllReadyH.cons (List.getElem?_toArray.trans rfl) (fun K hK => ?_) (AllReadyH.nil))
          · have hcv := run_toStr (P := Tryz.prog) T22 U9 IC.out
            go_simp
            try (go_wp2_with fail)
            refine hK.out _ _ ?_ (fun hHeld => ?_)
            · (try dsimp only)
              assumption
            clear hK K
            try simp only [Act.put, List.setIfInBounds_toArray, List.set_cons_zero, List.set_cons_succ]
            clear hcv IC
            refine wpAnyH_ready (rs := [23]) (by kernel_rfl) (by simp) ?_
            refine AllReadyH.cons (List.getElem?_toArray.trans rfl) (fun K hK => ?_) (AllReadyH.nil)
            have hcv := run_toStr (P := Tryz.prog) T22 U9 ID.out
            go_simp
            try (go_wp2_with fail)
            refine hK.out _ _ ?_ (fun hHeld => ?_)
            · (try dsimp only)
              assumption
            clear hK K
            try simp only [Act.put, List.setIfInBounds_toArray, List.set_cons_zero, List.set_cons_succ]
            clear hcv ID
            refine wpAnyH_take (i := 24) (v := ?hve27_24) (List.getElem?_toArray.trans rfl) (by kernel_rfl) (by kernel_rfl) (by kernel_rfl) (fun _ _ _ h => h) (Or.inl ⟨by rfl, ?hye27_24⟩) (by assumption) ?hre27_24
            case hye27_24 => (intro wt hSw; (try dsimp only at hSw); go_simp; try (with_reducible rfl))
            try simp only [Act.put, List.setIfInBounds_toArray, List.set_cons_zero, List.set_cons_succ]
            refine wpAnyH_take (i := 25) (v := ?hve27_25) (List.getElem?_toArray.trans rfl) (by kernel_rfl) (by kernel_rfl) (by kernel_rfl) (fun _ _ _ h => h) (Or.inl ⟨by rfl, ?hye27_25⟩) (by assumption) ?hre27_25
            case hye27_25 => (intro wt hSw; (try dsimp only at hSw); go_simp; try (with_reducible rfl))
            try simp only [Act.put, List.setIfInBounds_toArray, List.set_cons_zero, List.set_cons_succ]
            refine wpAnyH_take (i := 26) (v := ?hve27_26) (List.getElem?_toArray.trans rfl) (by kernel_rfl) (by kernel_rfl) (by kernel_rfl) (fun _ _ _ h => h) (Or.inl ⟨by rfl, ?hye27_26⟩) (by assumption) ?hre27_26
            case hye27_26 => (intro wt hSw; (try dsimp only at hSw); go_simp; try (with_reducible rfl))
            try simp only [Act.put, List.setIfInBounds_toArray, List.set_cons_zero, List.set_cons_succ]
            refine wpAnyH_take (i := 27) (v := ?hve27_27) (List.getElem?_toArray.trans rfl) (by kernel_rfl) (by kernel_rfl) (by kernel_rfl) (fun _ _ _ h => h) (Or.inl ⟨by rfl, ?hye27_27⟩) (by assumption) ?hre27_27
            case hye27_27 => (intro wt hSw; (try dsimp only at hSw); go_simp; try (with_reducible rfl))
            try simp only [Act.put, List.setIfInBounds_toArray, List.set_cons_zero, List.set_cons_succ]
            refine wpAnyH_take (i := 29) (v := ?hve27_29) (List.getElem?_toArray.trans rfl) (by kernel_rfl) (by kernel_rfl) (by kernel_rfl) (fun _ _ _ h => h) (Or.inl ⟨by rfl, ?hye27_29⟩) (by assumption) ?hre27_29
            case hye27_29 => (intro wt hSw; (try dsimp only at hSw); go_simp; try (with_reducible rfl))
            try simp only [Act.put, List.setIfInBounds_toArray, List.set_cons_zero, List.set_cons_succ]
            refine wpAnyH_ready (rs := [28]) (by kernel_rfl) (by simp) ?_
            refine AllReadyH.cons (List.getElem?_toArray.trans rfl) (fun K hK => ?_) (AllReadyH.nil)
            go_simp
            go_at_call 18
            refine (C18.out _ ?_).mono ?_
            assumption
            rintro e vx ⟨rfl, kx⟩
            clear C18
            try (go_wp2_with fail)
            refine hK.out _ _ ?_ (fun hHeld => ?_)
            · (try dsimp only)
              assumption
            clear hK K
            try simp only [Act.put, List.setIfInBounds_toArray, List.set_cons_zero, List.set_cons_succ]
            refine wpAnyH_take (i := 30) (v := ?hve28_30) (List.getElem?_toArray.trans rfl) (by kernel_rfl) (by kernel_rfl) (by kernel_rfl) (fun _ _ _ h => h) (Or.inl ⟨by rfl, ?hye28_30⟩) (by assumption) ?hre28_30
            case hye28_30 => (intro wt hSw; (try dsimp only at hSw); go_simp; try (with_reducible rfl))
            try simp only [Act.put, List.setIfInBounds_toArray, List.set_cons_zero, List.set_cons_succ]
            refine wpAnyH_take (i := 31) (v := ?hve28_31) (List.getElem?_toArray.trans rfl) (by kernel_rfl) (by kernel_rfl) (by kernel_rfl) (fun _ _ _ h => h) (Or.inl ⟨by rfl, ?hye28_31⟩) (by assumption) ?hre28_31
            case hye28_31 => (intro wt hSw; (try dsimp only at hSw); go_simp; try (with_reducible rfl))
            try simp only [Act.put, List.setIfInBounds_toArray, List.set_cons_zero, List.set_cons_succ]
            refine wpAnyH_take (i := 32) (v := ?hve28_32) (List.getElem?_toArray.trans rfl) (by kernel_rfl) (by kernel_rfl) (by kernel_rfl) (fun _ _ _ h => h) (Or.inl ⟨by rfl, ?hye28_32⟩) (by assumption) ?hre28_32
            case hye28_32 => (intro wt hSw; (try dsimp only at hSw); go_simp; try (with_reducible rfl))
            try simp only [Act.put, List.setIfInBounds_toArray, List.set_cons_zero, List.set_cons_succ]
            refine wpAnyH_ready (rs := [33]) (by kernel_rfl) (by simp) ?_
            refine AllReadyH.cons (List.getElem?_toArray.trans rfl) (fun K hK => ?_) (AllReadyH.nil)
            go_simp
            go_at_call 10
            refine (C10.out _ ?_).mono ?_
            assumption
            rintro e vx ⟨rfl, kx⟩
            clear C10
            try (go_wp2_with fail)
            refine hK.out _ _ ?_ (fun hHeld => ?_)
            · (try dsimp only)
              assumption
            clear hK K
            try simp only [Act.put, List.setIfInBounds_toArray, List.set_cons_zero, List.set_cons_succ]
            refine wpAnyH_take (i := 34) (v := ?hve29_34) (List.getElem?_toArray.trans rfl) (by kernel_rfl) (by kernel_rfl) (by kernel_rfl) (fun _ _ _ h => h) (Or.inl ⟨by rfl, ?hye29_34⟩) (by assumption) ?hre29_34
            case hye29_34 => (intro wt hSw; (try dsimp only at hSw); go_simp; try (with_reducible rfl))
            try simp only [Act.put, List.setIfInBounds_toArray, List.set_cons_zero, List.set_cons_succ]
            refine wpAnyH_take (i := 35) (v := ?hve29_35) (List.getElem?_toArray.trans rfl) (by kernel_rfl) (by kernel_rfl) (by kernel_rfl) (fun _ _ _ h => h) (Or.inl ⟨by rfl, ?hye29_35⟩) (by assumption) ?hre29_35
            case hye29_35 => (intro wt hSw; (try dsimp only at hSw); go_simp; try (with_reducible rfl))
            try simp only [Act.put, List.setIfInBounds_toArray, List.set_cons_zero, List.set_cons_succ]
            refine wpAnyH_done (by kernel_rfl) ?_ _
            refine NoPanic.normal ?_
            go_wp2
            go_ret
            exact ⟨rfl, fin.out _ (by assumption)⟩
          · have hcv := run_toStr (P := Tryz.prog) T22 U9 ID.out
            go_simp
            try (go_wp2_with fail)
            refine hK.out _ _ ?_ (fun hHeld => ?_)
            · (try dsimp only)
              assumption
            clear hK K
            try simp only [Act.put, List.setIfInBounds_toArray, List.set_cons_zero, List.set_cons_succ]
            clear hcv ID
            refine wpAnyH_ready (rs := [20]) (by kernel_rfl) (by simp) ?_
            refine AllReadyH.cons (List.getElem?_toArray.trans rfl) (fun K hK => ?_) (AllReadyH.nil)
            have hcv := run_toStr (P := Tryz.prog) T22 U9 IC.out
            go_simp
            try (go_wp2_with fail)
            refine hK.out _ _ ?_ (fun hHeld => ?_)
            · (try dsimp only)
              assumption
            clear hK K
            try simp only [Act.put, List.setIfInBounds_toArray, List.set_cons_zero, List.set_cons_succ]
            clear hcv IC
            refine wpAnyH_take (i := 24) (v := ?hve30_24) (List.getElem?_toArray.trans rfl) (by kernel_rfl) (by kernel_rfl) (by kernel_rfl) (fun _ _ _ h => h) (Or.inl ⟨by rfl, ?hye30_24⟩) (by assumption) ?hre30_24
            case hye30_24 => (intro wt hSw; (try dsimp only at hSw); go_simp; try (with_reducible rfl))
            try simp only [Act.put, List.setIfInBounds_toArray, List.set_cons_zero, List.set_cons_succ]
            refine wpAnyH_take (i := 25) (v := ?hve30_25) (List.getElem?_toArray.trans rfl) (by kernel_rfl) (by kernel_rfl) (by kernel_rfl) (fun _ _ _ h => h) (Or.inl ⟨by rfl, ?hye30_25⟩) (by assumption) ?hre30_25
            case hye30_25 => (intro wt hSw; (try dsimp only at hSw); go_simp; try (with_reducible rfl))
            try simp only [Act.put, List.setIfInBounds_toArray, List.set_cons_zero, List.set_cons_succ]
            refine wpAnyH_take (i := 26) (v := ?hve30_26) (List.getElem?_toArray.trans rfl) (by kernel_rfl) (by kernel_rfl) (by kernel_rfl) (fun _ _ _ h => h) (Or.inl ⟨by rfl, ?hye30_26⟩) (by assumption) ?hre30_26
            case hye30_26 => (intro wt hSw; (try dsimp only at hSw); go_simp; try (with_reducible rfl))
            try simp only [Act.put, List.setIfInBounds_toArray, List.set_cons_zero, List.set_cons_succ]
            refine wpAnyH_take (i := 27) (v := ?hve30_27) (List.getElem?_toArray.trans rfl) (by kernel_rfl) (by kernel_rfl) (by kernel_rfl) (fun _ _ _ h => h) (Or.inl ⟨by rfl, ?hye30_27⟩) (by assumption) ?hre30_27
            case hye30_27 => (intro wt hSw; (try dsimp only at hSw); go_simp; try (with_reducible rfl))
            try simp only [Act.put, List.setIfInBounds_toArray, List.set_cons_zero, List.set_cons_succ]
            refine wpAnyH_take (i := 29) (v := ?hve30_29) (List.getElem?_toArray.trans rfl) (by kernel_rfl) (by kernel_rfl) (by kernel_rfl) (fun _ _ _ h => h) (Or.inl ⟨by rfl, ?hye30_29⟩) (by assumption) ?hre30_29
            case hye30_29 => (intro wt hSw; (try dsimp only at hSw); go_simp; try (with_reducible rfl))
            try simp only [Act.put, List.setIfInBounds_toArray, List.set_cons_zero, List.set_cons_succ]
            refine wpAnyH_ready (rs := [28]) (by kernel_rfl) (by simp) ?_
            refine AllReadyH.cons (List.getElem?_toArray.trans rfl) (fun K hK => ?_) (AllReadyH.nil)
            go_simp
            go_at_call 18
            refine (C18.out _ ?_).mono ?_
            assumption
            rintro e vx ⟨rfl, kx⟩
            clear C18
            try (go_wp2_with fail)
            refine hK.out _ _ ?_ (fun hHeld => ?_)
            · (try dsimp only)
              assumption
            clear hK K
            try simp only [Act.put, List.setIfInBounds_toArray, List.set_cons_zero, List.set_cons_succ]
            refine wpAnyH_take (i := 30) (v := ?hve31_30) (List.getElem?_toArray.trans rfl) (by kernel_rfl) (by kernel_rfl) (by kernel_rfl) (fun _ _ _ h => h) (Or.inl ⟨by rfl, ?hye31_30⟩) (by assumption) ?hre31_30
            case hye31_30 => (intro wt hSw; (try dsimp only at hSw); go_simp; try (with_reducible rfl))
            try simp only [Act.put, List.setIfInBounds_toArray, List.set_cons_zero, List.set_cons_succ]
            refine wpAnyH_take (i := 31) (v := ?hve31_31) (List.getElem?_toArray.trans rfl) (by kernel_rfl) (by kernel_rfl) (by kernel_rfl) (fun _ _ _ h => h) (Or.inl ⟨by rfl, ?hye31_31⟩) (by assumption) ?hre31_31
            case hye31_31 => (intro wt hSw; (try dsimp only at hSw); go_simp; try (with_reducible rfl))
            try simp only [Act.put, List.setIfInBounds_toArray, List.set_cons_zero, List.set_cons_succ]
            refine wpAnyH_take (i := 32) (v := ?hve31_32) (List.getElem?_toArray.trans rfl) (by kernel_rfl) (by kernel_rfl) (by kernel_rfl) (fun _ _ _ h => h) (Or.inl ⟨by rfl, ?hye31_32⟩) (by assumption) ?hre31_32
            case hye31_32 => (intro wt hSw; (try dsimp only at hSw); go_simp; try (with_reducible rfl))
            try simp only [Act.put, List.setIfInBounds_toArray, List.set_cons_zero, List.set_cons_succ]
            refine wpAnyH_ready (rs := [33]) (by kernel_rfl) (by simp) ?_
            refine AllReadyH.cons (List.getElem?_toArray.trans rfl) (fun K hK => ?_) (AllReadyH.nil)
            go_simp
            go_at_call 10
            refine (C10.out _ ?_).mono ?_
            assumption
            rintro e vx ⟨rfl, kx⟩
            clear C10
            try (go_wp2_with fail)
            refine hK.out _ _ ?_ (fun hHeld => ?_)
            · (try dsimp only)
              assumption
            clear hK K
            try simp only [Act.put, List.setIfInBounds_toArray, List.set_cons_zero, List.set_cons_succ]
            refine wpAnyH_take (i := 34) (v := ?hve32_34) (List.getElem?_toArray.trans rfl) (by kernel_rfl) (by kernel_rfl) (by kernel_rfl) (fun _ _ _ h => h) (Or.inl ⟨by rfl, ?hye32_34⟩) (by assumption) ?hre32_34
            case hye32_34 => (intro wt hSw; (try dsimp only at hSw); go_simp; try (with_reducible rfl))
            try simp only [Act.put, List.setIfInBounds_toArray, List.set_cons_zero, List.set_cons_succ]
            refine wpAnyH_take (i := 35) (v := ?hve32_35) (List.getElem?_toArray.trans rfl) (by kernel_rfl) (by kernel_rfl) (by kernel_rfl) (fun _ _ _ h => h) (Or.inl ⟨by rfl, ?hye32_35⟩) (by assumption) ?hre32_35
            case hye32_35 => (intro wt hSw; (try dsimp only at hSw); go_simp; try (with_reducible rfl))
            try simp only [Act.put, List.setIfInBounds_toArray, List.set_cons_zero, List.set_cons_succ]
            refine wpAnyH_done (by kernel_rfl) ?_ _
            refine NoPanic.normal ?_
            go_wp2
            go_ret
            exact ⟨rfl, fin.out _ (by assumption)⟩
end Go.Proofs.YtbgockggbpmhnaaGreatDoor
