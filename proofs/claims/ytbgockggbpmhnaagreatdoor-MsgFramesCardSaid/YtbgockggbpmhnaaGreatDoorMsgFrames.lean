/-
  THE LAW 'MsgFrames' (tollbarlaw11): for every message and every row of bytes it answers true and leaves what came in as it was: the given row, and the card that ties the row's listed variables to the program's text.
  Conditions: the given row's own, no other.
-/
import Derived.Test.YtbgockggbpmhnaaGreatDoorCards
import Derived.Test.YtbgockggbpmhnaaGreatDoorTie
import Derived.Test.YtbgockggbpmhnaaGreatDoorMsgW
import Derived.Test.YtbgockggbpmhnaaGreatDoorMsgF
import Derived.WalkKit
import Derived.ProofKit
import Derived.OpenShut
import Derived.ChangeOld
import Derived.Below
import Derived.Carry
import Derived.Deep.DeepHandedRow
import Derived.SevenTiedAt
namespace Go.Proofs.YtbgockggbpmhnaaGreatDoor
open Go Go.RowKit

set_option maxRecDepth 100000 in
set_option maxHeartbeats 16000000 in
theorem msgFrames_any (x : RM)  (a : Option Addr) (c : Nat) (l : List UInt8) (w : World) (hE : Env w) (hf : x.Fit w) (hd : x.dn ≤ roomB) (hb : ∀ y ∈ x.es, y.n ≤ roomB) (hv : IsB w (.slice a l.length c) l) (hl47 : l.length ≤ roomB) :
    Calls Tryz.prog 4 #[x.val, .slice a l.length c] w fun e w' => e = .returned (.bool true) ∧ Below w.heap.size w w' := by
  have hroom := PK.resM_room (r := PK.openM l) (fun m h => by
    rw [openM_eq] at h
    split at h
    · cases h
    · exact (PK.decM_back h).2)
  have HL := Lib.hid (fun (V : World) (b : Below w.heap.size w V) => longMsg_any x V (hf.below b) hb)
  have HSu := Lib.hid (fun (V : World) (b : Below w.heap.size w V) => sure_any V (hE.below b))
  have hshort : x.long = false → (PK.encM x.msg).length + 1000 ≤ roomB ∧ x.en ≤ 1000 := fun h => short_room hf h
  have HG := Lib.hid (fun (V : World) (b : Below w.heap.size w V) (hn : x.en ≤ 1000) => giveMsg_any x V (hf.below b) hn hd hb)
  have HE2 := Lib.hid (fun (V : World) (b : Below w.heap.size w V) (hr : (PK.encM x.msg).length + 1000 ≤ roomB) => rencM_any x V (hf.below b) hr)
  have HSe : Hid (∀ (V : World) (y : RM), Below w.heap.size w V → y.Fit V → y.msg = x.msg → (PK.encM x.msg).length + 1000 ≤ roomB → Calls Tryz.prog 22 #[y.val] V fun e w' => RW V w' e (PK.sealM x.msg)) := fun V y b hy hm hr => by
    rw [← hm] at hr ⊢
    exact mseal_any y V (hE.below b) hy hr
  have HRs : Hid (∀ (V : World) (a : Option Addr) (n c : Nat), (PK.encM x.msg).length = n → IsB V (.slice a n c) (PK.encM x.msg) → Calls Tryz.prog 19 #[.int .u8 109, .slice a n c] V fun e w' => (∃ a n c r, e = .returned (.tuple #[.slice a n c, r]) ∧ IsB w' (.slice a n c) (PK.sealM x.msg)) ∧ Below V.heap.size V w') := fun V a n c hn hi =>
    (rseal_any a n c (PK.encM x.msg) V hn hi).mono fun e w' ⟨h, b⟩ => by
      rcases h with ⟨hlt, rfl⟩ | ⟨hlt, a', n', c', rfl, hh⟩
      · exact ⟨⟨none, 0, 0, _, rfl, by unfold PK.sealM; rw [if_pos hlt]; exact IsB.nil _⟩, b⟩
      · exact ⟨⟨a', n', c', _, rfl, by unfold PK.sealM; rw [if_neg hlt]; exact hh.out.2.1.isB⟩, b⟩
  have HD : Hid (∀ V, Below w.heap.size w V → Calls Tryz.prog 20 #[.slice a l.length c] V fun e w' => (∃ y : RM, e = .returned (.tuple #[y.val, errV (PK.errM (PK.openM l))]) ∧ y.Fit w' ∧ y.msg = PK.resM (PK.openM l)) ∧ Below V.heap.size V w') := fun V b => (mopen_any a l.length c l V (hE.below b) rfl (hv.below b) hl47).mono fun _ _ h => h.uni
  have HR : Hid (∀ V, Below w.heap.size w V → Calls Tryz.prog 21 #[.slice a l.length c] V fun e w' => (∃ y : RM, e = .returned (.tuple #[y.val, intV (PK.errM (PK.openM l))]) ∧ y.Fit w' ∧ y.msg = PK.resM (PK.openM l)) ∧ Below V.heap.size V w') := fun V b => (ropenM_any a l.length c l V rfl (hv.below b) hl47).mono fun _ _ h => h.uni
  have HNum : Hid (∀ V, Below w.heap.size w V → Calls Tryz.prog 18 #[errV (PK.errM (PK.openM l))] V fun e w' => e = .returned (.int .i64 (PK.errM (PK.openM l) : Nat)) ∧ Below V.heap.size V w') := fun V b => num_any _ V (hE.below b)
  have HEn : Hid (∀ (V : World) (y : RM), Below w.heap.size w V → y.Fit V → y.msg = PK.resM (PK.openM l) → Calls Tryz.prog 16 #[y.val] V fun e w' => RW V w' e (PK.encM (PK.resM (PK.openM l)))) := fun V y b hy hm => by
    rw [← hm] at hroom ⊢
    exact encM_any y V (hE.below b) hy hroom
  have HRn : Hid (∀ (V : World) (y : RM), y.Fit V → y.msg = PK.resM (PK.openM l) → Calls Tryz.prog 17 #[y.val] V fun e w' => RW V w' e (PK.encM (PK.resM (PK.openM l)))) := fun V y hy hm => by
    rw [← hm] at hroom ⊢
    exact rencM_any y V hy hroom
  have HSh := Lib.hid hshort
  generalize x.long = LG at *
  have FM := Lib.hid hf
  obtain ⟨mkd, mfr, mto, mtm, mix, mlt, mcm, mro, mok, moff, mda, mdn, mdc, md, mea, men, mec, mes⟩ := x
  obtain ⟨msg, hmsg⟩ : ∃ m, m = RM.msg ⟨mkd, mfr, mto, mtm, mix, mlt, mcm, mro, mok, moff, mda, mdn, mdc, md, mea, men, mec, mes⟩ := ⟨_, rfl⟩
  rw [← hmsg] at HG HE2 HSe HRs HSh
  simp only [RM.val] at HL HG HE2 ⊢
  generalize PK.openM l = r at *
  clear hE hf hd hb hshort hmsg hv hl47 hroom
  obtain ⟨W0, hW0⟩ : ∃ W, W = w.alloc (.cells #[.int .i64 mkd, .int .i64 mfr, .int .i64 mto, .int .i64 mtm, .int .i64 mix, .int .i64 mlt, .int .i64 mcm, .int .i64 mro, .bool mok, .int .i64 moff, .slice mda mdn mdc, .slice mea men mec] 25) := ⟨_, rfl⟩
  have g0 : Hid (W0.heap[w.heap.size]? = some (.cells #[.int .i64 mkd, .int .i64 mfr, .int .i64 mto, .int .i64 mtm, .int .i64 mix, .int .i64 mlt, .int .i64 mcm, .int .i64 mro, .bool mok, .int .i64 moff, .slice mda mdn mdc, .slice mea men mec] 25)) := Lib.hid (by rw [hW0]; exact heap_alloc_new _ _)
  have hB0 : Hid (Below w.heap.size w W0) := Lib.hid (by rw [hW0]; exact (Below.refl _ _).alloc (Nat.le_refl _) _)
  have HL1 := Lib.hid (HL.out W0 hB0.out)
  obtain ⟨⟨d0, d1, d2, d3, d4, d5, d6, d7, d8, d9, da, db⟩, _⟩ := cells12 g0.out
  cases LG with
  | true =>
    clear HL HG HE2 HSh HSe HRs HD HR HNum HEn HRn
    go_enter Tryz.func4, Tryz.ntmps4
    go_wp2_with fail
    rw [← hW0]
    clear hW0
    refine HL1.out.mono ?_
    rintro e w1 ⟨rfl, b1⟩
    have B1 : Hid (Below w.heap.size w w1) := hB0.out.trans (b1.mono hB0.out.size)
    have HS1 := Lib.hid (HSu.out w1 B1.out)
    clear HL1 b1 HSu d0 d1 d2 d3 d4 d5 d6 d7 d8 d9 da db
    go_wp2_with fail
    refine HS1.out.mono ?_
    rintro e w2 ⟨rfl, b2⟩
    have B2 : Hid (Below w.heap.size w w2) := B1.out.trans (b2.mono B1.out.size)
    clear HS1 b2
    go_wp2
    go_ret
    exact ⟨rfl, B2.out⟩
  | false =>
    obtain ⟨hr, hen⟩ := HSh.out rfl
    have HRm := Lib.hid hr
    have HEe := Lib.hid hen
    clear HL HSh hr hen
    go_enter Tryz.func4, Tryz.ntmps4
    go_wp2_with fail
    rw [← hW0]
    clear hW0
    refine HL1.out.mono ?_
    rintro e w1 ⟨rfl, b1⟩
    have G1 := Lib.hid ((b1.block _ (Array.getElem?_eq_some_iff.1 g0.out).1).trans g0.out)
    have B1 : Hid (Below w.heap.size w w1) := hB0.out.trans (b1.mono hB0.out.size)
    have HE3 := Lib.hid (HE2.out w1 B1.out HRm.out)
    clear HL1 b1 HE2 g0 hB0 d0 d1 d2 d3 d4 d5 d6 d7 d8 d9 da db
    obtain ⟨⟨d0, d1, d2, d3, d4, d5, d6, d7, d8, d9, da, db⟩, _⟩ := cells12 G1.out
    go_wp2_with fail
    refine HE3.out.mono ?_
    rintro e u2 ⟨⟨a2, n2, c2, rfl, hn2, o2, _⟩, b2⟩
    have G1b := Lib.hid ((b2.block _ (Array.getElem?_eq_some_iff.1 G1.out).1).trans G1.out)
    have B1b : Hid (Below w.heap.size w u2) := B1.out.trans (b2.mono B1.out.size)
    have HR2 := Lib.hid (HRs.out u2 a2 n2 c2 hn2 o2.isB)
    clear HE3 b2 o2 hn2 HRs G1 B1 d0 d1 d2 d3 d4 d5 d6 d7 d8 d9 da db
    go_wp2_with fail
    refine HR2.out.mono ?_
    rintro e u3 ⟨⟨a3, n3, c3, r3, rfl, i3⟩, b3⟩
    have G1 := Lib.hid ((b3.block _ (Array.getElem?_eq_some_iff.1 G1b.out).1).trans G1b.out)
    have B1 : Hid (Below w.heap.size w u3) := B1b.out.trans (b3.mono B1b.out.size)
    have I3 := Lib.hid i3
    have HD1 := Lib.hid (HD.out u3 B1.out)
    clear HR2 b3 i3 G1b B1b HD
    obtain ⟨⟨d0, d1, d2, d3, d4, d5, d6, d7, d8, d9, da, db⟩, _⟩ := cells12 G1.out
    go_wp2_with fail
    refine HD1.out.mono ?_
    rintro e w2 ⟨⟨x, rfl, hx, hxm⟩, b2⟩
    have I4 := Lib.hid (I3.out.below b2)
    clear I3
    have G2 := Lib.hid ((b2.block _ (Array.getElem?_eq_some_iff.1 G1.out).1).trans G1.out)
    have B2 : Hid (Below w.heap.size w w2) := B1.out.trans (b2.mono B1.out.size)
    have FX2 := Lib.hid hx
    have HXM := Lib.hid hxm
    clear HD1 b2 hx hxm G1 B1 d0 d1 d2 d3 d4 d5 d6 d7 d8 d9 da db
    obtain ⟨xkd, xfr, xto, xtm, xix, xlt, xcm, xro, xok, xoff, xda, xdn, xdc, xd, xea, xen, xec, xes⟩ := x
    simp only [RM.val]
    obtain ⟨Wa, hWa⟩ : ∃ W, W = w2.alloc (.cells #[.int .i64 xkd, .int .i64 xfr, .int .i64 xto, .int .i64 xtm, .int .i64 xix, .int .i64 xlt, .int .i64 xcm, .int .i64 xro, .bool xok, .int .i64 xoff, .slice xda xdn xdc, .slice xea xen xec] 30) := ⟨_, rfl⟩
    obtain ⟨Xb, hXb⟩ : ∃ Z, w2.heap.size = Z := ⟨_, rfl⟩
    have bWa : Below w2.heap.size w2 Wa := by rw [hWa]; exact (Below.refl _ _).alloc (Nat.le_refl _) _
    have gX0 : Wa.heap[Xb]? = some (.cells #[.int .i64 xkd, .int .i64 xfr, .int .i64 xto, .int .i64 xtm, .int .i64 xix, .int .i64 xlt, .int .i64 xcm, .int .i64 xro, .bool xok, .int .i64 xoff, .slice xda xdn xdc, .slice xea xen xec] 30) := by rw [hWa, ← hXb]; exact heap_alloc_new _ _
    have Ba : Hid (Below w.heap.size w Wa) := Lib.hid (B2.out.trans (bWa.mono B2.out.size))
    have GM := Lib.hid ((bWa.block _ (Array.getElem?_eq_some_iff.1 G2.out).1).trans G2.out)
    have FXa := Lib.hid (FX2.out.below bWa)
    have I5 := Lib.hid (I4.out.below bWa)
    have GX := Lib.hid gX0
    have HR1 := Lib.hid (HR.out Wa Ba.out)
    go_wp2_with fail
    rw [← hWa]
    try rw [hXb]
    clear hWa hXb bWa gX0 HR FX2 B2 G2 I4
    refine HR1.out.mono ?_
    rintro e w3 ⟨⟨y, rfl, hy, hym⟩, b2⟩
    have hXlt : Xb < Wa.heap.size := (Array.getElem?_eq_some_iff.1 GX.out).1
    have hMlt : w.heap.size < Wa.heap.size := (Array.getElem?_eq_some_iff.1 GM.out).1
    obtain ⟨Wb, hWb⟩ : ∃ W, W = w3.alloc (.cells #[.int .i64 y.kd, .int .i64 y.fr, .int .i64 y.to, .int .i64 y.tm, .int .i64 y.ix, .int .i64 y.lt, .int .i64 y.cm, .int .i64 y.ro, .bool y.ok, .int .i64 y.off, .slice y.da y.dn y.dc, .slice y.ea y.en y.ec] 25) := ⟨_, rfl⟩
    obtain ⟨Yb, hYb⟩ : ∃ Z, w3.heap.size = Z := ⟨_, rfl⟩
    have bWb : Below w3.heap.size w3 Wb := by rw [hWb]; exact (Below.refl _ _).alloc (Nat.le_refl _) _
    have gY := heap_alloc_new w3 (.cells #[.int .i64 y.kd, .int .i64 y.fr, .int .i64 y.to, .int .i64 y.tm, .int .i64 y.ix, .int .i64 y.lt, .int .i64 y.cm, .int .i64 y.ro, .bool y.ok, .int .i64 y.off, .slice y.da y.dn y.dc, .slice y.ea y.en y.ec] 25)
    rw [← hWb, hYb] at gY
    have bab : Below Wa.heap.size Wa Wb := b2.trans (bWb.mono b2.size)
    have gXb := (bab.block _ hXlt).trans GX.out
    have gMb := (bab.block _ hMlt).trans GM.out
    have hXlb : Xb < Wb.heap.size := (Array.getElem?_eq_some_iff.1 gXb).1
    have hYlb : Yb < Wb.heap.size := (Array.getElem?_eq_some_iff.1 gY).1
    have hMlb : w.heap.size < Wb.heap.size := (Array.getElem?_eq_some_iff.1 gMb).1
    have Bb : Hid (Below w.heap.size w Wb) := Lib.hid (Ba.out.trans (bab.mono Ba.out.size))
    have FXb := Lib.hid (FXa.out.below bab)
    have I6 := Lib.hid (I5.out.below bab)
    have FYb := Lib.hid (hy.below bWb)
    have HYM := Lib.hid hym
    clear hy hym bab hXlt hMlt FXa GX GM Ba b2 HR1 I5
    obtain ⟨ykd, yfr, yto, ytm, yix, ylt, ycm, yro, yok, yoff, yda, ydn, ydc, yd, yea, yen, yec, yes⟩ := y
    simp only at hWb gY
    simp only [RM.val]
    obtain ⟨⟨d0, d1, d2, d3, d4, d5, d6, d7, d8, d9, da, db⟩, _⟩ := cells12 gMb
    obtain ⟨⟨p0, p1, p2, p3, p4, p5, p6, p7, p8, p9, pa, pb⟩, _⟩ := cells12 gXb
    obtain ⟨⟨q0, q1, q2, q3, q4, q5, q6, q7, q8, q9, qa, qb⟩, _⟩ := cells12 gY
    have cont : Hid (∀ V, Below Wb.heap.size Wb V → (Hid (Below Wb.heap.size Wb V) ∧ (V.cell? ⟨w.heap.size, 0, none⟩ = some (.int .i64 mkd) ∧ V.cell? ⟨w.heap.size, 1, none⟩ = some (.int .i64 mfr) ∧ V.cell? ⟨w.heap.size, 2, none⟩ = some (.int .i64 mto) ∧ V.cell? ⟨w.heap.size, 3, none⟩ = some (.int .i64 mtm) ∧ V.cell? ⟨w.heap.size, 4, none⟩ = some (.int .i64 mix) ∧ V.cell? ⟨w.heap.size, 5, none⟩ = some (.int .i64 mlt) ∧ V.cell? ⟨w.heap.size, 6, none⟩ = some (.int .i64 mcm) ∧ V.cell? ⟨w.heap.size, 7, none⟩ = some (.int .i64 mro) ∧ V.cell? ⟨w.heap.size, 8, none⟩ = some (.bool mok) ∧ V.cell? ⟨w.heap.size, 9, none⟩ = some (.int .i64 moff) ∧ V.cell? ⟨w.heap.size, 10, none⟩ = some (.slice mda mdn mdc) ∧ V.cell? ⟨w.heap.size, 11, none⟩ = some (.slice mea men mec)) ∧ (V.cell? ⟨Xb, 0, none⟩ = some (.int .i64 xkd) ∧ V.cell? ⟨Xb, 1, none⟩ = some (.int .i64 xfr) ∧ V.cell? ⟨Xb, 2, none⟩ = some (.int .i64 xto) ∧ V.cell? ⟨Xb, 3, none⟩ = some (.int .i64 xtm) ∧ V.cell? ⟨Xb, 4, none⟩ = some (.int .i64 xix) ∧ V.cell? ⟨Xb, 5, none⟩ = some (.int .i64 xlt) ∧ V.cell? ⟨Xb, 6, none⟩ = some (.int .i64 xcm) ∧ V.cell? ⟨Xb, 7, none⟩ = some (.int .i64 xro) ∧ V.cell? ⟨Xb, 8, none⟩ = some (.bool xok) ∧ V.cell? ⟨Xb, 9, none⟩ = some (.int .i64 xoff) ∧ V.cell? ⟨Xb, 10, none⟩ = some (.slice xda xdn xdc) ∧ V.cell? ⟨Xb, 11, none⟩ = some (.slice xea xen xec)) ∧ V.cell? ⟨Yb, 0, none⟩ = some (.int .i64 ykd) ∧ V.cell? ⟨Yb, 1, none⟩ = some (.int .i64 yfr) ∧ V.cell? ⟨Yb, 2, none⟩ = some (.int .i64 yto) ∧ V.cell? ⟨Yb, 3, none⟩ = some (.int .i64 ytm) ∧ V.cell? ⟨Yb, 4, none⟩ = some (.int .i64 yix) ∧ V.cell? ⟨Yb, 5, none⟩ = some (.int .i64 ylt) ∧ V.cell? ⟨Yb, 6, none⟩ = some (.int .i64 ycm) ∧ V.cell? ⟨Yb, 7, none⟩ = some (.int .i64 yro) ∧ V.cell? ⟨Yb, 8, none⟩ = some (.bool yok) ∧ V.cell? ⟨Yb, 9, none⟩ = some (.int .i64 yoff) ∧ V.cell? ⟨Yb, 10, none⟩ = some (.slice yda ydn ydc) ∧ V.cell? ⟨Yb, 11, none⟩ = some (.slice yea yen yec))) := fun V h => by
      have hk0 := h.block w.heap.size hMlb
      have hk := h.block Xb hXlb
      have hk2 := h.block Yb hYlb
      exact ⟨Lib.hid h, ⟨(World.cell?_of_block hk0).trans d0, (World.cell?_of_block hk0).trans d1, (World.cell?_of_block hk0).trans d2, (World.cell?_of_block hk0).trans d3, (World.cell?_of_block hk0).trans d4, (World.cell?_of_block hk0).trans d5, (World.cell?_of_block hk0).trans d6, (World.cell?_of_block hk0).trans d7, (World.cell?_of_block hk0).trans d8, (World.cell?_of_block hk0).trans d9, (World.cell?_of_block hk0).trans da, (World.cell?_of_block hk0).trans db⟩, ⟨(World.cell?_of_block hk).trans p0, (World.cell?_of_block hk).trans p1, (World.cell?_of_block hk).trans p2, (World.cell?_of_block hk).trans p3, (World.cell?_of_block hk).trans p4, (World.cell?_of_block hk).trans p5, (World.cell?_of_block hk).trans p6, (World.cell?_of_block hk).trans p7, (World.cell?_of_block hk).trans p8, (World.cell?_of_block hk).trans p9, (World.cell?_of_block hk).trans pa, (World.cell?_of_block hk).trans pb⟩, (World.cell?_of_block hk2).trans q0, (World.cell?_of_block hk2).trans q1, (World.cell?_of_block hk2).trans q2, (World.cell?_of_block hk2).trans q3, (World.cell?_of_block hk2).trans q4, (World.cell?_of_block hk2).trans q5, (World.cell?_of_block hk2).trans q6, (World.cell?_of_block hk2).trans q7, (World.cell?_of_block hk2).trans q8, (World.cell?_of_block hk2).trans q9, (World.cell?_of_block hk2).trans qa, (World.cell?_of_block hk2).trans qb⟩
    have fin : Hid (∀ V, (Hid (Below Wb.heap.size Wb V) ∧ (V.cell? ⟨w.heap.size, 0, none⟩ = some (.int .i64 mkd) ∧ V.cell? ⟨w.heap.size, 1, none⟩ = some (.int .i64 mfr) ∧ V.cell? ⟨w.heap.size, 2, none⟩ = some (.int .i64 mto) ∧ V.cell? ⟨w.heap.size, 3, none⟩ = some (.int .i64 mtm) ∧ V.cell? ⟨w.heap.size, 4, none⟩ = some (.int .i64 mix) ∧ V.cell? ⟨w.heap.size, 5, none⟩ = some (.int .i64 mlt) ∧ V.cell? ⟨w.heap.size, 6, none⟩ = some (.int .i64 mcm) ∧ V.cell? ⟨w.heap.size, 7, none⟩ = some (.int .i64 mro) ∧ V.cell? ⟨w.heap.size, 8, none⟩ = some (.bool mok) ∧ V.cell? ⟨w.heap.size, 9, none⟩ = some (.int .i64 moff) ∧ V.cell? ⟨w.heap.size, 10, none⟩ = some (.slice mda mdn mdc) ∧ V.cell? ⟨w.heap.size, 11, none⟩ = some (.slice mea men mec)) ∧ (V.cell? ⟨Xb, 0, none⟩ = some (.int .i64 xkd) ∧ V.cell? ⟨Xb, 1, none⟩ = some (.int .i64 xfr) ∧ V.cell? ⟨Xb, 2, none⟩ = some (.int .i64 xto) ∧ V.cell? ⟨Xb, 3, none⟩ = some (.int .i64 xtm) ∧ V.cell? ⟨Xb, 4, none⟩ = some (.int .i64 xix) ∧ V.cell? ⟨Xb, 5, none⟩ = some (.int .i64 xlt) ∧ V.cell? ⟨Xb, 6, none⟩ = some (.int .i64 xcm) ∧ V.cell? ⟨Xb, 7, none⟩ = some (.int .i64 xro) ∧ V.cell? ⟨Xb, 8, none⟩ = some (.bool xok) ∧ V.cell? ⟨Xb, 9, none⟩ = some (.int .i64 xoff) ∧ V.cell? ⟨Xb, 10, none⟩ = some (.slice xda xdn xdc) ∧ V.cell? ⟨Xb, 11, none⟩ = some (.slice xea xen xec)) ∧ V.cell? ⟨Yb, 0, none⟩ = some (.int .i64 ykd) ∧ V.cell? ⟨Yb, 1, none⟩ = some (.int .i64 yfr) ∧ V.cell? ⟨Yb, 2, none⟩ = some (.int .i64 yto) ∧ V.cell? ⟨Yb, 3, none⟩ = some (.int .i64 ytm) ∧ V.cell? ⟨Yb, 4, none⟩ = some (.int .i64 yix) ∧ V.cell? ⟨Yb, 5, none⟩ = some (.int .i64 ylt) ∧ V.cell? ⟨Yb, 6, none⟩ = some (.int .i64 ycm) ∧ V.cell? ⟨Yb, 7, none⟩ = some (.int .i64 yro) ∧ V.cell? ⟨Yb, 8, none⟩ = some (.bool yok) ∧ V.cell? ⟨Yb, 9, none⟩ = some (.int .i64 yoff) ∧ V.cell? ⟨Yb, 10, none⟩ = some (.slice yda ydn ydc) ∧ V.cell? ⟨Yb, 11, none⟩ = some (.slice yea yen yec)) → Below w.heap.size w V) := fun V h => Bb.out.trans (h.1.out.mono Bb.out.size)
    have step : Hid (∀ V V', (Hid (Below Wb.heap.size Wb V) ∧ (V.cell? ⟨w.heap.size, 0, none⟩ = some (.int .i64 mkd) ∧ V.cell? ⟨w.heap.size, 1, none⟩ = some (.int .i64 mfr) ∧ V.cell? ⟨w.heap.size, 2, none⟩ = some (.int .i64 mto) ∧ V.cell? ⟨w.heap.size, 3, none⟩ = some (.int .i64 mtm) ∧ V.cell? ⟨w.heap.size, 4, none⟩ = some (.int .i64 mix) ∧ V.cell? ⟨w.heap.size, 5, none⟩ = some (.int .i64 mlt) ∧ V.cell? ⟨w.heap.size, 6, none⟩ = some (.int .i64 mcm) ∧ V.cell? ⟨w.heap.size, 7, none⟩ = some (.int .i64 mro) ∧ V.cell? ⟨w.heap.size, 8, none⟩ = some (.bool mok) ∧ V.cell? ⟨w.heap.size, 9, none⟩ = some (.int .i64 moff) ∧ V.cell? ⟨w.heap.size, 10, none⟩ = some (.slice mda mdn mdc) ∧ V.cell? ⟨w.heap.size, 11, none⟩ = some (.slice mea men mec)) ∧ (V.cell? ⟨Xb, 0, none⟩ = some (.int .i64 xkd) ∧ V.cell? ⟨Xb, 1, none⟩ = some (.int .i64 xfr) ∧ V.cell? ⟨Xb, 2, none⟩ = some (.int .i64 xto) ∧ V.cell? ⟨Xb, 3, none⟩ = some (.int .i64 xtm) ∧ V.cell? ⟨Xb, 4, none⟩ = some (.int .i64 xix) ∧ V.cell? ⟨Xb, 5, none⟩ = some (.int .i64 xlt) ∧ V.cell? ⟨Xb, 6, none⟩ = some (.int .i64 xcm) ∧ V.cell? ⟨Xb, 7, none⟩ = some (.int .i64 xro) ∧ V.cell? ⟨Xb, 8, none⟩ = some (.bool xok) ∧ V.cell? ⟨Xb, 9, none⟩ = some (.int .i64 xoff) ∧ V.cell? ⟨Xb, 10, none⟩ = some (.slice xda xdn xdc) ∧ V.cell? ⟨Xb, 11, none⟩ = some (.slice xea xen xec)) ∧ V.cell? ⟨Yb, 0, none⟩ = some (.int .i64 ykd) ∧ V.cell? ⟨Yb, 1, none⟩ = some (.int .i64 yfr) ∧ V.cell? ⟨Yb, 2, none⟩ = some (.int .i64 yto) ∧ V.cell? ⟨Yb, 3, none⟩ = some (.int .i64 ytm) ∧ V.cell? ⟨Yb, 4, none⟩ = some (.int .i64 yix) ∧ V.cell? ⟨Yb, 5, none⟩ = some (.int .i64 ylt) ∧ V.cell? ⟨Yb, 6, none⟩ = some (.int .i64 ycm) ∧ V.cell? ⟨Yb, 7, none⟩ = some (.int .i64 yro) ∧ V.cell? ⟨Yb, 8, none⟩ = some (.bool yok) ∧ V.cell? ⟨Yb, 9, none⟩ = some (.int .i64 yoff) ∧ V.cell? ⟨Yb, 10, none⟩ = some (.slice yda ydn ydc) ∧ V.cell? ⟨Yb, 11, none⟩ = some (.slice yea yen yec)) → Below V.heap.size V V' → (Hid (Below Wb.heap.size Wb V') ∧ (V'.cell? ⟨w.heap.size, 0, none⟩ = some (.int .i64 mkd) ∧ V'.cell? ⟨w.heap.size, 1, none⟩ = some (.int .i64 mfr) ∧ V'.cell? ⟨w.heap.size, 2, none⟩ = some (.int .i64 mto) ∧ V'.cell? ⟨w.heap.size, 3, none⟩ = some (.int .i64 mtm) ∧ V'.cell? ⟨w.heap.size, 4, none⟩ = some (.int .i64 mix) ∧ V'.cell? ⟨w.heap.size, 5, none⟩ = some (.int .i64 mlt) ∧ V'.cell? ⟨w.heap.size, 6, none⟩ = some (.int .i64 mcm) ∧ V'.cell? ⟨w.heap.size, 7, none⟩ = some (.int .i64 mro) ∧ V'.cell? ⟨w.heap.size, 8, none⟩ = some (.bool mok) ∧ V'.cell? ⟨w.heap.size, 9, none⟩ = some (.int .i64 moff) ∧ V'.cell? ⟨w.heap.size, 10, none⟩ = some (.slice mda mdn mdc) ∧ V'.cell? ⟨w.heap.size, 11, none⟩ = some (.slice mea men mec)) ∧ (V'.cell? ⟨Xb, 0, none⟩ = some (.int .i64 xkd) ∧ V'.cell? ⟨Xb, 1, none⟩ = some (.int .i64 xfr) ∧ V'.cell? ⟨Xb, 2, none⟩ = some (.int .i64 xto) ∧ V'.cell? ⟨Xb, 3, none⟩ = some (.int .i64 xtm) ∧ V'.cell? ⟨Xb, 4, none⟩ = some (.int .i64 xix) ∧ V'.cell? ⟨Xb, 5, none⟩ = some (.int .i64 xlt) ∧ V'.cell? ⟨Xb, 6, none⟩ = some (.int .i64 xcm) ∧ V'.cell? ⟨Xb, 7, none⟩ = some (.int .i64 xro) ∧ V'.cell? ⟨Xb, 8, none⟩ = some (.bool xok) ∧ V'.cell? ⟨Xb, 9, none⟩ = some (.int .i64 xoff) ∧ V'.cell? ⟨Xb, 10, none⟩ = some (.slice xda xdn xdc) ∧ V'.cell? ⟨Xb, 11, none⟩ = some (.slice xea xen xec)) ∧ V'.cell? ⟨Yb, 0, none⟩ = some (.int .i64 ykd) ∧ V'.cell? ⟨Yb, 1, none⟩ = some (.int .i64 yfr) ∧ V'.cell? ⟨Yb, 2, none⟩ = some (.int .i64 yto) ∧ V'.cell? ⟨Yb, 3, none⟩ = some (.int .i64 ytm) ∧ V'.cell? ⟨Yb, 4, none⟩ = some (.int .i64 yix) ∧ V'.cell? ⟨Yb, 5, none⟩ = some (.int .i64 ylt) ∧ V'.cell? ⟨Yb, 6, none⟩ = some (.int .i64 ycm) ∧ V'.cell? ⟨Yb, 7, none⟩ = some (.int .i64 yro) ∧ V'.cell? ⟨Yb, 8, none⟩ = some (.bool yok) ∧ V'.cell? ⟨Yb, 9, none⟩ = some (.int .i64 yoff) ∧ V'.cell? ⟨Yb, 10, none⟩ = some (.slice yda ydn ydc) ∧ V'.cell? ⟨Yb, 11, none⟩ = some (.slice yea yen yec))) := fun V V' h b => cont.out V' (h.1.out.trans (b.mono h.1.out.size))
    have cv : Hid (∀ (Z : List UInt8) (V V' : World) (e : Ending), (Hid (Below Wb.heap.size Wb V) ∧ (V.cell? ⟨w.heap.size, 0, none⟩ = some (.int .i64 mkd) ∧ V.cell? ⟨w.heap.size, 1, none⟩ = some (.int .i64 mfr) ∧ V.cell? ⟨w.heap.size, 2, none⟩ = some (.int .i64 mto) ∧ V.cell? ⟨w.heap.size, 3, none⟩ = some (.int .i64 mtm) ∧ V.cell? ⟨w.heap.size, 4, none⟩ = some (.int .i64 mix) ∧ V.cell? ⟨w.heap.size, 5, none⟩ = some (.int .i64 mlt) ∧ V.cell? ⟨w.heap.size, 6, none⟩ = some (.int .i64 mcm) ∧ V.cell? ⟨w.heap.size, 7, none⟩ = some (.int .i64 mro) ∧ V.cell? ⟨w.heap.size, 8, none⟩ = some (.bool mok) ∧ V.cell? ⟨w.heap.size, 9, none⟩ = some (.int .i64 moff) ∧ V.cell? ⟨w.heap.size, 10, none⟩ = some (.slice mda mdn mdc) ∧ V.cell? ⟨w.heap.size, 11, none⟩ = some (.slice mea men mec)) ∧ (V.cell? ⟨Xb, 0, none⟩ = some (.int .i64 xkd) ∧ V.cell? ⟨Xb, 1, none⟩ = some (.int .i64 xfr) ∧ V.cell? ⟨Xb, 2, none⟩ = some (.int .i64 xto) ∧ V.cell? ⟨Xb, 3, none⟩ = some (.int .i64 xtm) ∧ V.cell? ⟨Xb, 4, none⟩ = some (.int .i64 xix) ∧ V.cell? ⟨Xb, 5, none⟩ = some (.int .i64 xlt) ∧ V.cell? ⟨Xb, 6, none⟩ = some (.int .i64 xcm) ∧ V.cell? ⟨Xb, 7, none⟩ = some (.int .i64 xro) ∧ V.cell? ⟨Xb, 8, none⟩ = some (.bool xok) ∧ V.cell? ⟨Xb, 9, none⟩ = some (.int .i64 xoff) ∧ V.cell? ⟨Xb, 10, none⟩ = some (.slice xda xdn xdc) ∧ V.cell? ⟨Xb, 11, none⟩ = some (.slice xea xen xec)) ∧ V.cell? ⟨Yb, 0, none⟩ = some (.int .i64 ykd) ∧ V.cell? ⟨Yb, 1, none⟩ = some (.int .i64 yfr) ∧ V.cell? ⟨Yb, 2, none⟩ = some (.int .i64 yto) ∧ V.cell? ⟨Yb, 3, none⟩ = some (.int .i64 ytm) ∧ V.cell? ⟨Yb, 4, none⟩ = some (.int .i64 yix) ∧ V.cell? ⟨Yb, 5, none⟩ = some (.int .i64 ylt) ∧ V.cell? ⟨Yb, 6, none⟩ = some (.int .i64 ycm) ∧ V.cell? ⟨Yb, 7, none⟩ = some (.int .i64 yro) ∧ V.cell? ⟨Yb, 8, none⟩ = some (.bool yok) ∧ V.cell? ⟨Yb, 9, none⟩ = some (.int .i64 yoff) ∧ V.cell? ⟨Yb, 10, none⟩ = some (.slice yda ydn ydc) ∧ V.cell? ⟨Yb, 11, none⟩ = some (.slice yea yen yec)) → RW V V' e Z → (∃ a n c, e = .returned (.slice a n c) ∧ Hid (IsB V' (.slice a n c) Z)) ∧ (Hid (Below Wb.heap.size Wb V') ∧ (V'.cell? ⟨w.heap.size, 0, none⟩ = some (.int .i64 mkd) ∧ V'.cell? ⟨w.heap.size, 1, none⟩ = some (.int .i64 mfr) ∧ V'.cell? ⟨w.heap.size, 2, none⟩ = some (.int .i64 mto) ∧ V'.cell? ⟨w.heap.size, 3, none⟩ = some (.int .i64 mtm) ∧ V'.cell? ⟨w.heap.size, 4, none⟩ = some (.int .i64 mix) ∧ V'.cell? ⟨w.heap.size, 5, none⟩ = some (.int .i64 mlt) ∧ V'.cell? ⟨w.heap.size, 6, none⟩ = some (.int .i64 mcm) ∧ V'.cell? ⟨w.heap.size, 7, none⟩ = some (.int .i64 mro) ∧ V'.cell? ⟨w.heap.size, 8, none⟩ = some (.bool mok) ∧ V'.cell? ⟨w.heap.size, 9, none⟩ = some (.int .i64 moff) ∧ V'.cell? ⟨w.heap.size, 10, none⟩ = some (.slice mda mdn mdc) ∧ V'.cell? ⟨w.heap.size, 11, none⟩ = some (.slice mea men mec)) ∧ (V'.cell? ⟨Xb, 0, none⟩ = some (.int .i64 xkd) ∧ V'.cell? ⟨Xb, 1, none⟩ = some (.int .i64 xfr) ∧ V'.cell? ⟨Xb, 2, none⟩ = some (.int .i64 xto) ∧ V'.cell? ⟨Xb, 3, none⟩ = some (.int .i64 xtm) ∧ V'.cell? ⟨Xb, 4, none⟩ = some (.int .i64 xix) ∧ V'.cell? ⟨Xb, 5, none⟩ = some (.int .i64 xlt) ∧ V'.cell? ⟨Xb, 6, none⟩ = some (.int .i64 xcm) ∧ V'.cell? ⟨Xb, 7, none⟩ = some (.int .i64 xro) ∧ V'.cell? ⟨Xb, 8, none⟩ = some (.bool xok) ∧ V'.cell? ⟨Xb, 9, none⟩ = some (.int .i64 xoff) ∧ V'.cell? ⟨Xb, 10, none⟩ = some (.slice xda xdn xdc) ∧ V'.cell? ⟨Xb, 11, none⟩ = some (.slice xea xen xec)) ∧ V'.cell? ⟨Yb, 0, none⟩ = some (.int .i64 ykd) ∧ V'.cell? ⟨Yb, 1, none⟩ = some (.int .i64 yfr) ∧ V'.cell? ⟨Yb, 2, none⟩ = some (.int .i64 yto) ∧ V'.cell? ⟨Yb, 3, none⟩ = some (.int .i64 ytm) ∧ V'.cell? ⟨Yb, 4, none⟩ = some (.int .i64 yix) ∧ V'.cell? ⟨Yb, 5, none⟩ = some (.int .i64 ylt) ∧ V'.cell? ⟨Yb, 6, none⟩ = some (.int .i64 ycm) ∧ V'.cell? ⟨Yb, 7, none⟩ = some (.int .i64 yro) ∧ V'.cell? ⟨Yb, 8, none⟩ = some (.bool yok) ∧ V'.cell? ⟨Yb, 9, none⟩ = some (.int .i64 yoff) ∧ V'.cell? ⟨Yb, 10, none⟩ = some (.slice yda ydn ydc) ∧ V'.cell? ⟨Yb, 11, none⟩ = some (.slice yea yen yec)) ∧ Hid (Below V.heap.size V V')) := fun Z V V' e h ⟨⟨a, n, c, e1, _, e2, _⟩, e3⟩ => ⟨⟨a, n, c, e1, Lib.hid e2.isB⟩, step.out V V' h e3, Lib.hid e3⟩
    have C18 : Hid (∀ V, (Hid (Below Wb.heap.size Wb V) ∧ (V.cell? ⟨w.heap.size, 0, none⟩ = some (.int .i64 mkd) ∧ V.cell? ⟨w.heap.size, 1, none⟩ = some (.int .i64 mfr) ∧ V.cell? ⟨w.heap.size, 2, none⟩ = some (.int .i64 mto) ∧ V.cell? ⟨w.heap.size, 3, none⟩ = some (.int .i64 mtm) ∧ V.cell? ⟨w.heap.size, 4, none⟩ = some (.int .i64 mix) ∧ V.cell? ⟨w.heap.size, 5, none⟩ = some (.int .i64 mlt) ∧ V.cell? ⟨w.heap.size, 6, none⟩ = some (.int .i64 mcm) ∧ V.cell? ⟨w.heap.size, 7, none⟩ = some (.int .i64 mro) ∧ V.cell? ⟨w.heap.size, 8, none⟩ = some (.bool mok) ∧ V.cell? ⟨w.heap.size, 9, none⟩ = some (.int .i64 moff) ∧ V.cell? ⟨w.heap.size, 10, none⟩ = some (.slice mda mdn mdc) ∧ V.cell? ⟨w.heap.size, 11, none⟩ = some (.slice mea men mec)) ∧ (V.cell? ⟨Xb, 0, none⟩ = some (.int .i64 xkd) ∧ V.cell? ⟨Xb, 1, none⟩ = some (.int .i64 xfr) ∧ V.cell? ⟨Xb, 2, none⟩ = some (.int .i64 xto) ∧ V.cell? ⟨Xb, 3, none⟩ = some (.int .i64 xtm) ∧ V.cell? ⟨Xb, 4, none⟩ = some (.int .i64 xix) ∧ V.cell? ⟨Xb, 5, none⟩ = some (.int .i64 xlt) ∧ V.cell? ⟨Xb, 6, none⟩ = some (.int .i64 xcm) ∧ V.cell? ⟨Xb, 7, none⟩ = some (.int .i64 xro) ∧ V.cell? ⟨Xb, 8, none⟩ = some (.bool xok) ∧ V.cell? ⟨Xb, 9, none⟩ = some (.int .i64 xoff) ∧ V.cell? ⟨Xb, 10, none⟩ = some (.slice xda xdn xdc) ∧ V.cell? ⟨Xb, 11, none⟩ = some (.slice xea xen xec)) ∧ V.cell? ⟨Yb, 0, none⟩ = some (.int .i64 ykd) ∧ V.cell? ⟨Yb, 1, none⟩ = some (.int .i64 yfr) ∧ V.cell? ⟨Yb, 2, none⟩ = some (.int .i64 yto) ∧ V.cell? ⟨Yb, 3, none⟩ = some (.int .i64 ytm) ∧ V.cell? ⟨Yb, 4, none⟩ = some (.int .i64 yix) ∧ V.cell? ⟨Yb, 5, none⟩ = some (.int .i64 ylt) ∧ V.cell? ⟨Yb, 6, none⟩ = some (.int .i64 ycm) ∧ V.cell? ⟨Yb, 7, none⟩ = some (.int .i64 yro) ∧ V.cell? ⟨Yb, 8, none⟩ = some (.bool yok) ∧ V.cell? ⟨Yb, 9, none⟩ = some (.int .i64 yoff) ∧ V.cell? ⟨Yb, 10, none⟩ = some (.slice yda ydn ydc) ∧ V.cell? ⟨Yb, 11, none⟩ = some (.slice yea yen yec)) → Calls Tryz.prog 18 #[errV (PK.errM r)] V fun e w' => e = .returned (.int .i64 (PK.errM r : Nat)) ∧ (Hid (Below Wb.heap.size Wb w') ∧ (w'.cell? ⟨w.heap.size, 0, none⟩ = some (.int .i64 mkd) ∧ w'.cell? ⟨w.heap.size, 1, none⟩ = some (.int .i64 mfr) ∧ w'.cell? ⟨w.heap.size, 2, none⟩ = some (.int .i64 mto) ∧ w'.cell? ⟨w.heap.size, 3, none⟩ = some (.int .i64 mtm) ∧ w'.cell? ⟨w.heap.size, 4, none⟩ = some (.int .i64 mix) ∧ w'.cell? ⟨w.heap.size, 5, none⟩ = some (.int .i64 mlt) ∧ w'.cell? ⟨w.heap.size, 6, none⟩ = some (.int .i64 mcm) ∧ w'.cell? ⟨w.heap.size, 7, none⟩ = some (.int .i64 mro) ∧ w'.cell? ⟨w.heap.size, 8, none⟩ = some (.bool mok) ∧ w'.cell? ⟨w.heap.size, 9, none⟩ = some (.int .i64 moff) ∧ w'.cell? ⟨w.heap.size, 10, none⟩ = some (.slice mda mdn mdc) ∧ w'.cell? ⟨w.heap.size, 11, none⟩ = some (.slice mea men mec)) ∧ (w'.cell? ⟨Xb, 0, none⟩ = some (.int .i64 xkd) ∧ w'.cell? ⟨Xb, 1, none⟩ = some (.int .i64 xfr) ∧ w'.cell? ⟨Xb, 2, none⟩ = some (.int .i64 xto) ∧ w'.cell? ⟨Xb, 3, none⟩ = some (.int .i64 xtm) ∧ w'.cell? ⟨Xb, 4, none⟩ = some (.int .i64 xix) ∧ w'.cell? ⟨Xb, 5, none⟩ = some (.int .i64 xlt) ∧ w'.cell? ⟨Xb, 6, none⟩ = some (.int .i64 xcm) ∧ w'.cell? ⟨Xb, 7, none⟩ = some (.int .i64 xro) ∧ w'.cell? ⟨Xb, 8, none⟩ = some (.bool xok) ∧ w'.cell? ⟨Xb, 9, none⟩ = some (.int .i64 xoff) ∧ w'.cell? ⟨Xb, 10, none⟩ = some (.slice xda xdn xdc) ∧ w'.cell? ⟨Xb, 11, none⟩ = some (.slice xea xen xec)) ∧ w'.cell? ⟨Yb, 0, none⟩ = some (.int .i64 ykd) ∧ w'.cell? ⟨Yb, 1, none⟩ = some (.int .i64 yfr) ∧ w'.cell? ⟨Yb, 2, none⟩ = some (.int .i64 yto) ∧ w'.cell? ⟨Yb, 3, none⟩ = some (.int .i64 ytm) ∧ w'.cell? ⟨Yb, 4, none⟩ = some (.int .i64 yix) ∧ w'.cell? ⟨Yb, 5, none⟩ = some (.int .i64 ylt) ∧ w'.cell? ⟨Yb, 6, none⟩ = some (.int .i64 ycm) ∧ w'.cell? ⟨Yb, 7, none⟩ = some (.int .i64 yro) ∧ w'.cell? ⟨Yb, 8, none⟩ = some (.bool yok) ∧ w'.cell? ⟨Yb, 9, none⟩ = some (.int .i64 yoff) ∧ w'.cell? ⟨Yb, 10, none⟩ = some (.slice yda ydn ydc) ∧ w'.cell? ⟨Yb, 11, none⟩ = some (.slice yea yen yec))) := fun V h => (HNum.out V (fin.out V h)).mono fun e w' ⟨e1, e2⟩ => ⟨e1, step.out V w' h e2⟩
    have C10 : Hid (∀ V, (Hid (Below Wb.heap.size Wb V) ∧ (V.cell? ⟨w.heap.size, 0, none⟩ = some (.int .i64 mkd) ∧ V.cell? ⟨w.heap.size, 1, none⟩ = some (.int .i64 mfr) ∧ V.cell? ⟨w.heap.size, 2, none⟩ = some (.int .i64 mto) ∧ V.cell? ⟨w.heap.size, 3, none⟩ = some (.int .i64 mtm) ∧ V.cell? ⟨w.heap.size, 4, none⟩ = some (.int .i64 mix) ∧ V.cell? ⟨w.heap.size, 5, none⟩ = some (.int .i64 mlt) ∧ V.cell? ⟨w.heap.size, 6, none⟩ = some (.int .i64 mcm) ∧ V.cell? ⟨w.heap.size, 7, none⟩ = some (.int .i64 mro) ∧ V.cell? ⟨w.heap.size, 8, none⟩ = some (.bool mok) ∧ V.cell? ⟨w.heap.size, 9, none⟩ = some (.int .i64 moff) ∧ V.cell? ⟨w.heap.size, 10, none⟩ = some (.slice mda mdn mdc) ∧ V.cell? ⟨w.heap.size, 11, none⟩ = some (.slice mea men mec)) ∧ (V.cell? ⟨Xb, 0, none⟩ = some (.int .i64 xkd) ∧ V.cell? ⟨Xb, 1, none⟩ = some (.int .i64 xfr) ∧ V.cell? ⟨Xb, 2, none⟩ = some (.int .i64 xto) ∧ V.cell? ⟨Xb, 3, none⟩ = some (.int .i64 xtm) ∧ V.cell? ⟨Xb, 4, none⟩ = some (.int .i64 xix) ∧ V.cell? ⟨Xb, 5, none⟩ = some (.int .i64 xlt) ∧ V.cell? ⟨Xb, 6, none⟩ = some (.int .i64 xcm) ∧ V.cell? ⟨Xb, 7, none⟩ = some (.int .i64 xro) ∧ V.cell? ⟨Xb, 8, none⟩ = some (.bool xok) ∧ V.cell? ⟨Xb, 9, none⟩ = some (.int .i64 xoff) ∧ V.cell? ⟨Xb, 10, none⟩ = some (.slice xda xdn xdc) ∧ V.cell? ⟨Xb, 11, none⟩ = some (.slice xea xen xec)) ∧ V.cell? ⟨Yb, 0, none⟩ = some (.int .i64 ykd) ∧ V.cell? ⟨Yb, 1, none⟩ = some (.int .i64 yfr) ∧ V.cell? ⟨Yb, 2, none⟩ = some (.int .i64 yto) ∧ V.cell? ⟨Yb, 3, none⟩ = some (.int .i64 ytm) ∧ V.cell? ⟨Yb, 4, none⟩ = some (.int .i64 yix) ∧ V.cell? ⟨Yb, 5, none⟩ = some (.int .i64 ylt) ∧ V.cell? ⟨Yb, 6, none⟩ = some (.int .i64 ycm) ∧ V.cell? ⟨Yb, 7, none⟩ = some (.int .i64 yro) ∧ V.cell? ⟨Yb, 8, none⟩ = some (.bool yok) ∧ V.cell? ⟨Yb, 9, none⟩ = some (.int .i64 yoff) ∧ V.cell? ⟨Yb, 10, none⟩ = some (.slice yda ydn ydc) ∧ V.cell? ⟨Yb, 11, none⟩ = some (.slice yea yen yec)) → Calls Tryz.prog 10 #[] V fun e w' => e = .returned (.bool true) ∧ (Hid (Below Wb.heap.size Wb w') ∧ (w'.cell? ⟨w.heap.size, 0, none⟩ = some (.int .i64 mkd) ∧ w'.cell? ⟨w.heap.size, 1, none⟩ = some (.int .i64 mfr) ∧ w'.cell? ⟨w.heap.size, 2, none⟩ = some (.int .i64 mto) ∧ w'.cell? ⟨w.heap.size, 3, none⟩ = some (.int .i64 mtm) ∧ w'.cell? ⟨w.heap.size, 4, none⟩ = some (.int .i64 mix) ∧ w'.cell? ⟨w.heap.size, 5, none⟩ = some (.int .i64 mlt) ∧ w'.cell? ⟨w.heap.size, 6, none⟩ = some (.int .i64 mcm) ∧ w'.cell? ⟨w.heap.size, 7, none⟩ = some (.int .i64 mro) ∧ w'.cell? ⟨w.heap.size, 8, none⟩ = some (.bool mok) ∧ w'.cell? ⟨w.heap.size, 9, none⟩ = some (.int .i64 moff) ∧ w'.cell? ⟨w.heap.size, 10, none⟩ = some (.slice mda mdn mdc) ∧ w'.cell? ⟨w.heap.size, 11, none⟩ = some (.slice mea men mec)) ∧ (w'.cell? ⟨Xb, 0, none⟩ = some (.int .i64 xkd) ∧ w'.cell? ⟨Xb, 1, none⟩ = some (.int .i64 xfr) ∧ w'.cell? ⟨Xb, 2, none⟩ = some (.int .i64 xto) ∧ w'.cell? ⟨Xb, 3, none⟩ = some (.int .i64 xtm) ∧ w'.cell? ⟨Xb, 4, none⟩ = some (.int .i64 xix) ∧ w'.cell? ⟨Xb, 5, none⟩ = some (.int .i64 xlt) ∧ w'.cell? ⟨Xb, 6, none⟩ = some (.int .i64 xcm) ∧ w'.cell? ⟨Xb, 7, none⟩ = some (.int .i64 xro) ∧ w'.cell? ⟨Xb, 8, none⟩ = some (.bool xok) ∧ w'.cell? ⟨Xb, 9, none⟩ = some (.int .i64 xoff) ∧ w'.cell? ⟨Xb, 10, none⟩ = some (.slice xda xdn xdc) ∧ w'.cell? ⟨Xb, 11, none⟩ = some (.slice xea xen xec)) ∧ w'.cell? ⟨Yb, 0, none⟩ = some (.int .i64 ykd) ∧ w'.cell? ⟨Yb, 1, none⟩ = some (.int .i64 yfr) ∧ w'.cell? ⟨Yb, 2, none⟩ = some (.int .i64 yto) ∧ w'.cell? ⟨Yb, 3, none⟩ = some (.int .i64 ytm) ∧ w'.cell? ⟨Yb, 4, none⟩ = some (.int .i64 yix) ∧ w'.cell? ⟨Yb, 5, none⟩ = some (.int .i64 ylt) ∧ w'.cell? ⟨Yb, 6, none⟩ = some (.int .i64 ycm) ∧ w'.cell? ⟨Yb, 7, none⟩ = some (.int .i64 yro) ∧ w'.cell? ⟨Yb, 8, none⟩ = some (.bool yok) ∧ w'.cell? ⟨Yb, 9, none⟩ = some (.int .i64 yoff) ∧ w'.cell? ⟨Yb, 10, none⟩ = some (.slice yda ydn ydc) ∧ w'.cell? ⟨Yb, 11, none⟩ = some (.slice yea yen yec))) := fun V h => (HSu.out V (fin.out V h)).mono fun e w' ⟨e1, e2⟩ => ⟨e1, step.out V w' h e2⟩
    have C14 : Hid (∀ V, (Hid (Below Wb.heap.size Wb V) ∧ (V.cell? ⟨w.heap.size, 0, none⟩ = some (.int .i64 mkd) ∧ V.cell? ⟨w.heap.size, 1, none⟩ = some (.int .i64 mfr) ∧ V.cell? ⟨w.heap.size, 2, none⟩ = some (.int .i64 mto) ∧ V.cell? ⟨w.heap.size, 3, none⟩ = some (.int .i64 mtm) ∧ V.cell? ⟨w.heap.size, 4, none⟩ = some (.int .i64 mix) ∧ V.cell? ⟨w.heap.size, 5, none⟩ = some (.int .i64 mlt) ∧ V.cell? ⟨w.heap.size, 6, none⟩ = some (.int .i64 mcm) ∧ V.cell? ⟨w.heap.size, 7, none⟩ = some (.int .i64 mro) ∧ V.cell? ⟨w.heap.size, 8, none⟩ = some (.bool mok) ∧ V.cell? ⟨w.heap.size, 9, none⟩ = some (.int .i64 moff) ∧ V.cell? ⟨w.heap.size, 10, none⟩ = some (.slice mda mdn mdc) ∧ V.cell? ⟨w.heap.size, 11, none⟩ = some (.slice mea men mec)) ∧ (V.cell? ⟨Xb, 0, none⟩ = some (.int .i64 xkd) ∧ V.cell? ⟨Xb, 1, none⟩ = some (.int .i64 xfr) ∧ V.cell? ⟨Xb, 2, none⟩ = some (.int .i64 xto) ∧ V.cell? ⟨Xb, 3, none⟩ = some (.int .i64 xtm) ∧ V.cell? ⟨Xb, 4, none⟩ = some (.int .i64 xix) ∧ V.cell? ⟨Xb, 5, none⟩ = some (.int .i64 xlt) ∧ V.cell? ⟨Xb, 6, none⟩ = some (.int .i64 xcm) ∧ V.cell? ⟨Xb, 7, none⟩ = some (.int .i64 xro) ∧ V.cell? ⟨Xb, 8, none⟩ = some (.bool xok) ∧ V.cell? ⟨Xb, 9, none⟩ = some (.int .i64 xoff) ∧ V.cell? ⟨Xb, 10, none⟩ = some (.slice xda xdn xdc) ∧ V.cell? ⟨Xb, 11, none⟩ = some (.slice xea xen xec)) ∧ V.cell? ⟨Yb, 0, none⟩ = some (.int .i64 ykd) ∧ V.cell? ⟨Yb, 1, none⟩ = some (.int .i64 yfr) ∧ V.cell? ⟨Yb, 2, none⟩ = some (.int .i64 yto) ∧ V.cell? ⟨Yb, 3, none⟩ = some (.int .i64 ytm) ∧ V.cell? ⟨Yb, 4, none⟩ = some (.int .i64 yix) ∧ V.cell? ⟨Yb, 5, none⟩ = some (.int .i64 ylt) ∧ V.cell? ⟨Yb, 6, none⟩ = some (.int .i64 ycm) ∧ V.cell? ⟨Yb, 7, none⟩ = some (.int .i64 yro) ∧ V.cell? ⟨Yb, 8, none⟩ = some (.bool yok) ∧ V.cell? ⟨Yb, 9, none⟩ = some (.int .i64 yoff) ∧ V.cell? ⟨Yb, 10, none⟩ = some (.slice yda ydn ydc) ∧ V.cell? ⟨Yb, 11, none⟩ = some (.slice yea yen yec)) → Calls Tryz.prog 14 #[.agg #[.int .i64 mkd, .int .i64 mfr, .int .i64 mto, .int .i64 mtm, .int .i64 mix, .int .i64 mlt, .int .i64 mcm, .int .i64 mro, .bool mok, .int .i64 moff, .slice mda mdn mdc, .slice mea men mec]] V fun e w' => (∃ y : RM, e = .returned y.val ∧ Hid (y.Fit w' ∧ y.msg = msg)) ∧ (Hid (Below Wb.heap.size Wb w') ∧ (w'.cell? ⟨w.heap.size, 0, none⟩ = some (.int .i64 mkd) ∧ w'.cell? ⟨w.heap.size, 1, none⟩ = some (.int .i64 mfr) ∧ w'.cell? ⟨w.heap.size, 2, none⟩ = some (.int .i64 mto) ∧ w'.cell? ⟨w.heap.size, 3, none⟩ = some (.int .i64 mtm) ∧ w'.cell? ⟨w.heap.size, 4, none⟩ = some (.int .i64 mix) ∧ w'.cell? ⟨w.heap.size, 5, none⟩ = some (.int .i64 mlt) ∧ w'.cell? ⟨w.heap.size, 6, none⟩ = some (.int .i64 mcm) ∧ w'.cell? ⟨w.heap.size, 7, none⟩ = some (.int .i64 mro) ∧ w'.cell? ⟨w.heap.size, 8, none⟩ = some (.bool mok) ∧ w'.cell? ⟨w.heap.size, 9, none⟩ = some (.int .i64 moff) ∧ w'.cell? ⟨w.heap.size, 10, none⟩ = some (.slice mda mdn mdc) ∧ w'.cell? ⟨w.heap.size, 11, none⟩ = some (.slice mea men mec)) ∧ (w'.cell? ⟨Xb, 0, none⟩ = some (.int .i64 xkd) ∧ w'.cell? ⟨Xb, 1, none⟩ = some (.int .i64 xfr) ∧ w'.cell? ⟨Xb, 2, none⟩ = some (.int .i64 xto) ∧ w'.cell? ⟨Xb, 3, none⟩ = some (.int .i64 xtm) ∧ w'.cell? ⟨Xb, 4, none⟩ = some (.int .i64 xix) ∧ w'.cell? ⟨Xb, 5, none⟩ = some (.int .i64 xlt) ∧ w'.cell? ⟨Xb, 6, none⟩ = some (.int .i64 xcm) ∧ w'.cell? ⟨Xb, 7, none⟩ = some (.int .i64 xro) ∧ w'.cell? ⟨Xb, 8, none⟩ = some (.bool xok) ∧ w'.cell? ⟨Xb, 9, none⟩ = some (.int .i64 xoff) ∧ w'.cell? ⟨Xb, 10, none⟩ = some (.slice xda xdn xdc) ∧ w'.cell? ⟨Xb, 11, none⟩ = some (.slice xea xen xec)) ∧ w'.cell? ⟨Yb, 0, none⟩ = some (.int .i64 ykd) ∧ w'.cell? ⟨Yb, 1, none⟩ = some (.int .i64 yfr) ∧ w'.cell? ⟨Yb, 2, none⟩ = some (.int .i64 yto) ∧ w'.cell? ⟨Yb, 3, none⟩ = some (.int .i64 ytm) ∧ w'.cell? ⟨Yb, 4, none⟩ = some (.int .i64 yix) ∧ w'.cell? ⟨Yb, 5, none⟩ = some (.int .i64 ylt) ∧ w'.cell? ⟨Yb, 6, none⟩ = some (.int .i64 ycm) ∧ w'.cell? ⟨Yb, 7, none⟩ = some (.int .i64 yro) ∧ w'.cell? ⟨Yb, 8, none⟩ = some (.bool yok) ∧ w'.cell? ⟨Yb, 9, none⟩ = some (.int .i64 yoff) ∧ w'.cell? ⟨Yb, 10, none⟩ = some (.slice yda ydn ydc) ∧ w'.cell? ⟨Yb, 11, none⟩ = some (.slice yea yen yec))) := fun V h => (HG.out V (fin.out V h) HEe.out).mono fun e w' ⟨⟨y, e1, e2, e3⟩, e4⟩ => ⟨⟨y, e1, Lib.hid ⟨e2, e3⟩⟩, step.out V w' h e4⟩
    have C16 : Hid (∀ V, (Hid (Below Wb.heap.size Wb V) ∧ (V.cell? ⟨w.heap.size, 0, none⟩ = some (.int .i64 mkd) ∧ V.cell? ⟨w.heap.size, 1, none⟩ = some (.int .i64 mfr) ∧ V.cell? ⟨w.heap.size, 2, none⟩ = some (.int .i64 mto) ∧ V.cell? ⟨w.heap.size, 3, none⟩ = some (.int .i64 mtm) ∧ V.cell? ⟨w.heap.size, 4, none⟩ = some (.int .i64 mix) ∧ V.cell? ⟨w.heap.size, 5, none⟩ = some (.int .i64 mlt) ∧ V.cell? ⟨w.heap.size, 6, none⟩ = some (.int .i64 mcm) ∧ V.cell? ⟨w.heap.size, 7, none⟩ = some (.int .i64 mro) ∧ V.cell? ⟨w.heap.size, 8, none⟩ = some (.bool mok) ∧ V.cell? ⟨w.heap.size, 9, none⟩ = some (.int .i64 moff) ∧ V.cell? ⟨w.heap.size, 10, none⟩ = some (.slice mda mdn mdc) ∧ V.cell? ⟨w.heap.size, 11, none⟩ = some (.slice mea men mec)) ∧ (V.cell? ⟨Xb, 0, none⟩ = some (.int .i64 xkd) ∧ V.cell? ⟨Xb, 1, none⟩ = some (.int .i64 xfr) ∧ V.cell? ⟨Xb, 2, none⟩ = some (.int .i64 xto) ∧ V.cell? ⟨Xb, 3, none⟩ = some (.int .i64 xtm) ∧ V.cell? ⟨Xb, 4, none⟩ = some (.int .i64 xix) ∧ V.cell? ⟨Xb, 5, none⟩ = some (.int .i64 xlt) ∧ V.cell? ⟨Xb, 6, none⟩ = some (.int .i64 xcm) ∧ V.cell? ⟨Xb, 7, none⟩ = some (.int .i64 xro) ∧ V.cell? ⟨Xb, 8, none⟩ = some (.bool xok) ∧ V.cell? ⟨Xb, 9, none⟩ = some (.int .i64 xoff) ∧ V.cell? ⟨Xb, 10, none⟩ = some (.slice xda xdn xdc) ∧ V.cell? ⟨Xb, 11, none⟩ = some (.slice xea xen xec)) ∧ V.cell? ⟨Yb, 0, none⟩ = some (.int .i64 ykd) ∧ V.cell? ⟨Yb, 1, none⟩ = some (.int .i64 yfr) ∧ V.cell? ⟨Yb, 2, none⟩ = some (.int .i64 yto) ∧ V.cell? ⟨Yb, 3, none⟩ = some (.int .i64 ytm) ∧ V.cell? ⟨Yb, 4, none⟩ = some (.int .i64 yix) ∧ V.cell? ⟨Yb, 5, none⟩ = some (.int .i64 ylt) ∧ V.cell? ⟨Yb, 6, none⟩ = some (.int .i64 ycm) ∧ V.cell? ⟨Yb, 7, none⟩ = some (.int .i64 yro) ∧ V.cell? ⟨Yb, 8, none⟩ = some (.bool yok) ∧ V.cell? ⟨Yb, 9, none⟩ = some (.int .i64 yoff) ∧ V.cell? ⟨Yb, 10, none⟩ = some (.slice yda ydn ydc) ∧ V.cell? ⟨Yb, 11, none⟩ = some (.slice yea yen yec)) → Calls Tryz.prog 16 #[.agg #[.int .i64 xkd, .int .i64 xfr, .int .i64 xto, .int .i64 xtm, .int .i64 xix, .int .i64 xlt, .int .i64 xcm, .int .i64 xro, .bool xok, .int .i64 xoff, .slice xda xdn xdc, .slice xea xen xec]] V fun e w' => (∃ a n c, e = .returned (.slice a n c) ∧ Hid (IsB w' (.slice a n c) (PK.encM (PK.resM r)))) ∧ (Hid (Below Wb.heap.size Wb w') ∧ (w'.cell? ⟨w.heap.size, 0, none⟩ = some (.int .i64 mkd) ∧ w'.cell? ⟨w.heap.size, 1, none⟩ = some (.int .i64 mfr) ∧ w'.cell? ⟨w.heap.size, 2, none⟩ = some (.int .i64 mto) ∧ w'.cell? ⟨w.heap.size, 3, none⟩ = some (.int .i64 mtm) ∧ w'.cell? ⟨w.heap.size, 4, none⟩ = some (.int .i64 mix) ∧ w'.cell? ⟨w.heap.size, 5, none⟩ = some (.int .i64 mlt) ∧ w'.cell? ⟨w.heap.size, 6, none⟩ = some (.int .i64 mcm) ∧ w'.cell? ⟨w.heap.size, 7, none⟩ = some (.int .i64 mro) ∧ w'.cell? ⟨w.heap.size, 8, none⟩ = some (.bool mok) ∧ w'.cell? ⟨w.heap.size, 9, none⟩ = some (.int .i64 moff) ∧ w'.cell? ⟨w.heap.size, 10, none⟩ = some (.slice mda mdn mdc) ∧ w'.cell? ⟨w.heap.size, 11, none⟩ = some (.slice mea men mec)) ∧ (w'.cell? ⟨Xb, 0, none⟩ = some (.int .i64 xkd) ∧ w'.cell? ⟨Xb, 1, none⟩ = some (.int .i64 xfr) ∧ w'.cell? ⟨Xb, 2, none⟩ = some (.int .i64 xto) ∧ w'.cell? ⟨Xb, 3, none⟩ = some (.int .i64 xtm) ∧ w'.cell? ⟨Xb, 4, none⟩ = some (.int .i64 xix) ∧ w'.cell? ⟨Xb, 5, none⟩ = some (.int .i64 xlt) ∧ w'.cell? ⟨Xb, 6, none⟩ = some (.int .i64 xcm) ∧ w'.cell? ⟨Xb, 7, none⟩ = some (.int .i64 xro) ∧ w'.cell? ⟨Xb, 8, none⟩ = some (.bool xok) ∧ w'.cell? ⟨Xb, 9, none⟩ = some (.int .i64 xoff) ∧ w'.cell? ⟨Xb, 10, none⟩ = some (.slice xda xdn xdc) ∧ w'.cell? ⟨Xb, 11, none⟩ = some (.slice xea xen xec)) ∧ w'.cell? ⟨Yb, 0, none⟩ = some (.int .i64 ykd) ∧ w'.cell? ⟨Yb, 1, none⟩ = some (.int .i64 yfr) ∧ w'.cell? ⟨Yb, 2, none⟩ = some (.int .i64 yto) ∧ w'.cell? ⟨Yb, 3, none⟩ = some (.int .i64 ytm) ∧ w'.cell? ⟨Yb, 4, none⟩ = some (.int .i64 yix) ∧ w'.cell? ⟨Yb, 5, none⟩ = some (.int .i64 ylt) ∧ w'.cell? ⟨Yb, 6, none⟩ = some (.int .i64 ycm) ∧ w'.cell? ⟨Yb, 7, none⟩ = some (.int .i64 yro) ∧ w'.cell? ⟨Yb, 8, none⟩ = some (.bool yok) ∧ w'.cell? ⟨Yb, 9, none⟩ = some (.int .i64 yoff) ∧ w'.cell? ⟨Yb, 10, none⟩ = some (.slice yda ydn ydc) ∧ w'.cell? ⟨Yb, 11, none⟩ = some (.slice yea yen yec)) ∧ Hid (Below V.heap.size V w')) := fun V h => (HEn.out V ⟨xkd, xfr, xto, xtm, xix, xlt, xcm, xro, xok, xoff, xda, xdn, xdc, xd, xea, xen, xec, xes⟩ (fin.out V h) (FXb.out.below h.1.out) HXM.out).mono fun e w' q => cv.out _ V w' e h q
    have C17 : Hid (∀ V, (Hid (Below Wb.heap.size Wb V) ∧ (V.cell? ⟨w.heap.size, 0, none⟩ = some (.int .i64 mkd) ∧ V.cell? ⟨w.heap.size, 1, none⟩ = some (.int .i64 mfr) ∧ V.cell? ⟨w.heap.size, 2, none⟩ = some (.int .i64 mto) ∧ V.cell? ⟨w.heap.size, 3, none⟩ = some (.int .i64 mtm) ∧ V.cell? ⟨w.heap.size, 4, none⟩ = some (.int .i64 mix) ∧ V.cell? ⟨w.heap.size, 5, none⟩ = some (.int .i64 mlt) ∧ V.cell? ⟨w.heap.size, 6, none⟩ = some (.int .i64 mcm) ∧ V.cell? ⟨w.heap.size, 7, none⟩ = some (.int .i64 mro) ∧ V.cell? ⟨w.heap.size, 8, none⟩ = some (.bool mok) ∧ V.cell? ⟨w.heap.size, 9, none⟩ = some (.int .i64 moff) ∧ V.cell? ⟨w.heap.size, 10, none⟩ = some (.slice mda mdn mdc) ∧ V.cell? ⟨w.heap.size, 11, none⟩ = some (.slice mea men mec)) ∧ (V.cell? ⟨Xb, 0, none⟩ = some (.int .i64 xkd) ∧ V.cell? ⟨Xb, 1, none⟩ = some (.int .i64 xfr) ∧ V.cell? ⟨Xb, 2, none⟩ = some (.int .i64 xto) ∧ V.cell? ⟨Xb, 3, none⟩ = some (.int .i64 xtm) ∧ V.cell? ⟨Xb, 4, none⟩ = some (.int .i64 xix) ∧ V.cell? ⟨Xb, 5, none⟩ = some (.int .i64 xlt) ∧ V.cell? ⟨Xb, 6, none⟩ = some (.int .i64 xcm) ∧ V.cell? ⟨Xb, 7, none⟩ = some (.int .i64 xro) ∧ V.cell? ⟨Xb, 8, none⟩ = some (.bool xok) ∧ V.cell? ⟨Xb, 9, none⟩ = some (.int .i64 xoff) ∧ V.cell? ⟨Xb, 10, none⟩ = some (.slice xda xdn xdc) ∧ V.cell? ⟨Xb, 11, none⟩ = some (.slice xea xen xec)) ∧ V.cell? ⟨Yb, 0, none⟩ = some (.int .i64 ykd) ∧ V.cell? ⟨Yb, 1, none⟩ = some (.int .i64 yfr) ∧ V.cell? ⟨Yb, 2, none⟩ = some (.int .i64 yto) ∧ V.cell? ⟨Yb, 3, none⟩ = some (.int .i64 ytm) ∧ V.cell? ⟨Yb, 4, none⟩ = some (.int .i64 yix) ∧ V.cell? ⟨Yb, 5, none⟩ = some (.int .i64 ylt) ∧ V.cell? ⟨Yb, 6, none⟩ = some (.int .i64 ycm) ∧ V.cell? ⟨Yb, 7, none⟩ = some (.int .i64 yro) ∧ V.cell? ⟨Yb, 8, none⟩ = some (.bool yok) ∧ V.cell? ⟨Yb, 9, none⟩ = some (.int .i64 yoff) ∧ V.cell? ⟨Yb, 10, none⟩ = some (.slice yda ydn ydc) ∧ V.cell? ⟨Yb, 11, none⟩ = some (.slice yea yen yec)) → Calls Tryz.prog 17 #[.agg #[.int .i64 ykd, .int .i64 yfr, .int .i64 yto, .int .i64 ytm, .int .i64 yix, .int .i64 ylt, .int .i64 ycm, .int .i64 yro, .bool yok, .int .i64 yoff, .slice yda ydn ydc, .slice yea yen yec]] V fun e w' => (∃ a n c, e = .returned (.slice a n c) ∧ Hid (IsB w' (.slice a n c) (PK.encM (PK.resM r)))) ∧ (Hid (Below Wb.heap.size Wb w') ∧ (w'.cell? ⟨w.heap.size, 0, none⟩ = some (.int .i64 mkd) ∧ w'.cell? ⟨w.heap.size, 1, none⟩ = some (.int .i64 mfr) ∧ w'.cell? ⟨w.heap.size, 2, none⟩ = some (.int .i64 mto) ∧ w'.cell? ⟨w.heap.size, 3, none⟩ = some (.int .i64 mtm) ∧ w'.cell? ⟨w.heap.size, 4, none⟩ = some (.int .i64 mix) ∧ w'.cell? ⟨w.heap.size, 5, none⟩ = some (.int .i64 mlt) ∧ w'.cell? ⟨w.heap.size, 6, none⟩ = some (.int .i64 mcm) ∧ w'.cell? ⟨w.heap.size, 7, none⟩ = some (.int .i64 mro) ∧ w'.cell? ⟨w.heap.size, 8, none⟩ = some (.bool mok) ∧ w'.cell? ⟨w.heap.size, 9, none⟩ = some (.int .i64 moff) ∧ w'.cell? ⟨w.heap.size, 10, none⟩ = some (.slice mda mdn mdc) ∧ w'.cell? ⟨w.heap.size, 11, none⟩ = some (.slice mea men mec)) ∧ (w'.cell? ⟨Xb, 0, none⟩ = some (.int .i64 xkd) ∧ w'.cell? ⟨Xb, 1, none⟩ = some (.int .i64 xfr) ∧ w'.cell? ⟨Xb, 2, none⟩ = some (.int .i64 xto) ∧ w'.cell? ⟨Xb, 3, none⟩ = some (.int .i64 xtm) ∧ w'.cell? ⟨Xb, 4, none⟩ = some (.int .i64 xix) ∧ w'.cell? ⟨Xb, 5, none⟩ = some (.int .i64 xlt) ∧ w'.cell? ⟨Xb, 6, none⟩ = some (.int .i64 xcm) ∧ w'.cell? ⟨Xb, 7, none⟩ = some (.int .i64 xro) ∧ w'.cell? ⟨Xb, 8, none⟩ = some (.bool xok) ∧ w'.cell? ⟨Xb, 9, none⟩ = some (.int .i64 xoff) ∧ w'.cell? ⟨Xb, 10, none⟩ = some (.slice xda xdn xdc) ∧ w'.cell? ⟨Xb, 11, none⟩ = some (.slice xea xen xec)) ∧ w'.cell? ⟨Yb, 0, none⟩ = some (.int .i64 ykd) ∧ w'.cell? ⟨Yb, 1, none⟩ = some (.int .i64 yfr) ∧ w'.cell? ⟨Yb, 2, none⟩ = some (.int .i64 yto) ∧ w'.cell? ⟨Yb, 3, none⟩ = some (.int .i64 ytm) ∧ w'.cell? ⟨Yb, 4, none⟩ = some (.int .i64 yix) ∧ w'.cell? ⟨Yb, 5, none⟩ = some (.int .i64 ylt) ∧ w'.cell? ⟨Yb, 6, none⟩ = some (.int .i64 ycm) ∧ w'.cell? ⟨Yb, 7, none⟩ = some (.int .i64 yro) ∧ w'.cell? ⟨Yb, 8, none⟩ = some (.bool yok) ∧ w'.cell? ⟨Yb, 9, none⟩ = some (.int .i64 yoff) ∧ w'.cell? ⟨Yb, 10, none⟩ = some (.slice yda ydn ydc) ∧ w'.cell? ⟨Yb, 11, none⟩ = some (.slice yea yen yec)) ∧ Hid (Below V.heap.size V w')) := fun V h => (HRn.out V ⟨ykd, yfr, yto, ytm, yix, ylt, ycm, yro, yok, yoff, yda, ydn, ydc, yd, yea, yen, yec, yes⟩ (FYb.out.below h.1.out) HYM.out).mono fun e w' q => cv.out _ V w' e h q
    have C22 : Hid (∀ V (y : RM), (Hid (Below Wb.heap.size Wb V) ∧ (V.cell? ⟨w.heap.size, 0, none⟩ = some (.int .i64 mkd) ∧ V.cell? ⟨w.heap.size, 1, none⟩ = some (.int .i64 mfr) ∧ V.cell? ⟨w.heap.size, 2, none⟩ = some (.int .i64 mto) ∧ V.cell? ⟨w.heap.size, 3, none⟩ = some (.int .i64 mtm) ∧ V.cell? ⟨w.heap.size, 4, none⟩ = some (.int .i64 mix) ∧ V.cell? ⟨w.heap.size, 5, none⟩ = some (.int .i64 mlt) ∧ V.cell? ⟨w.heap.size, 6, none⟩ = some (.int .i64 mcm) ∧ V.cell? ⟨w.heap.size, 7, none⟩ = some (.int .i64 mro) ∧ V.cell? ⟨w.heap.size, 8, none⟩ = some (.bool mok) ∧ V.cell? ⟨w.heap.size, 9, none⟩ = some (.int .i64 moff) ∧ V.cell? ⟨w.heap.size, 10, none⟩ = some (.slice mda mdn mdc) ∧ V.cell? ⟨w.heap.size, 11, none⟩ = some (.slice mea men mec)) ∧ (V.cell? ⟨Xb, 0, none⟩ = some (.int .i64 xkd) ∧ V.cell? ⟨Xb, 1, none⟩ = some (.int .i64 xfr) ∧ V.cell? ⟨Xb, 2, none⟩ = some (.int .i64 xto) ∧ V.cell? ⟨Xb, 3, none⟩ = some (.int .i64 xtm) ∧ V.cell? ⟨Xb, 4, none⟩ = some (.int .i64 xix) ∧ V.cell? ⟨Xb, 5, none⟩ = some (.int .i64 xlt) ∧ V.cell? ⟨Xb, 6, none⟩ = some (.int .i64 xcm) ∧ V.cell? ⟨Xb, 7, none⟩ = some (.int .i64 xro) ∧ V.cell? ⟨Xb, 8, none⟩ = some (.bool xok) ∧ V.cell? ⟨Xb, 9, none⟩ = some (.int .i64 xoff) ∧ V.cell? ⟨Xb, 10, none⟩ = some (.slice xda xdn xdc) ∧ V.cell? ⟨Xb, 11, none⟩ = some (.slice xea xen xec)) ∧ V.cell? ⟨Yb, 0, none⟩ = some (.int .i64 ykd) ∧ V.cell? ⟨Yb, 1, none⟩ = some (.int .i64 yfr) ∧ V.cell? ⟨Yb, 2, none⟩ = some (.int .i64 yto) ∧ V.cell? ⟨Yb, 3, none⟩ = some (.int .i64 ytm) ∧ V.cell? ⟨Yb, 4, none⟩ = some (.int .i64 yix) ∧ V.cell? ⟨Yb, 5, none⟩ = some (.int .i64 ylt) ∧ V.cell? ⟨Yb, 6, none⟩ = some (.int .i64 ycm) ∧ V.cell? ⟨Yb, 7, none⟩ = some (.int .i64 yro) ∧ V.cell? ⟨Yb, 8, none⟩ = some (.bool yok) ∧ V.cell? ⟨Yb, 9, none⟩ = some (.int .i64 yoff) ∧ V.cell? ⟨Yb, 10, none⟩ = some (.slice yda ydn ydc) ∧ V.cell? ⟨Yb, 11, none⟩ = some (.slice yea yen yec)) → Hid (y.Fit V ∧ y.msg = msg) → Calls Tryz.prog 22 #[y.val] V fun e w' => (∃ a n c, e = .returned (.slice a n c) ∧ Hid (IsB w' (.slice a n c) (PK.sealM msg))) ∧ (Hid (Below Wb.heap.size Wb w') ∧ (w'.cell? ⟨w.heap.size, 0, none⟩ = some (.int .i64 mkd) ∧ w'.cell? ⟨w.heap.size, 1, none⟩ = some (.int .i64 mfr) ∧ w'.cell? ⟨w.heap.size, 2, none⟩ = some (.int .i64 mto) ∧ w'.cell? ⟨w.heap.size, 3, none⟩ = some (.int .i64 mtm) ∧ w'.cell? ⟨w.heap.size, 4, none⟩ = some (.int .i64 mix) ∧ w'.cell? ⟨w.heap.size, 5, none⟩ = some (.int .i64 mlt) ∧ w'.cell? ⟨w.heap.size, 6, none⟩ = some (.int .i64 mcm) ∧ w'.cell? ⟨w.heap.size, 7, none⟩ = some (.int .i64 mro) ∧ w'.cell? ⟨w.heap.size, 8, none⟩ = some (.bool mok) ∧ w'.cell? ⟨w.heap.size, 9, none⟩ = some (.int .i64 moff) ∧ w'.cell? ⟨w.heap.size, 10, none⟩ = some (.slice mda mdn mdc) ∧ w'.cell? ⟨w.heap.size, 11, none⟩ = some (.slice mea men mec)) ∧ (w'.cell? ⟨Xb, 0, none⟩ = some (.int .i64 xkd) ∧ w'.cell? ⟨Xb, 1, none⟩ = some (.int .i64 xfr) ∧ w'.cell? ⟨Xb, 2, none⟩ = some (.int .i64 xto) ∧ w'.cell? ⟨Xb, 3, none⟩ = some (.int .i64 xtm) ∧ w'.cell? ⟨Xb, 4, none⟩ = some (.int .i64 xix) ∧ w'.cell? ⟨Xb, 5, none⟩ = some (.int .i64 xlt) ∧ w'.cell? ⟨Xb, 6, none⟩ = some (.int .i64 xcm) ∧ w'.cell? ⟨Xb, 7, none⟩ = some (.int .i64 xro) ∧ w'.cell? ⟨Xb, 8, none⟩ = some (.bool xok) ∧ w'.cell? ⟨Xb, 9, none⟩ = some (.int .i64 xoff) ∧ w'.cell? ⟨Xb, 10, none⟩ = some (.slice xda xdn xdc) ∧ w'.cell? ⟨Xb, 11, none⟩ = some (.slice xea xen xec)) ∧ w'.cell? ⟨Yb, 0, none⟩ = some (.int .i64 ykd) ∧ w'.cell? ⟨Yb, 1, none⟩ = some (.int .i64 yfr) ∧ w'.cell? ⟨Yb, 2, none⟩ = some (.int .i64 yto) ∧ w'.cell? ⟨Yb, 3, none⟩ = some (.int .i64 ytm) ∧ w'.cell? ⟨Yb, 4, none⟩ = some (.int .i64 yix) ∧ w'.cell? ⟨Yb, 5, none⟩ = some (.int .i64 ylt) ∧ w'.cell? ⟨Yb, 6, none⟩ = some (.int .i64 ycm) ∧ w'.cell? ⟨Yb, 7, none⟩ = some (.int .i64 yro) ∧ w'.cell? ⟨Yb, 8, none⟩ = some (.bool yok) ∧ w'.cell? ⟨Yb, 9, none⟩ = some (.int .i64 yoff) ∧ w'.cell? ⟨Yb, 10, none⟩ = some (.slice yda ydn ydc) ∧ w'.cell? ⟨Yb, 11, none⟩ = some (.slice yea yen yec)) ∧ Hid (Below V.heap.size V w')) := fun V y h hy => (HSe.out V y (fin.out V h) hy.out.1 hy.out.2 HRm.out).mono fun e w' q => cv.out _ V w' e h q
    have econv : ∀ V : World, Hid (Below Wb.heap.size Wb V) → (convert 22 9 (.slice a3 n3 c3)).run Tryz.prog V = .ok (.string (str (PK.sealM msg))) V := fun V h => run_toStr T22 U9 (I6.out.below h.out)
    have S0 := cont.out Wb.drew (Below.refl _ _).drew
    clear cv cont step HNum HEn HRn HSu HXM HYM FXb FYb Bb gXb gY gMb hXlb hYlb hMlb bWb HG HSe HRm HEe FM I6 p0 p1 p2 p3 p4 p5 p6 p7 p8 p9 pa pb q0 q1 q2 q3 q4 q5 q6 q7 q8 q9 qa qb d0 d1 d2 d3 d4 d5 d6 d7 d8 d9 da db
    generalize PK.sealM msg = SM at *
    generalize PK.encM (PK.resM r) = ER at *
    simp only [intV]
    generalize PK.errM r = er at *
    go_wp2_with fail
    rw [← hWb]
    try rw [hYb]
    clear hWb hYb
    refine wp_region_noPanic ?_
    refine wp_region_held_drew (S := fun V => (Hid (Below Wb.heap.size Wb V) ∧ (V.cell? ⟨w.heap.size, 0, none⟩ = some (.int .i64 mkd) ∧ V.cell? ⟨w.heap.size, 1, none⟩ = some (.int .i64 mfr) ∧ V.cell? ⟨w.heap.size, 2, none⟩ = some (.int .i64 mto) ∧ V.cell? ⟨w.heap.size, 3, none⟩ = some (.int .i64 mtm) ∧ V.cell? ⟨w.heap.size, 4, none⟩ = some (.int .i64 mix) ∧ V.cell? ⟨w.heap.size, 5, none⟩ = some (.int .i64 mlt) ∧ V.cell? ⟨w.heap.size, 6, none⟩ = some (.int .i64 mcm) ∧ V.cell? ⟨w.heap.size, 7, none⟩ = some (.int .i64 mro) ∧ V.cell? ⟨w.heap.size, 8, none⟩ = some (.bool mok) ∧ V.cell? ⟨w.heap.size, 9, none⟩ = some (.int .i64 moff) ∧ V.cell? ⟨w.heap.size, 10, none⟩ = some (.slice mda mdn mdc) ∧ V.cell? ⟨w.heap.size, 11, none⟩ = some (.slice mea men mec)) ∧ (V.cell? ⟨Xb, 0, none⟩ = some (.int .i64 xkd) ∧ V.cell? ⟨Xb, 1, none⟩ = some (.int .i64 xfr) ∧ V.cell? ⟨Xb, 2, none⟩ = some (.int .i64 xto) ∧ V.cell? ⟨Xb, 3, none⟩ = some (.int .i64 xtm) ∧ V.cell? ⟨Xb, 4, none⟩ = some (.int .i64 xix) ∧ V.cell? ⟨Xb, 5, none⟩ = some (.int .i64 xlt) ∧ V.cell? ⟨Xb, 6, none⟩ = some (.int .i64 xcm) ∧ V.cell? ⟨Xb, 7, none⟩ = some (.int .i64 xro) ∧ V.cell? ⟨Xb, 8, none⟩ = some (.bool xok) ∧ V.cell? ⟨Xb, 9, none⟩ = some (.int .i64 xoff) ∧ V.cell? ⟨Xb, 10, none⟩ = some (.slice xda xdn xdc) ∧ V.cell? ⟨Xb, 11, none⟩ = some (.slice xea xen xec)) ∧ V.cell? ⟨Yb, 0, none⟩ = some (.int .i64 ykd) ∧ V.cell? ⟨Yb, 1, none⟩ = some (.int .i64 yfr) ∧ V.cell? ⟨Yb, 2, none⟩ = some (.int .i64 yto) ∧ V.cell? ⟨Yb, 3, none⟩ = some (.int .i64 ytm) ∧ V.cell? ⟨Yb, 4, none⟩ = some (.int .i64 yix) ∧ V.cell? ⟨Yb, 5, none⟩ = some (.int .i64 ylt) ∧ V.cell? ⟨Yb, 6, none⟩ = some (.int .i64 ycm) ∧ V.cell? ⟨Yb, 7, none⟩ = some (.int .i64 yro) ∧ V.cell? ⟨Yb, 8, none⟩ = some (.bool yok) ∧ V.cell? ⟨Yb, 9, none⟩ = some (.int .i64 yoff) ∧ V.cell? ⟨Yb, 10, none⟩ = some (.slice yda ydn ydc) ∧ V.cell? ⟨Yb, 11, none⟩ = some (.slice yea yen yec))) (by kernel_rfl) S0 (fun hHeld => ?_)
    refine wpAnyH_take (i := 0) (v := ?hvz_0) (List.getElem?_toArray.trans rfl) (by kernel_rfl) (by kernel_rfl) (by kernel_rfl) (fun _ _ _ h => h) (Or.inl ⟨by rfl, ?hyz_0⟩) (by assumption) ?hrz_0
    case hyz_0 => (intro wt hSw; (try dsimp only at hSw); go_simp; try (with_reducible rfl))
    try simp only [Act.put, List.setIfInBounds_toArray, List.set_cons_zero, List.set_cons_succ]
    refine wpAnyH_take (i := 4) (v := ?hvz_4) (List.getElem?_toArray.trans rfl) (by kernel_rfl) (by kernel_rfl) (by kernel_rfl) (fun _ _ _ h => h) (Or.inl ⟨by rfl, ?hyz_4⟩) (by assumption) ?hrz_4
    case hyz_4 => (intro wt hSw; (try dsimp only at hSw); go_simp; try (with_reducible rfl))
    try simp only [Act.put, List.setIfInBounds_toArray, List.set_cons_zero, List.set_cons_succ]
    refine wpAnyH_take (i := 5) (v := ?hvz_5) (List.getElem?_toArray.trans rfl) (by kernel_rfl) (by kernel_rfl) (by kernel_rfl) (fun _ _ _ h => h) (Or.inl ⟨by rfl, ?hyz_5⟩) (by assumption) ?hrz_5
    case hyz_5 => (intro wt hSw; (try dsimp only at hSw); go_simp; try (with_reducible rfl))
    try simp only [Act.put, List.setIfInBounds_toArray, List.set_cons_zero, List.set_cons_succ]
    refine wpAnyH_ready (rs := [1]) (by kernel_rfl) (by simp) ?_
    refine AllReadyH.cons (List.getElem?_toArray.trans rfl) (fun K hK => ?_) (AllReadyH.nil)
    go_simp
    go_at_call 14
    refine (C14.out _ ?_).mono ?_
    assumption
    rintro e vx ⟨⟨y2, rfl, hy2⟩, kx⟩
    try (go_wp2_with fail)
    refine hK.out _ _ ?_ (fun hHeld => ?_)
    · (try dsimp only)
      assumption
    clear hK K
    try simp only [Act.put, List.setIfInBounds_toArray, List.set_cons_zero, List.set_cons_succ]
    refine wpAnyH_ready (rs := [2]) (by kernel_rfl) (by simp) ?_
    refine AllReadyH.cons (List.getElem?_toArray.trans rfl) (fun K hK => ?_) (AllReadyH.nil)
    go_simp
    go_at_call 22
    refine (C22.out _ _ ?_ hy2).mono ?_
    assumption
    rintro e vx ⟨⟨a5, n5, c5, rfl, IA⟩, kx, bB⟩
    clear bB hy2 C22
    try (go_wp2_with fail)
    refine hK.out _ _ ?_ (fun hHeld => ?_)
    · (try dsimp only)
      assumption
    clear hK K
    try simp only [Act.put, List.setIfInBounds_toArray, List.set_cons_zero, List.set_cons_succ]
    refine wpAnyH_ready (rs := [3]) (by kernel_rfl) (by simp) ?_
    refine AllReadyH.cons (List.getElem?_toArray.trans rfl) (fun K hK => ?_) (AllReadyH.nil)
    have hcv := run_toStr (P := Tryz.prog) T22 U9 IA.out
    go_simp
    try (go_wp2_with fail)
    refine hK.out _ _ ?_ (fun hHeld => ?_)
    · (try dsimp only)
      assumption
    clear hK K
    try simp only [Act.put, List.setIfInBounds_toArray, List.set_cons_zero, List.set_cons_succ]
    clear hcv IA
    refine wpAnyH_take (i := 6) (v := ?hve1_6) (List.getElem?_toArray.trans rfl) (by kernel_rfl) (by kernel_rfl) (by kernel_rfl) (fun _ _ _ h => h) (Or.inl ⟨by rfl, ?hye1_6⟩) (by assumption) ?hre1_6
    case hye1_6 => (intro wt hSw; (try dsimp only at hSw); go_simp; try (with_reducible rfl))
    try simp only [Act.put, List.setIfInBounds_toArray, List.set_cons_zero, List.set_cons_succ]
    refine wpAnyH_take (i := 7) (v := ?hve1_7) (List.getElem?_toArray.trans rfl) (by kernel_rfl) (by kernel_rfl) (by kernel_rfl) (fun _ _ _ h => h) (Or.inl ⟨by rfl, ?hye1_7⟩) (by assumption) ?hre1_7
    case hye1_7 => (intro wt hSw; (try dsimp only at hSw); go_simp; try (with_reducible rfl))
    try simp only [Act.put, List.setIfInBounds_toArray, List.set_cons_zero, List.set_cons_succ]
    refine wpAnyH_take (i := 8) (v := ?hve1_8) (List.getElem?_toArray.trans rfl) (by kernel_rfl) (by kernel_rfl) (by kernel_rfl) (fun _ _ _ h => h) (Or.inl ⟨by rfl, ?hye1_8⟩) (by assumption) ?hre1_8
    case hye1_8 => (intro wt hSw; (try dsimp only at hSw); go_simp; try (with_reducible rfl))
    try simp only [Act.put, List.setIfInBounds_toArray, List.set_cons_zero, List.set_cons_succ]
    refine wpAnyH_take (i := 11) (v := ?hve1_11) (List.getElem?_toArray.trans rfl) (by kernel_rfl) (by kernel_rfl) (by kernel_rfl) (fun _ _ _ h => h) (Or.inl ⟨by rfl, ?hye1_11⟩) (by assumption) ?hre1_11
    case hye1_11 => (intro wt hSw; (try dsimp only at hSw); go_simp; try (with_reducible rfl))
    try simp only [Act.put, List.setIfInBounds_toArray, List.set_cons_zero, List.set_cons_succ]
    refine wpAnyH_ready (rs := [9]) (by kernel_rfl) (by simp) ?_
    refine AllReadyH.cons (List.getElem?_toArray.trans rfl) (fun K hK => ?_) (AllReadyH.nil)
    go_simp
    go_at_call 16
    refine (C16.out _ ?_).mono ?_
    assumption
    rintro e vx ⟨⟨a7, n7, c7, rfl, IC⟩, kx, bB⟩
    clear bB C16
    try (go_wp2_with fail)
    refine hK.out _ _ ?_ (fun hHeld => ?_)
    · (try dsimp only)
      assumption
    clear hK K
    try simp only [Act.put, List.setIfInBounds_toArray, List.set_cons_zero, List.set_cons_succ]
    refine wpAnyH_ready (rs := [10, 12]) (by kernel_rfl) (by simp) ?_
    refine AllReadyH.cons (List.getElem?_toArray.trans rfl) (fun K hK => ?_) (AllReadyH.cons (List.getElem?_toArray.trans rfl) (fun K hK => ?_) (AllReadyH.nil))
    · have hcv := run_toStr (P := Tryz.prog) T22 U9 IC.out
      go_simp
      try (go_wp2_with fail)
      refine hK.out _ _ ?_ (fun hHeld => ?_)
      · (try dsimp only)
        assumption
      clear hK K
      try simp only [Act.put, List.setIfInBounds_toArray, List.set_cons_zero, List.set_cons_succ]
      clear hcv IC
      refine wpAnyH_ready (rs := [12]) (by kernel_rfl) (by simp) ?_
      refine AllReadyH.cons (List.getElem?_toArray.trans rfl) (fun K hK => ?_) (AllReadyH.nil)
      go_simp
      go_at_call 17
      refine (C17.out _ ?_).mono ?_
      assumption
      rintro e vx ⟨⟨a8, n8, c8, rfl, ID⟩, kx, bB⟩
      clear bB C17
      try (go_wp2_with fail)
      refine hK.out _ _ ?_ (fun hHeld => ?_)
      · (try dsimp only)
        assumption
      clear hK K
      try simp only [Act.put, List.setIfInBounds_toArray, List.set_cons_zero, List.set_cons_succ]
      refine wpAnyH_ready (rs := [13]) (by kernel_rfl) (by simp) ?_
      refine AllReadyH.cons (List.getElem?_toArray.trans rfl) (fun K hK => ?_) (AllReadyH.nil)
      have hcv := run_toStr (P := Tryz.prog) T22 U9 ID.out
      go_simp
      try (go_wp2_with fail)
      refine hK.out _ _ ?_ (fun hHeld => ?_)
      · (try dsimp only)
        assumption
      clear hK K
      try simp only [Act.put, List.setIfInBounds_toArray, List.set_cons_zero, List.set_cons_succ]
      clear hcv ID
      refine wpAnyH_take (i := 14) (v := ?hve2_14) (List.getElem?_toArray.trans rfl) (by kernel_rfl) (by kernel_rfl) (by kernel_rfl) (fun _ _ _ h => h) (Or.inl ⟨by rfl, ?hye2_14⟩) (by assumption) ?hre2_14
      case hye2_14 => (intro wt hSw; (try dsimp only at hSw); go_simp; try (with_reducible rfl))
      try simp only [Act.put, List.setIfInBounds_toArray, List.set_cons_zero, List.set_cons_succ]
      refine wpAnyH_take (i := 15) (v := ?hve2_15) (List.getElem?_toArray.trans rfl) (by kernel_rfl) (by kernel_rfl) (by kernel_rfl) (fun _ _ _ h => h) (Or.inl ⟨by rfl, ?hye2_15⟩) (by assumption) ?hre2_15
      case hye2_15 => (intro wt hSw; (try dsimp only at hSw); go_simp; try (with_reducible rfl))
      try simp only [Act.put, List.setIfInBounds_toArray, List.set_cons_zero, List.set_cons_succ]
      refine wpAnyH_take (i := 16) (v := ?hve2_16) (List.getElem?_toArray.trans rfl) (by kernel_rfl) (by kernel_rfl) (by kernel_rfl) (fun _ _ _ h => h) (Or.inl ⟨by rfl, ?hye2_16⟩) (by assumption) ?hre2_16
      case hye2_16 => (intro wt hSw; (try dsimp only at hSw); go_simp; try (with_reducible rfl))
      try simp only [Act.put, List.setIfInBounds_toArray, List.set_cons_zero, List.set_cons_succ]
      refine wpAnyH_take (i := 17) (v := ?hve2_17) (List.getElem?_toArray.trans rfl) (by kernel_rfl) (by kernel_rfl) (by kernel_rfl) (fun _ _ _ h => h) (Or.inl ⟨by rfl, ?hye2_17⟩) (by assumption) ?hre2_17
      case hye2_17 => (intro wt hSw; (try dsimp only at hSw); go_simp; try (with_reducible rfl))
      try simp only [Act.put, List.setIfInBounds_toArray, List.set_cons_zero, List.set_cons_succ]
      refine wpAnyH_take (i := 19) (v := ?hve2_19) (List.getElem?_toArray.trans rfl) (by kernel_rfl) (by kernel_rfl) (by kernel_rfl) (fun _ _ _ h => h) (Or.inl ⟨by rfl, ?hye2_19⟩) (by assumption) ?hre2_19
      case hye2_19 => (intro wt hSw; (try dsimp only at hSw); go_simp; try (with_reducible rfl))
      try simp only [Act.put, List.setIfInBounds_toArray, List.set_cons_zero, List.set_cons_succ]
      refine wpAnyH_ready (rs := [18]) (by kernel_rfl) (by simp) ?_
      refine AllReadyH.cons (List.getElem?_toArray.trans rfl) (fun K hK => ?_) (AllReadyH.nil)
      go_simp
      go_at_call 18
      refine (C18.out _ ?_).mono ?_
      assumption
      rintro e vx ⟨rfl, kx⟩
      clear C18
      try (go_wp2_with fail)
      refine hK.out _ _ ?_ (fun hHeld => ?_)
      · (try dsimp only)
        assumption
      clear hK K
      try simp only [Act.put, List.setIfInBounds_toArray, List.set_cons_zero, List.set_cons_succ]
      refine wpAnyH_take (i := 20) (v := ?hve3_20) (List.getElem?_toArray.trans rfl) (by kernel_rfl) (by kernel_rfl) (by kernel_rfl) (fun _ _ _ h => h) (Or.inl ⟨by rfl, ?hye3_20⟩) (by assumption) ?hre3_20
      case hye3_20 => (intro wt hSw; (try dsimp only at hSw); go_simp; try (with_reducible rfl))
      try simp only [Act.put, List.setIfInBounds_toArray, List.set_cons_zero, List.set_cons_succ]
      refine wpAnyH_take (i := 21) (v := ?hve3_21) (List.getElem?_toArray.trans rfl) (by kernel_rfl) (by kernel_rfl) (by kernel_rfl) (fun _ _ _ h => h) (Or.inl ⟨by rfl, ?hye3_21⟩) (by assumption) ?hre3_21
      case hye3_21 => (intro wt hSw; (try dsimp only at hSw); go_simp; try (with_reducible rfl))
      try simp only [Act.put, List.setIfInBounds_toArray, List.set_cons_zero, List.set_cons_succ]
      refine wpAnyH_take (i := 22) (v := ?hve3_22) (List.getElem?_toArray.trans rfl) (by kernel_rfl) (by kernel_rfl) (by kernel_rfl) (fun _ _ _ h => h) (Or.inl ⟨by rfl, ?hye3_22⟩) (by assumption) ?hre3_22
      case hye3_22 => (intro wt hSw; (try dsimp only at hSw); go_simp; try (with_reducible rfl))
      try simp only [Act.put, List.setIfInBounds_toArray, List.set_cons_zero, List.set_cons_succ]
      refine wpAnyH_ready (rs := [23]) (by kernel_rfl) (by simp) ?_
      refine AllReadyH.cons (List.getElem?_toArray.trans rfl) (fun K hK => ?_) (AllReadyH.nil)
      go_simp
      go_at_call 10
      refine (C10.out _ ?_).mono ?_
      assumption
      rintro e vx ⟨rfl, kx⟩
      clear C10
      try (go_wp2_with fail)
      refine hK.out _ _ ?_ (fun hHeld => ?_)
      · (try dsimp only)
        assumption
      clear hK K
      try simp only [Act.put, List.setIfInBounds_toArray, List.set_cons_zero, List.set_cons_succ]
      refine wpAnyH_take (i := 24) (v := ?hve4_24) (List.getElem?_toArray.trans rfl) (by kernel_rfl) (by kernel_rfl) (by kernel_rfl) (fun _ _ _ h => h) (Or.inl ⟨by rfl, ?hye4_24⟩) (by assumption) ?hre4_24
      case hye4_24 => (intro wt hSw; (try dsimp only at hSw); go_simp; try (with_reducible rfl))
      try simp only [Act.put, List.setIfInBounds_toArray, List.set_cons_zero, List.set_cons_succ]
      refine wpAnyH_take (i := 25) (v := ?hve4_25) (List.getElem?_toArray.trans rfl) (by kernel_rfl) (by kernel_rfl) (by kernel_rfl) (fun _ _ _ h => h) (Or.inl ⟨by rfl, ?hye4_25⟩) (by assumption) ?hre4_25
      case hye4_25 => (intro wt hSw; (try dsimp only at hSw); go_simp; try (with_reducible rfl))
      try simp only [Act.put, List.setIfInBounds_toArray, List.set_cons_zero, List.set_cons_succ]
      refine wpAnyH_done (by kernel_rfl) ?_ _
      refine NoPanic.normal ?_
      go_wp2
      go_ret
      exact ⟨rfl, fin.out _ (by assumption)⟩
    · go_simp
      go_at_call 17
      refine (C17.out _ ?_).mono ?_
      assumption
      rintro e vx ⟨⟨a8, n8, c8, rfl, ID⟩, kx, bB⟩
      have IC := Lib.hid (IC.out.below bB.out)
      clear bB C17
      try (go_wp2_with fail)
      refine hK.out _ _ ?_ (fun hHeld => ?_)
      · (try dsimp only)
        assumption
      clear hK K
      try simp only [Act.put, List.setIfInBounds_toArray, List.set_cons_zero, List.set_cons_succ]
      refine wpAnyH_ready (rs := [10, 13]) (by kernel_rfl) (by simp) ?_
      refine AllReadyH.cons (List.getElem?_toArray.trans rfl) (fun K hK => ?_) (AllReadyH.cons (List.getElem?_toArray.trans rfl) (fun K hK => ?_) (AllReadyH.nil))
      · have hcv := run_toStr (P := Tryz.prog) T22 U9 IC.out
        go_simp
        try (go_wp2_with fail)
        refine hK.out _ _ ?_ (fun hHeld => ?_)
        · (try dsimp only)
          assumption
        clear hK K
        try simp only [Act.put, List.setIfInBounds_toArray, List.set_cons_zero, List.set_cons_succ]
        clear hcv IC
        refine wpAnyH_ready (rs := [13]) (by kernel_rfl) (by simp) ?_
        refine AllReadyH.cons (List.getElem?_toArray.trans rfl) (fun K hK => ?_) (AllReadyH.nil)
        have hcv := run_toStr (P := Tryz.prog) T22 U9 ID.out
        go_simp
        try (go_wp2_with fail)
        refine hK.out _ _ ?_ (fun hHeld => ?_)
        · (try dsimp only)
          assumption
        clear hK K
        try simp only [Act.put, List.setIfInBounds_toArray, List.set_cons_zero, List.set_cons_succ]
        clear hcv ID
        refine wpAnyH_take (i := 14) (v := ?hve5_14) (List.getElem?_toArray.trans rfl) (by kernel_rfl) (by kernel_rfl) (by kernel_rfl) (fun _ _ _ h => h) (Or.inl ⟨by rfl, ?hye5_14⟩) (by assumption) ?hre5_14
        case hye5_14 => (intro wt hSw; (try dsimp only at hSw); go_simp; try (with_reducible rfl))
        try simp only [Act.put, List.setIfInBounds_toArray, List.set_cons_zero, List.set_cons_succ]
        refine wpAnyH_take (i := 15) (v := ?hve5_15) (List.getElem?_toArray.trans rfl) (by kernel_rfl) (by kernel_rfl) (by kernel_rfl) (fun _ _ _ h => h) (Or.inl ⟨by rfl, ?hye5_15⟩) (by assumption) ?hre5_15
        case hye5_15 => (intro wt hSw; (try dsimp only at hSw); go_simp; try (with_reducible rfl))
        try simp only [Act.put, List.setIfInBounds_toArray, List.set_cons_zero, List.set_cons_succ]
        refine wpAnyH_take (i := 16) (v := ?hve5_16) (List.getElem?_toArray.trans rfl) (by kernel_rfl) (by kernel_rfl) (by kernel_rfl) (fun _ _ _ h => h) (Or.inl ⟨by rfl, ?hye5_16⟩) (by assumption) ?hre5_16
        case hye5_16 => (intro wt hSw; (try dsimp only at hSw); go_simp; try (with_reducible rfl))
        try simp only [Act.put, List.setIfInBounds_toArray, List.set_cons_zero, List.set_cons_succ]
        refine wpAnyH_take (i := 17) (v := ?hve5_17) (List.getElem?_toArray.trans rfl) (by kernel_rfl) (by kernel_rfl) (by kernel_rfl) (fun _ _ _ h => h) (Or.inl ⟨by rfl, ?hye5_17⟩) (by assumption) ?hre5_17
        case hye5_17 => (intro wt hSw; (try dsimp only at hSw); go_simp; try (with_reducible rfl))
        try simp only [Act.put, List.setIfInBounds_toArray, List.set_cons_zero, List.set_cons_succ]
        refine wpAnyH_take (i := 19) (v := ?hve5_19) (List.getElem?_toArray.trans rfl) (by kernel_rfl) (by kernel_rfl) (by kernel_rfl) (fun _ _ _ h => h) (Or.inl ⟨by rfl, ?hye5_19⟩) (by assumption) ?hre5_19
        case hye5_19 => (intro wt hSw; (try dsimp only at hSw); go_simp; try (with_reducible rfl))
        try simp only [Act.put, List.setIfInBounds_toArray, List.set_cons_zero, List.set_cons_succ]
        refine wpAnyH_ready (rs := [18]) (by kernel_rfl) (by simp) ?_
        refine AllReadyH.cons (List.getElem?_toArray.trans rfl) (fun K hK => ?_) (AllReadyH.nil)
        go_simp
        go_at_call 18
        refine (C18.out _ ?_).mono ?_
        assumption
        rintro e vx ⟨rfl, kx⟩
        clear C18
        try (go_wp2_with fail)
        refine hK.out _ _ ?_ (fun hHeld => ?_)
        · (try dsimp only)
          assumption
        clear hK K
        try simp only [Act.put, List.setIfInBounds_toArray, List.set_cons_zero, List.set_cons_succ]
        refine wpAnyH_take (i := 20) (v := ?hve6_20) (List.getElem?_toArray.trans rfl) (by kernel_rfl) (by kernel_rfl) (by kernel_rfl) (fun _ _ _ h => h) (Or.inl ⟨by rfl, ?hye6_20⟩) (by assumption) ?hre6_20
        case hye6_20 => (intro wt hSw; (try dsimp only at hSw); go_simp; try (with_reducible rfl))
        try simp only [Act.put, List.setIfInBounds_toArray, List.set_cons_zero, List.set_cons_succ]
        refine wpAnyH_take (i := 21) (v := ?hve6_21) (List.getElem?_toArray.trans rfl) (by kernel_rfl) (by kernel_rfl) (by kernel_rfl) (fun _ _ _ h => h) (Or.inl ⟨by rfl, ?hye6_21⟩) (by assumption) ?hre6_21
        case hye6_21 => (intro wt hSw; (try dsimp only at hSw); go_simp; try (with_reducible rfl))
        try simp only [Act.put, List.setIfInBounds_toArray, List.set_cons_zero, List.set_cons_succ]
        refine wpAnyH_take (i := 22) (v := ?hve6_22) (List.getElem?_toArray.trans rfl) (by kernel_rfl) (by kernel_rfl) (by kernel_rfl) (fun _ _ _ h => h) (Or.inl ⟨by rfl, ?hye6_22⟩) (by assumption) ?hre6_22
        case hye6_22 => (intro wt hSw; (try dsimp only at hSw); go_simp; try (with_reducible rfl))
        try simp only [Act.put, List.setIfInBounds_toArray, List.set_cons_zero, List.set_cons_succ]
        refine wpAnyH_ready (rs := [23]) (by kernel_rfl) (by simp) ?_
        refine AllReadyH.cons (List.getElem?_toArray.trans rfl) (fun K hK => ?_) (AllReadyH.nil)
        go_simp
        go_at_call 10
        refine (C10.out _ ?_).mono ?_
        assumption
        rintro e vx ⟨rfl, kx⟩
        clear C10
        try (go_wp2_with fail)
        refine hK.out _ _ ?_ (fun hHeld => ?_)
        · (try dsimp only)
          assumption
        clear hK K
        try simp only [Act.put, List.setIfInBounds_toArray, List.set_cons_zero, List.set_cons_succ]
        refine wpAnyH_take (i := 24) (v := ?hve7_24) (List.getElem?_toArray.trans rfl) (by kernel_rfl) (by kernel_rfl) (by kernel_rfl) (fun _ _ _ h => h) (Or.inl ⟨by rfl, ?hye7_24⟩) (by assumption) ?hre7_24
        case hye7_24 => (intro wt hSw; (try dsimp only at hSw); go_simp; try (with_reducible rfl))
        try simp only [Act.put, List.setIfInBounds_toArray, List.set_cons_zero, List.set_cons_succ]
        refine wpAnyH_take (i := 25) (v := ?hve7_25) (List.getElem?_toArray.trans rfl) (by kernel_rfl) (by kernel_rfl) (by kernel_rfl) (fun _ _ _ h => h) (Or.inl ⟨by rfl, ?hye7_25⟩) (by assumption) ?hre7_25
        case hye7_25 => (intro wt hSw; (try dsimp only at hSw); go_simp; try (with_reducible rfl))
        try simp only [Act.put, List.setIfInBounds_toArray, List.set_cons_zero, List.set_cons_succ]
        refine wpAnyH_done (by kernel_rfl) ?_ _
        refine NoPanic.normal ?_
        go_wp2
        go_ret
        exact ⟨rfl, fin.out _ (by assumption)⟩
      · have hcv := run_toStr (P := Tryz.prog) T22 U9 ID.out
        go_simp
        try (go_wp2_with fail)
        refine hK.out _ _ ?_ (fun hHeld => ?_)
        · (try dsimp only)
          assumption
        clear hK K
        try simp only [Act.put, List.setIfInBounds_toArray, List.set_cons_zero, List.set_cons_succ]
        clear hcv ID
        refine wpAnyH_ready (rs := [10]) (by kernel_rfl) (by simp) ?_
        refine AllReadyH.cons (List.getElem?_toArray.trans rfl) (fun K hK => ?_) (AllReadyH.nil)
        have hcv := run_toStr (P := Tryz.prog) T22 U9 IC.out
        go_simp
        try (go_wp2_with fail)
        refine hK.out _ _ ?_ (fun hHeld => ?_)
        · (try dsimp only)
          assumption
        clear hK K
        try simp only [Act.put, List.setIfInBounds_toArray, List.set_cons_zero, List.set_cons_succ]
        clear hcv IC
        refine wpAnyH_take (i := 14) (v := ?hve8_14) (List.getElem?_toArray.trans rfl) (by kernel_rfl) (by kernel_rfl) (by kernel_rfl) (fun _ _ _ h => h) (Or.inl ⟨by rfl, ?hye8_14⟩) (by assumption) ?hre8_14
        case hye8_14 => (intro wt hSw; (try dsimp only at hSw); go_simp; try (with_reducible rfl))
        try simp only [Act.put, List.setIfInBounds_toArray, List.set_cons_zero, List.set_cons_succ]
        refine wpAnyH_take (i := 15) (v := ?hve8_15) (List.getElem?_toArray.trans rfl) (by kernel_rfl) (by kernel_rfl) (by kernel_rfl) (fun _ _ _ h => h) (Or.inl ⟨by rfl, ?hye8_15⟩) (by assumption) ?hre8_15
        case hye8_15 => (intro wt hSw; (try dsimp only at hSw); go_simp; try (with_reducible rfl))
        try simp only [Act.put, List.setIfInBounds_toArray, List.set_cons_zero, List.set_cons_succ]
        refine wpAnyH_take (i := 16) (v := ?hve8_16) (List.getElem?_toArray.trans rfl) (by kernel_rfl) (by kernel_rfl) (by kernel_rfl) (fun _ _ _ h => h) (Or.inl ⟨by rfl, ?hye8_16⟩) (by assumption) ?hre8_16
        case hye8_16 => (intro wt hSw; (try dsimp only at hSw); go_simp; try (with_reducible rfl))
        try simp only [Act.put, List.setIfInBounds_toArray, List.set_cons_zero, List.set_cons_succ]
        refine wpAnyH_take (i := 17) (v := ?hve8_17) (List.getElem?_toArray.trans rfl) (by kernel_rfl) (by kernel_rfl) (by kernel_rfl) (fun _ _ _ h => h) (Or.inl ⟨by rfl, ?hye8_17⟩) (by assumption) ?hre8_17
        case hye8_17 => (intro wt hSw; (try dsimp only at hSw); go_simp; try (with_reducible rfl))
        try simp only [Act.put, List.setIfInBounds_toArray, List.set_cons_zero, List.set_cons_succ]
        refine wpAnyH_take (i := 19) (v := ?hve8_19) (List.getElem?_toArray.trans rfl) (by kernel_rfl) (by kernel_rfl) (by kernel_rfl) (fun _ _ _ h => h) (Or.inl ⟨by rfl, ?hye8_19⟩) (by assumption) ?hre8_19
        case hye8_19 => (intro wt hSw; (try dsimp only at hSw); go_simp; try (with_reducible rfl))
        try simp only [Act.put, List.setIfInBounds_toArray, List.set_cons_zero, List.set_cons_succ]
        refine wpAnyH_ready (rs := [18]) (by kernel_rfl) (by simp) ?_
        refine AllReadyH.cons (List.getElem?_toArray.trans rfl) (fun K hK => ?_) (AllReadyH.nil)
        go_simp
        go_at_call 18
        refine (C18.out _ ?_).mono ?_
        assumption
        rintro e vx ⟨rfl, kx⟩
        clear C18
        try (go_wp2_with fail)
        refine hK.out _ _ ?_ (fun hHeld => ?_)
        · (try dsimp only)
          assumption
        clear hK K
        try simp only [Act.put, List.setIfInBounds_toArray, List.set_cons_zero, List.set_cons_succ]
        refine wpAnyH_take (i := 20) (v := ?hve9_20) (List.getElem?_toArray.trans rfl) (by kernel_rfl) (by kernel_rfl) (by kernel_rfl) (fun _ _ _ h => h) (Or.inl ⟨by rfl, ?hye9_20⟩) (by assumption) ?hre9_20
        case hye9_20 => (intro wt hSw; (try dsimp only at hSw); go_simp; try (with_reducible rfl))
        try simp only [Act.put, List.setIfInBounds_toArray, List.set_cons_zero, List.set_cons_succ]
        refine wpAnyH_take (i := 21) (v := ?hve9_21) (List.getElem?_toArray.trans rfl) (by kernel_rfl) (by kernel_rfl) (by kernel_rfl) (fun _ _ _ h => h) (Or.inl ⟨by rfl, ?hye9_21⟩) (by assumption) ?hre9_21
        case hye9_21 => (intro wt hSw; (try dsimp only at hSw); go_simp; try (with_reducible rfl))
        try simp only [Act.put, List.setIfInBounds_toArray, List.set_cons_zero, List.set_cons_succ]
        refine wpAnyH_take (i := 22) (v := ?hve9_22) (List.getElem?_toArray.trans rfl) (by kernel_rfl) (by kernel_rfl) (by kernel_rfl) (fun _ _ _ h => h) (Or.inl ⟨by rfl, ?hye9_22⟩) (by assumption) ?hre9_22
        case hye9_22 => (intro wt hSw; (try dsimp only at hSw); go_simp; try (with_reducible rfl))
        try simp only [Act.put, List.setIfInBounds_toArray, List.set_cons_zero, List.set_cons_succ]
        refine wpAnyH_ready (rs := [23]) (by kernel_rfl) (by simp) ?_
        refine AllReadyH.cons (List.getElem?_toArray.trans rfl) (fun K hK => ?_) (AllReadyH.nil)
        go_simp
        go_at_call 10
        refine (C10.out _ ?_).mono ?_
        assumption
        rintro e vx ⟨rfl, kx⟩
        clear C10
        try (go_wp2_with fail)
        refine hK.out _ _ ?_ (fun hHeld => ?_)
        · (try dsimp only)
          assumption
        clear hK K
        try simp only [Act.put, List.setIfInBounds_toArray, List.set_cons_zero, List.set_cons_succ]
        refine wpAnyH_take (i := 24) (v := ?hve10_24) (List.getElem?_toArray.trans rfl) (by kernel_rfl) (by kernel_rfl) (by kernel_rfl) (fun _ _ _ h => h) (Or.inl ⟨by rfl, ?hye10_24⟩) (by assumption) ?hre10_24
        case hye10_24 => (intro wt hSw; (try dsimp only at hSw); go_simp; try (with_reducible rfl))
        try simp only [Act.put, List.setIfInBounds_toArray, List.set_cons_zero, List.set_cons_succ]
        refine wpAnyH_take (i := 25) (v := ?hve10_25) (List.getElem?_toArray.trans rfl) (by kernel_rfl) (by kernel_rfl) (by kernel_rfl) (fun _ _ _ h => h) (Or.inl ⟨by rfl, ?hye10_25⟩) (by assumption) ?hre10_25
        case hye10_25 => (intro wt hSw; (try dsimp only at hSw); go_simp; try (with_reducible rfl))
        try simp only [Act.put, List.setIfInBounds_toArray, List.set_cons_zero, List.set_cons_succ]
        refine wpAnyH_done (by kernel_rfl) ?_ _
        refine NoPanic.normal ?_
        go_wp2
        go_ret
        exact ⟨rfl, fin.out _ (by assumption)⟩
end Go.Proofs.YtbgockggbpmhnaaGreatDoor
namespace Go.Proofs.YtbgockggbpmhnaaGreatDoor.msgFrames
open Go Go.ChangeShapes Go.WideShapes Go.ChangeAt Go.RowKit

set_option maxRecDepth 100000 in
theorem contract (H : Type) (enc : TypeId × Value → H) (W : World) (base : Nat) (args : Array Value) (ds gs : List (DataW H)) (before : List MemPlace)
    (hval : ∀ (j : Nat) t v, Tryz.f4.params[j]? = some t → args[j]? = some v → Value.okWide Tryz.prog W .any base t v)
    (hW : DataW.Whole enc Tryz.prog Tryz.f4.params.toList Rows.msgFramesSpec.vars false W args.toList ds gs before)
    (hz : (DataW.weightsEach Tryz.prog (Tryz.f4.params.toList ++ (OpenSpec.ofChange Rows.msgFramesSpec).bare.plain.varTypes Tryz.prog) (ds ++ gs)).all (· ≤ reachBytes) = true) (hL : laidMetH Tryz.prog Rows.msgFramesRow.laid W) :
    Calls Tryz.prog 4 args W fun e W' => ∃ v, e = .returned v ∧ Rows.msgFramesSpec.post enc Tryz.prog Tryz.f4 false true false false W args v W' := by
  have hW' := hW
  obtain ⟨p, q, hA0, hV, rfl, hfz, hnd⟩ := hW
  have hA : DataW.TrodAll enc Tryz.prog W 0 (fun _ => true) true Tryz.f4.params.toList args.toList ds p := hA0
  rw [Tryz.params4] at hA hval hz
  obtain ⟨v0, vs0, d0, ds0, p0, q0, hargs, rfl, rfl, h0, r0⟩ := trodAll_cons hA
  obtain ⟨v1, vs1, d1, ds1, p1, q1, rfl, rfl, rfl, h1, r1⟩ := trodAll_cons r0
  obtain ⟨rfl, rfl, rfl⟩ := trodAll_nil r1
  obtain rfl : args = #[v0, v1] := by cases args; simp_all
  obtain ⟨rfl, rfl⟩ := trodVars_none hV
  have k0 := h0
  have lt0 : ∀ x ∈ p0, x.block < W.heap.size := by obtain ⟨m, hm⟩ := k0; exact DataW.trod_lt m _ _ _ hm
  have k1 := h1
  have lt1 : ∀ x ∈ p1, x.block < W.heap.size := by obtain ⟨m, hm⟩ := k1; exact DataW.trod_lt m _ _ _ hm
  obtain ⟨b1, n1, c1, rfl⟩ := okWide_slice Tryz.underlying22 (hval 1 22 v1 rfl rfl)
  obtain ⟨m1, hm1⟩ := h1
  obtain ⟨_, _, _, l1, hv1, hl1, hI1, hu1, hw1⟩ := open_bytes hm1
  simp only [Value.slice.injEq] at hv1
  obtain ⟨rfl, rfl, rfl⟩ := hv1
  clear hm1
  subst hl1
  obtain ⟨x, rfl, hfit, hwx⟩ := open_msgW (hval 0 25 v0 rfl rfl) h0
  obtain ⟨hdn, hes⟩ := hwx reachBytes (List.all_eq_true.2 fun x hx => List.all_eq_true.1 hz _ (DataW.weights_mem_each (j := 0) rfl rfl x hx))
  have hR : reachBytes ≤ roomB := by decide
  have hd : x.dn ≤ roomB := Nat.le_trans hdn hR
  have hb : ∀ y ∈ x.es, y.n ≤ roomB := fun y hy => Nat.le_trans (hes y hy) hR
  clear hA0
  have hl : l1.length ≤ roomB := Nat.le_trans (hw1 _ (List.all_eq_true.2 fun x hx => List.all_eq_true.1 hz _ (DataW.weights_mem_each (j := 1) rfl rfl x hx))) hR
  refine (msgFrames_any x b1 c1 l1 W (env_of_laid hL) hfit hd hb hI1 hl).mono fun e W' ⟨he, bel⟩ => ?_
  subst he
  exact ⟨_, rfl, _, _, _, [], _, [], hW', trodAll_mk1 (shut_bool Tryz.underlying4 _), (trodAll_cons_mk (Below.trod laidOut (by kernel_rfl) (of_decide_eq_true (by kernel_rfl)) k0 bel lt0) (trodAll_cons_mk (Below.trod laidOut (by kernel_rfl) (of_decide_eq_true (by kernel_rfl)) k1 bel lt1) trodAll_mk0)), rfl, bel.frame _, fun h => by cases h⟩

theorem reads (os : Os) {H : Type} (enc : TypeId × Value → H) : (DataW.whole enc Tryz.prog ((laidWorld os).forCall (fun _ _ => 0) ⟨#[], #[.agg #[.int .i64 0, .int .i64 0, .int .i64 0, .int .i64 0, .int .i64 0, .int .i64 0, .int .i64 0, .int .i64 0, .bool false, .int .i64 0, .slice none 0 0, .slice none 0 0], .slice none 0 0], []⟩).memory Tryz.f4.params.toList Rows.msgFramesSpec.vars false #[Value.agg #[.int .i64 0, .int .i64 0, .int .i64 0, .int .i64 0, .int .i64 0, .int .i64 0, .int .i64 0, .int .i64 0, .bool false, .int .i64 0, .slice none 0 0, .slice none 0 0], .slice none 0 0].toList 8).isSome = true := by
  kernel_rfl

set_option maxRecDepth 100000 in
theorem lifted (os : Os) (started : os.Started) (H : Type) (enc : TypeId × Value → H) (F : Stop.Interp) :
    ReturnsInHanded {} Tryz.checked os 4 .any ((OpenSpec.ofChange Rows.msgFramesSpec).preRow enc Tryz.prog Tryz.f4 Rows.msgFramesRow.domain false Rows.msgFramesRow.laid) (((OpenSpec.ofChange Rows.msgFramesSpec).at F).post enc Tryz.prog Tryz.f4 false true false false) := by
  obtain ⟨x, hx⟩ := Option.isSome_iff_exists.1 (reads os enc)
  refine returnsInHanded_of_row (C := Tryz.checked) (s := OpenSpec.ofChange Rows.msgFramesSpec) own started (by kernel_rfl) Tryz.func4
    (witness_row_at (enc := enc) (C := Tryz.checked) false (laidWorld os) #[.agg #[.int .i64 0, .int .i64 0, .int .i64 0, .int .i64 0, .int .i64 0, .int .i64 0, .int .i64 0, .int .i64 0, .bool false, .int .i64 0, .slice none 0 0, .slice none 0 0], .slice none 0 0] rfl (by kernel_rfl) (by kernel_rfl) (by kernel_rfl)
      (OpenSpec.preRow_of_cond 8 hx rfl (fun k hk => by cases hk) (by kernel_rfl) (laidWorld_met os _))) ?_
  intro W base args ds gs before hval hW _ _ hz hL _ _
  exact contract H enc W base args ds gs before hval hW hz hL

theorem said : Rows.MsgFramesSaid :=
  OpenClaim.holds_of_cond 4 Tryz.f4 rfl rfl rfl rfl rfl rfl rfl ⟨rfl, rfl, rfl, rfl, rfl⟩ rfl rfl rfl rfl rfl (by kernel_rfl) Tryz.func4 (by kernel_rfl)
    (of_decide_eq_true (by kernel_rfl)) (by unfold Func.isWrapper; first | (rw [if_pos (by decide +kernel)]; kernel_rfl) | (rw [if_neg (by decide +kernel)]; exact ⟨rfl, rfl⟩))
    (fun os started H enc _ F => by rw [OpenClaim.pre_eq_preRow]; exact lifted os started H enc F)

/-- No parameter wants a stand-in; the program's own looks are as the card says. -/
theorem plain (f : FuncId) (fn : Func) (hf : Tryz.pinned.checked.prog.funcNamed "tollbar/tollbarlaw11.MsgFrames" = some f) (hfn : Tryz.pinned.checked.prog.funcs[f]? = some fn) :
    true = Tryz.pinned.checked.prog.looks [] ∧ ∀ (j : Nat) t, fn.params[j]? = some t → Tryz.pinned.checked.prog.wantsStandIn t = false := by
  obtain rfl : f = 4 := Option.some.inj ((show Tryz.prog.funcNamed "tollbar/tollbarlaw11.MsgFrames" = some 4 by kernel_rfl).symm.trans hf) |>.symm
  obtain rfl : fn = Tryz.f4 := (Option.some.inj (Tryz.func4.symm.trans hfn)).symm
  refine ⟨by kernel_rfl, fun j t ht => ?_⟩
  rw [Tryz.params4] at ht
  have hm := Array.mem_of_getElem? ht
  simp at hm
  rcases hm with rfl | rfl
  · exact (show Tryz.prog.wantsStandIn 25 = false by kernel_rfl)
  · exact (show Tryz.prog.wantsStandIn 22 = false by kernel_rfl)

/-- THE CARD. -/
theorem card : Rows.MsgFramesCardSaid :=
  Claim7.holds_tied_plain_at .later [] _ _ _ _ said (fun _ h => by cases h) (by kernel_rfl) (fun _ h => by cases h) msgFrames_row_tie rfl ⟨rfl, rfl⟩ (by kernel_rfl) rfl plain (by kernel_rfl)
#print axioms card
end Go.Proofs.YtbgockggbpmhnaaGreatDoor.msgFrames
