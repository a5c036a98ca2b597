/-
  THE LAW 'MsgSeals' (tollbarlaw11): for every message it answers true and leaves what came in as it was: the given row, and the card that ties the row's listed variables to the program's text.
  Conditions: the given row's own, no other.
-/
import Derived.Test.YtbgockggbpmhnaaGreatDoorCards
import Derived.Test.YtbgockggbpmhnaaGreatDoorTie
import Derived.Test.YtbgockggbpmhnaaGreatDoorMsgW
import Derived.WalkKit
import Derived.ProofKit
import Derived.OpenShut
import Derived.ChangeOld
import Derived.Below
import Derived.Carry
import Derived.Deep.DeepHandedRow
import Derived.SevenTiedAt
namespace Go.Proofs.YtbgockggbpmhnaaGreatDoor
open Go Go.RowKit

set_option maxRecDepth 100000 in
set_option maxHeartbeats 8000000 in
theorem msgSeals_any (x : RM) (w : World) (hE : Env w) (hf : x.Fit w) (hd : x.dn ≤ roomB) (hb : ∀ y ∈ x.es, y.n ≤ roomB) :
    Calls Tryz.prog 8 #[x.val] w fun e w' => e = .returned (.bool true) ∧ Below w.heap.size w w' := by
  have HL := Lib.hid (fun (V : World) (b : Below w.heap.size w V) => longMsg_any x V (hf.below b) hb)
  have HSu := Lib.hid (fun (V : World) (b : Below w.heap.size w V) => sure_any V (hE.below b))
  have hshort : x.long = false → (PK.encM x.msg).length + 1000 ≤ roomB ∧ x.en ≤ 1000 := fun h => short_room hf h
  have HG := Lib.hid (fun (V : World) (b : Below w.heap.size w V) (hn : x.en ≤ 1000) => giveMsg_any x V (hf.below b) hn hd hb)
  have HE2 := Lib.hid (fun (V : World) (b : Below w.heap.size w V) (hr : (PK.encM x.msg).length + 1000 ≤ roomB) => rencM_any x V (hf.below b) hr)
  have HSe : Hid (∀ (V : World) (y : RM), Below w.heap.size w V → y.Fit V → y.msg = x.msg → (PK.encM x.msg).length + 1000 ≤ roomB → Calls Tryz.prog 22 #[y.val] V fun e w' => RW V w' e (PK.sealM x.msg)) := fun V y b hy hm hr => by
    rw [← hm] at hr ⊢
    exact mseal_any y V (hE.below b) hy hr
  have HRs : Hid (∀ (V : World) (a : Option Addr) (n c : Nat), (PK.encM x.msg).length = n → IsB V (.slice a n c) (PK.encM x.msg) → Calls Tryz.prog 19 #[.int .u8 109, .slice a n c] V fun e w' => (∃ a n c r, e = .returned (.tuple #[.slice a n c, r]) ∧ IsB w' (.slice a n c) (PK.sealM x.msg)) ∧ Below V.heap.size V w') := fun V a n c hn hi =>
    (rseal_any a n c (PK.encM x.msg) V hn hi).mono fun e w' ⟨h, b⟩ => by
      rcases h with ⟨hlt, rfl⟩ | ⟨hlt, a', n', c', rfl, hh⟩
      · exact ⟨⟨none, 0, 0, _, rfl, by unfold PK.sealM; rw [if_pos hlt]; exact IsB.nil _⟩, b⟩
      · exact ⟨⟨a', n', c', _, rfl, by unfold PK.sealM; rw [if_neg hlt]; exact hh.out.2.1.isB⟩, b⟩
  have HSh := Lib.hid hshort
  generalize x.long = LG at *
  obtain ⟨kd, fr, to, tm, ix, lt, cm, ro, ok, off, da, dn, dc, d, ea, en, ec, es⟩ := x
  obtain ⟨msg, hmsg⟩ : ∃ m, m = RM.msg ⟨kd, fr, to, tm, ix, lt, cm, ro, ok, off, da, dn, dc, d, ea, en, ec, es⟩ := ⟨_, rfl⟩
  rw [← hmsg] at HG HE2 HSe HRs HSh
  simp only [RM.val] at HL HG HE2 ⊢
  clear hE hf hd hb hshort hmsg
  obtain ⟨Wa, hWa⟩ : ∃ W, W = w.alloc (.cells #[.int .i64 kd, .int .i64 fr, .int .i64 to, .int .i64 tm, .int .i64 ix, .int .i64 lt, .int .i64 cm, .int .i64 ro, .bool ok, .int .i64 off, .slice da dn dc, .slice ea en ec] 25) := ⟨_, rfl⟩
  have gA : Hid (Wa.heap[w.heap.size]? = some (.cells #[.int .i64 kd, .int .i64 fr, .int .i64 to, .int .i64 tm, .int .i64 ix, .int .i64 lt, .int .i64 cm, .int .i64 ro, .bool ok, .int .i64 off, .slice da dn dc, .slice ea en ec] 25)) := Lib.hid (by rw [hWa]; exact heap_alloc_new _ _)
  have hBa : Hid (Below w.heap.size w Wa) := Lib.hid (by rw [hWa]; exact (Below.refl _ _).alloc (Nat.le_refl _) _)
  have HL1 := Lib.hid (HL.out Wa hBa.out)
  obtain ⟨⟨p0, p1, p2, p3, p4, p5, p6, p7, p8, p9, pa, pb⟩, _⟩ := cells12 gA.out
  cases LG with
  | true =>
    clear HL HG HE2 HSe HRs HSh
    go_enter Tryz.func8, Tryz.ntmps8
    go_wp2_with fail
    rw [← hWa]
    clear hWa
    refine HL1.out.mono ?_
    rintro e w1 ⟨rfl, b1⟩
    have B1 : Hid (Below w.heap.size w w1) := hBa.out.trans (b1.mono hBa.out.size)
    have HS1 := Lib.hid (HSu.out w1 B1.out)
    clear HL1 b1 HSu p0 p1 p2 p3 p4 p5 p6 p7 p8 p9 pa pb
    go_wp2_with fail
    refine HS1.out.mono ?_
    rintro e w2 ⟨rfl, b2⟩
    have B2 : Hid (Below w.heap.size w w2) := B1.out.trans (b2.mono B1.out.size)
    clear HS1 b2
    go_wp2
    go_ret
    exact ⟨rfl, B2.out⟩
  | false =>
    obtain ⟨hr, hen⟩ := HSh.out rfl
    have HRm := Lib.hid hr
    have HEn := Lib.hid hen
    clear HL HSh hr hen
    go_enter Tryz.func8, Tryz.ntmps8
    go_wp2_with fail
    rw [← hWa]
    clear hWa
    refine HL1.out.mono ?_
    rintro e w1 ⟨rfl, b1⟩
    have G1 := Lib.hid ((b1.block _ (Array.getElem?_eq_some_iff.1 gA.out).1).trans gA.out)
    have B1 : Hid (Below w.heap.size w w1) := hBa.out.trans (b1.mono hBa.out.size)
    have HE3 := Lib.hid (HE2.out w1 B1.out HRm.out)
    clear HL1 b1 HE2 gA p0 p1 p2 p3 p4 p5 p6 p7 p8 p9 pa pb
    obtain ⟨⟨p0, p1, p2, p3, p4, p5, p6, p7, p8, p9, pa, pb⟩, _⟩ := cells12 G1.out
    go_wp2_with fail
    refine HE3.out.mono ?_
    rintro e w2 ⟨⟨a2, n2, c2, rfl, hn2, o2, _⟩, b2⟩
    have G2 := Lib.hid ((b2.block _ (Array.getElem?_eq_some_iff.1 G1.out).1).trans G1.out)
    have B2 : Hid (Below w.heap.size w w2) := B1.out.trans (b2.mono B1.out.size)
    have HR1 := Lib.hid (HRs.out w2 a2 n2 c2 hn2 o2.isB)
    clear HE3 b2 o2 hn2 HRs G1 p0 p1 p2 p3 p4 p5 p6 p7 p8 p9 pa pb
    go_wp2_with fail
    refine HR1.out.mono ?_
    rintro e Wb ⟨⟨a3, n3, c3, r3, rfl, i3⟩, b3⟩
    have gb := (b3.block _ (Array.getElem?_eq_some_iff.1 G2.out).1).trans G2.out
    have hlt : w.heap.size < Wb.heap.size := (Array.getElem?_eq_some_iff.1 gb).1
    have B3 : Hid (Below w.heap.size w Wb) := B2.out.trans (b3.mono B2.out.size)
    obtain ⟨⟨p0, p1, p2, p3, p4, p5, p6, p7, p8, p9, pa, pb⟩, _⟩ := cells12 gb
    have cont : Hid (∀ V, Below Wb.heap.size Wb V → (Hid (Below Wb.heap.size Wb V) ∧ V.cell? ⟨w.heap.size, 0, none⟩ = some (.int .i64 kd) ∧ V.cell? ⟨w.heap.size, 1, none⟩ = some (.int .i64 fr) ∧ V.cell? ⟨w.heap.size, 2, none⟩ = some (.int .i64 to) ∧ V.cell? ⟨w.heap.size, 3, none⟩ = some (.int .i64 tm) ∧ V.cell? ⟨w.heap.size, 4, none⟩ = some (.int .i64 ix) ∧ V.cell? ⟨w.heap.size, 5, none⟩ = some (.int .i64 lt) ∧ V.cell? ⟨w.heap.size, 6, none⟩ = some (.int .i64 cm) ∧ V.cell? ⟨w.heap.size, 7, none⟩ = some (.int .i64 ro) ∧ V.cell? ⟨w.heap.size, 8, none⟩ = some (.bool ok) ∧ V.cell? ⟨w.heap.size, 9, none⟩ = some (.int .i64 off) ∧ V.cell? ⟨w.heap.size, 10, none⟩ = some (.slice da dn dc) ∧ V.cell? ⟨w.heap.size, 11, none⟩ = some (.slice ea en ec))) := fun V h => by
      have hk := h.block w.heap.size hlt
      exact ⟨Lib.hid h, (World.cell?_of_block hk).trans p0, (World.cell?_of_block hk).trans p1, (World.cell?_of_block hk).trans p2, (World.cell?_of_block hk).trans p3, (World.cell?_of_block hk).trans p4, (World.cell?_of_block hk).trans p5, (World.cell?_of_block hk).trans p6, (World.cell?_of_block hk).trans p7, (World.cell?_of_block hk).trans p8, (World.cell?_of_block hk).trans p9, (World.cell?_of_block hk).trans pa, (World.cell?_of_block hk).trans pb⟩
    have fin : Hid (∀ V, (Hid (Below Wb.heap.size Wb V) ∧ V.cell? ⟨w.heap.size, 0, none⟩ = some (.int .i64 kd) ∧ V.cell? ⟨w.heap.size, 1, none⟩ = some (.int .i64 fr) ∧ V.cell? ⟨w.heap.size, 2, none⟩ = some (.int .i64 to) ∧ V.cell? ⟨w.heap.size, 3, none⟩ = some (.int .i64 tm) ∧ V.cell? ⟨w.heap.size, 4, none⟩ = some (.int .i64 ix) ∧ V.cell? ⟨w.heap.size, 5, none⟩ = some (.int .i64 lt) ∧ V.cell? ⟨w.heap.size, 6, none⟩ = some (.int .i64 cm) ∧ V.cell? ⟨w.heap.size, 7, none⟩ = some (.int .i64 ro) ∧ V.cell? ⟨w.heap.size, 8, none⟩ = some (.bool ok) ∧ V.cell? ⟨w.heap.size, 9, none⟩ = some (.int .i64 off) ∧ V.cell? ⟨w.heap.size, 10, none⟩ = some (.slice da dn dc) ∧ V.cell? ⟨w.heap.size, 11, none⟩ = some (.slice ea en ec)) → Below w.heap.size w V) := fun V h => B3.out.trans (h.1.out.mono B3.out.size)
    have step : Hid (∀ V V', (Hid (Below Wb.heap.size Wb V) ∧ V.cell? ⟨w.heap.size, 0, none⟩ = some (.int .i64 kd) ∧ V.cell? ⟨w.heap.size, 1, none⟩ = some (.int .i64 fr) ∧ V.cell? ⟨w.heap.size, 2, none⟩ = some (.int .i64 to) ∧ V.cell? ⟨w.heap.size, 3, none⟩ = some (.int .i64 tm) ∧ V.cell? ⟨w.heap.size, 4, none⟩ = some (.int .i64 ix) ∧ V.cell? ⟨w.heap.size, 5, none⟩ = some (.int .i64 lt) ∧ V.cell? ⟨w.heap.size, 6, none⟩ = some (.int .i64 cm) ∧ V.cell? ⟨w.heap.size, 7, none⟩ = some (.int .i64 ro) ∧ V.cell? ⟨w.heap.size, 8, none⟩ = some (.bool ok) ∧ V.cell? ⟨w.heap.size, 9, none⟩ = some (.int .i64 off) ∧ V.cell? ⟨w.heap.size, 10, none⟩ = some (.slice da dn dc) ∧ V.cell? ⟨w.heap.size, 11, none⟩ = some (.slice ea en ec)) → Below V.heap.size V V' → (Hid (Below Wb.heap.size Wb V') ∧ V'.cell? ⟨w.heap.size, 0, none⟩ = some (.int .i64 kd) ∧ V'.cell? ⟨w.heap.size, 1, none⟩ = some (.int .i64 fr) ∧ V'.cell? ⟨w.heap.size, 2, none⟩ = some (.int .i64 to) ∧ V'.cell? ⟨w.heap.size, 3, none⟩ = some (.int .i64 tm) ∧ V'.cell? ⟨w.heap.size, 4, none⟩ = some (.int .i64 ix) ∧ V'.cell? ⟨w.heap.size, 5, none⟩ = some (.int .i64 lt) ∧ V'.cell? ⟨w.heap.size, 6, none⟩ = some (.int .i64 cm) ∧ V'.cell? ⟨w.heap.size, 7, none⟩ = some (.int .i64 ro) ∧ V'.cell? ⟨w.heap.size, 8, none⟩ = some (.bool ok) ∧ V'.cell? ⟨w.heap.size, 9, none⟩ = some (.int .i64 off) ∧ V'.cell? ⟨w.heap.size, 10, none⟩ = some (.slice da dn dc) ∧ V'.cell? ⟨w.heap.size, 11, none⟩ = some (.slice ea en ec))) := fun V V' h b => cont.out V' (h.1.out.trans (b.mono h.1.out.size))
    have econv : ∀ V : World, Hid (Below Wb.heap.size Wb V) → (convert 22 9 (.slice a3 n3 c3)).run Tryz.prog V = .ok (.string (str (PK.sealM msg))) V := fun V h => run_toStr T22 U9 (i3.below h.out)
    have C14 : Hid (∀ V, (Hid (Below Wb.heap.size Wb V) ∧ V.cell? ⟨w.heap.size, 0, none⟩ = some (.int .i64 kd) ∧ V.cell? ⟨w.heap.size, 1, none⟩ = some (.int .i64 fr) ∧ V.cell? ⟨w.heap.size, 2, none⟩ = some (.int .i64 to) ∧ V.cell? ⟨w.heap.size, 3, none⟩ = some (.int .i64 tm) ∧ V.cell? ⟨w.heap.size, 4, none⟩ = some (.int .i64 ix) ∧ V.cell? ⟨w.heap.size, 5, none⟩ = some (.int .i64 lt) ∧ V.cell? ⟨w.heap.size, 6, none⟩ = some (.int .i64 cm) ∧ V.cell? ⟨w.heap.size, 7, none⟩ = some (.int .i64 ro) ∧ V.cell? ⟨w.heap.size, 8, none⟩ = some (.bool ok) ∧ V.cell? ⟨w.heap.size, 9, none⟩ = some (.int .i64 off) ∧ V.cell? ⟨w.heap.size, 10, none⟩ = some (.slice da dn dc) ∧ V.cell? ⟨w.heap.size, 11, none⟩ = some (.slice ea en ec)) → Calls Tryz.prog 14 #[.agg #[.int .i64 kd, .int .i64 fr, .int .i64 to, .int .i64 tm, .int .i64 ix, .int .i64 lt, .int .i64 cm, .int .i64 ro, .bool ok, .int .i64 off, .slice da dn dc, .slice ea en ec]] V fun e w' => (∃ y : RM, e = .returned y.val ∧ Hid (y.Fit w' ∧ y.msg = msg)) ∧ (Hid (Below Wb.heap.size Wb w') ∧ w'.cell? ⟨w.heap.size, 0, none⟩ = some (.int .i64 kd) ∧ w'.cell? ⟨w.heap.size, 1, none⟩ = some (.int .i64 fr) ∧ w'.cell? ⟨w.heap.size, 2, none⟩ = some (.int .i64 to) ∧ w'.cell? ⟨w.heap.size, 3, none⟩ = some (.int .i64 tm) ∧ w'.cell? ⟨w.heap.size, 4, none⟩ = some (.int .i64 ix) ∧ w'.cell? ⟨w.heap.size, 5, none⟩ = some (.int .i64 lt) ∧ w'.cell? ⟨w.heap.size, 6, none⟩ = some (.int .i64 cm) ∧ w'.cell? ⟨w.heap.size, 7, none⟩ = some (.int .i64 ro) ∧ w'.cell? ⟨w.heap.size, 8, none⟩ = some (.bool ok) ∧ w'.cell? ⟨w.heap.size, 9, none⟩ = some (.int .i64 off) ∧ w'.cell? ⟨w.heap.size, 10, none⟩ = some (.slice da dn dc) ∧ w'.cell? ⟨w.heap.size, 11, none⟩ = some (.slice ea en ec))) := fun V h => (HG.out V (fin.out V h) HEn.out).mono fun e w' ⟨⟨y, e1, e2, e3⟩, e4⟩ => ⟨⟨y, e1, Lib.hid ⟨e2, e3⟩⟩, step.out V w' h e4⟩
    have C22 : Hid (∀ V (y : RM), (Hid (Below Wb.heap.size Wb V) ∧ V.cell? ⟨w.heap.size, 0, none⟩ = some (.int .i64 kd) ∧ V.cell? ⟨w.heap.size, 1, none⟩ = some (.int .i64 fr) ∧ V.cell? ⟨w.heap.size, 2, none⟩ = some (.int .i64 to) ∧ V.cell? ⟨w.heap.size, 3, none⟩ = some (.int .i64 tm) ∧ V.cell? ⟨w.heap.size, 4, none⟩ = some (.int .i64 ix) ∧ V.cell? ⟨w.heap.size, 5, none⟩ = some (.int .i64 lt) ∧ V.cell? ⟨w.heap.size, 6, none⟩ = some (.int .i64 cm) ∧ V.cell? ⟨w.heap.size, 7, none⟩ = some (.int .i64 ro) ∧ V.cell? ⟨w.heap.size, 8, none⟩ = some (.bool ok) ∧ V.cell? ⟨w.heap.size, 9, none⟩ = some (.int .i64 off) ∧ V.cell? ⟨w.heap.size, 10, none⟩ = some (.slice da dn dc) ∧ V.cell? ⟨w.heap.size, 11, none⟩ = some (.slice ea en ec)) → Hid (y.Fit V ∧ y.msg = msg) → Calls Tryz.prog 22 #[y.val] V fun e w' => (∃ a n c, e = .returned (.slice a n c) ∧ (convert 22 9 (.slice a n c)).run Tryz.prog w' = .ok (.string (str (PK.sealM msg))) w') ∧ (Hid (Below Wb.heap.size Wb w') ∧ w'.cell? ⟨w.heap.size, 0, none⟩ = some (.int .i64 kd) ∧ w'.cell? ⟨w.heap.size, 1, none⟩ = some (.int .i64 fr) ∧ w'.cell? ⟨w.heap.size, 2, none⟩ = some (.int .i64 to) ∧ w'.cell? ⟨w.heap.size, 3, none⟩ = some (.int .i64 tm) ∧ w'.cell? ⟨w.heap.size, 4, none⟩ = some (.int .i64 ix) ∧ w'.cell? ⟨w.heap.size, 5, none⟩ = some (.int .i64 lt) ∧ w'.cell? ⟨w.heap.size, 6, none⟩ = some (.int .i64 cm) ∧ w'.cell? ⟨w.heap.size, 7, none⟩ = some (.int .i64 ro) ∧ w'.cell? ⟨w.heap.size, 8, none⟩ = some (.bool ok) ∧ w'.cell? ⟨w.heap.size, 9, none⟩ = some (.int .i64 off) ∧ w'.cell? ⟨w.heap.size, 10, none⟩ = some (.slice da dn dc) ∧ w'.cell? ⟨w.heap.size, 11, none⟩ = some (.slice ea en ec))) := fun V y h hy =>
      (HSe.out V y (fin.out V h) hy.out.1 hy.out.2 HRm.out).mono fun e w' ⟨⟨a, n, c, e1, _, e2, _⟩, e3⟩ => ⟨⟨a, n, c, e1, run_toStr T22 U9 e2.isB⟩, step.out V w' h e3⟩
    have C10 : Hid (∀ V, (Hid (Below Wb.heap.size Wb V) ∧ V.cell? ⟨w.heap.size, 0, none⟩ = some (.int .i64 kd) ∧ V.cell? ⟨w.heap.size, 1, none⟩ = some (.int .i64 fr) ∧ V.cell? ⟨w.heap.size, 2, none⟩ = some (.int .i64 to) ∧ V.cell? ⟨w.heap.size, 3, none⟩ = some (.int .i64 tm) ∧ V.cell? ⟨w.heap.size, 4, none⟩ = some (.int .i64 ix) ∧ V.cell? ⟨w.heap.size, 5, none⟩ = some (.int .i64 lt) ∧ V.cell? ⟨w.heap.size, 6, none⟩ = some (.int .i64 cm) ∧ V.cell? ⟨w.heap.size, 7, none⟩ = some (.int .i64 ro) ∧ V.cell? ⟨w.heap.size, 8, none⟩ = some (.bool ok) ∧ V.cell? ⟨w.heap.size, 9, none⟩ = some (.int .i64 off) ∧ V.cell? ⟨w.heap.size, 10, none⟩ = some (.slice da dn dc) ∧ V.cell? ⟨w.heap.size, 11, none⟩ = some (.slice ea en ec)) → Calls Tryz.prog 10 #[] V fun e w' => e = .returned (.bool true) ∧ (Hid (Below Wb.heap.size Wb w') ∧ w'.cell? ⟨w.heap.size, 0, none⟩ = some (.int .i64 kd) ∧ w'.cell? ⟨w.heap.size, 1, none⟩ = some (.int .i64 fr) ∧ w'.cell? ⟨w.heap.size, 2, none⟩ = some (.int .i64 to) ∧ w'.cell? ⟨w.heap.size, 3, none⟩ = some (.int .i64 tm) ∧ w'.cell? ⟨w.heap.size, 4, none⟩ = some (.int .i64 ix) ∧ w'.cell? ⟨w.heap.size, 5, none⟩ = some (.int .i64 lt) ∧ w'.cell? ⟨w.heap.size, 6, none⟩ = some (.int .i64 cm) ∧ w'.cell? ⟨w.heap.size, 7, none⟩ = some (.int .i64 ro) ∧ w'.cell? ⟨w.heap.size, 8, none⟩ = some (.bool ok) ∧ w'.cell? ⟨w.heap.size, 9, none⟩ = some (.int .i64 off) ∧ w'.cell? ⟨w.heap.size, 10, none⟩ = some (.slice da dn dc) ∧ w'.cell? ⟨w.heap.size, 11, none⟩ = some (.slice ea en ec))) := fun V h => (HSu.out V (fin.out V h)).mono fun e w' ⟨e1, e2⟩ => ⟨e1, step.out V w' h e2⟩
    have S0 := cont.out Wb.drew (Below.refl _ _).drew
    generalize str (PK.sealM msg) = sT at *
    clear HG HSe HSu HR1 b3 G2 gb hlt cont B1 B2 B3 hBa HRm HEn p0 p1 p2 p3 p4 p5 p6 p7 p8 p9 pa pb
    go_wp2_with fail
    refine wp_region_noPanic ?_
    refine wp_region_held_drew (S := fun V => (Hid (Below Wb.heap.size Wb V) ∧ V.cell? ⟨w.heap.size, 0, none⟩ = some (.int .i64 kd) ∧ V.cell? ⟨w.heap.size, 1, none⟩ = some (.int .i64 fr) ∧ V.cell? ⟨w.heap.size, 2, none⟩ = some (.int .i64 to) ∧ V.cell? ⟨w.heap.size, 3, none⟩ = some (.int .i64 tm) ∧ V.cell? ⟨w.heap.size, 4, none⟩ = some (.int .i64 ix) ∧ V.cell? ⟨w.heap.size, 5, none⟩ = some (.int .i64 lt) ∧ V.cell? ⟨w.heap.size, 6, none⟩ = some (.int .i64 cm) ∧ V.cell? ⟨w.heap.size, 7, none⟩ = some (.int .i64 ro) ∧ V.cell? ⟨w.heap.size, 8, none⟩ = some (.bool ok) ∧ V.cell? ⟨w.heap.size, 9, none⟩ = some (.int .i64 off) ∧ V.cell? ⟨w.heap.size, 10, none⟩ = some (.slice da dn dc) ∧ V.cell? ⟨w.heap.size, 11, none⟩ = some (.slice ea en ec))) (by kernel_rfl) S0 (fun hHeld => ?_)
    refine wpAnyH_take (i := 0) (v := ?hv0) (List.getElem?_toArray.trans rfl) (by kernel_rfl) (by kernel_rfl) (by kernel_rfl) (fun _ _ _ h => h) (Or.inl ⟨by rfl, ?hy0⟩) (by assumption) ?hr0
    case hy0 => (intro wt hSw; (try dsimp only at hSw); go_simp; try (with_reducible rfl))
    try simp only [Act.put, List.setIfInBounds_toArray, List.set_cons_zero, List.set_cons_succ]
    refine wpAnyH_take (i := 4) (v := ?hv4) (List.getElem?_toArray.trans rfl) (by kernel_rfl) (by kernel_rfl) (by kernel_rfl) (fun _ _ _ h => h) (Or.inl ⟨by rfl, ?hy4⟩) (by assumption) ?hr4
    case hy4 => (intro wt hSw; (try dsimp only at hSw); go_simp; try (with_reducible rfl))
    try simp only [Act.put, List.setIfInBounds_toArray, List.set_cons_zero, List.set_cons_succ]
    refine wpAnyH_take (i := 5) (v := ?hv5) (List.getElem?_toArray.trans rfl) (by kernel_rfl) (by kernel_rfl) (by kernel_rfl) (fun _ _ _ h => h) (Or.inl ⟨by rfl, ?hy5⟩) (by assumption) ?hr5
    case hy5 => (intro wt hSw; (try dsimp only at hSw); go_simp; try (with_reducible rfl))
    try simp only [Act.put, List.setIfInBounds_toArray, List.set_cons_zero, List.set_cons_succ]
    refine wpAnyH_ready (rs := [1]) (by kernel_rfl) (by simp) ?_
    refine AllReadyH.cons (List.getElem?_toArray.trans rfl) (fun K hK => ?_) AllReadyH.nil
    go_simp
    go_at_call 14
    refine (C14.out _ ?_).mono ?_
    assumption
    rintro e v1 ⟨⟨y, rfl, hy⟩, k1⟩
    clear C14
    try (go_wp2_with fail)
    refine hK.out _ _ ?_ (fun hHeld => ?_)
    · (try dsimp only)
      assumption
    clear hK K
    try simp only [Act.put, List.setIfInBounds_toArray, List.set_cons_zero, List.set_cons_succ]
    refine wpAnyH_ready (rs := [2]) (by kernel_rfl) (by simp) ?_
    refine AllReadyH.cons (List.getElem?_toArray.trans rfl) (fun K hK => ?_) AllReadyH.nil
    go_simp
    go_at_call 22
    refine (C22.out _ _ ?_ hy).mono ?_
    assumption
    rintro e v2 ⟨⟨a5, n5, c5, rfl, hcv⟩, k2⟩
    clear C22 hy k1
    try (go_wp2_with fail)
    refine hK.out _ _ ?_ (fun hHeld => ?_)
    · (try dsimp only)
      assumption
    clear hK K
    try simp only [Act.put, List.setIfInBounds_toArray, List.set_cons_zero, List.set_cons_succ]
    refine wpAnyH_ready (rs := [3]) (by kernel_rfl) (by simp) ?_
    refine AllReadyH.cons (List.getElem?_toArray.trans rfl) (fun K hK => ?_) AllReadyH.nil
    go_simp
    try (go_wp2_with fail)
    refine hK.out _ _ ?_ (fun hHeld => ?_)
    · (try dsimp only)
      assumption
    clear hK K
    try simp only [Act.put, List.setIfInBounds_toArray, List.set_cons_zero, List.set_cons_succ]
    refine wpAnyH_take (i := 6) (v := ?hv6) (List.getElem?_toArray.trans rfl) (by kernel_rfl) (by kernel_rfl) (by kernel_rfl) (fun _ _ _ h => h) (Or.inl ⟨by rfl, ?hy6⟩) (by assumption) ?hr6
    case hy6 => (intro wt hSw; (try dsimp only at hSw); go_simp; try (with_reducible rfl))
    try simp only [Act.put, List.setIfInBounds_toArray, List.set_cons_zero, List.set_cons_succ]
    refine wpAnyH_take (i := 7) (v := ?hv7) (List.getElem?_toArray.trans rfl) (by kernel_rfl) (by kernel_rfl) (by kernel_rfl) (fun _ _ _ h => h) (Or.inl ⟨by rfl, ?hy7⟩) (by assumption) ?hr7
    case hy7 => (intro wt hSw; (try dsimp only at hSw); go_simp; try (with_reducible rfl))
    try simp only [Act.put, List.setIfInBounds_toArray, List.set_cons_zero, List.set_cons_succ]
    refine wpAnyH_ready (rs := [8]) (by kernel_rfl) (by simp) ?_
    refine AllReadyH.cons (List.getElem?_toArray.trans rfl) (fun K hK => ?_) AllReadyH.nil
    go_simp
    go_at_call 10
    refine (C10.out _ ?_).mono ?_
    assumption
    rintro e v3 ⟨rfl, k3⟩
    clear C10
    try (go_wp2_with fail)
    refine hK.out _ _ ?_ (fun hHeld => ?_)
    · (try dsimp only)
      assumption
    clear hK K
    try simp only [Act.put, List.setIfInBounds_toArray, List.set_cons_zero, List.set_cons_succ]
    refine wpAnyH_take (i := 9) (v := ?hv9) (List.getElem?_toArray.trans rfl) (by kernel_rfl) (by kernel_rfl) (by kernel_rfl) (fun _ _ _ h => h) (Or.inl ⟨by rfl, ?hy9⟩) (by assumption) ?hr9
    case hy9 => (intro wt hSw; (try dsimp only at hSw); go_simp; try (with_reducible rfl))
    try simp only [Act.put, List.setIfInBounds_toArray, List.set_cons_zero, List.set_cons_succ]
    refine wpAnyH_take (i := 10) (v := ?hv10) (List.getElem?_toArray.trans rfl) (by kernel_rfl) (by kernel_rfl) (by kernel_rfl) (fun _ _ _ h => h) (Or.inl ⟨by rfl, ?hy10⟩) (by assumption) ?hr10
    case hy10 => (intro wt hSw; (try dsimp only at hSw); go_simp; try (with_reducible rfl))
    try simp only [Act.put, List.setIfInBounds_toArray, List.set_cons_zero, List.set_cons_succ]
    refine wpAnyH_done (by kernel_rfl) ?_ _
    refine NoPanic.normal ?_
    go_wp2
    go_ret
    exact ⟨rfl, fin.out _ (by assumption)⟩
end Go.Proofs.YtbgockggbpmhnaaGreatDoor
namespace Go.Proofs.YtbgockggbpmhnaaGreatDoor.msgSeals
open Go Go.ChangeShapes Go.WideShapes Go.ChangeAt Go.RowKit

set_option maxRecDepth 100000 in
theorem contract (H : Type) (enc : TypeId × Value → H) (W : World) (base : Nat) (args : Array Value) (ds gs : List (DataW H)) (before : List MemPlace)
    (hval : ∀ (j : Nat) t v, Tryz.f8.params[j]? = some t → args[j]? = some v → Value.okWide Tryz.prog W .any base t v)
    (hW : DataW.Whole enc Tryz.prog Tryz.f8.params.toList Rows.msgSealsSpec.vars false W args.toList ds gs before)
    (hz : (DataW.weightsEach Tryz.prog (Tryz.f8.params.toList ++ (OpenSpec.ofChange Rows.msgSealsSpec).bare.plain.varTypes Tryz.prog) (ds ++ gs)).all (· ≤ reachBytes) = true) (hL : laidMetH Tryz.prog Rows.msgSealsRow.laid W) :
    Calls Tryz.prog 8 args W fun e W' => ∃ v, e = .returned v ∧ Rows.msgSealsSpec.post enc Tryz.prog Tryz.f8 false true false false W args v W' := by
  have hW' := hW
  obtain ⟨p, q, hA0, hV, rfl, hfz, hnd⟩ := hW
  have hA : DataW.TrodAll enc Tryz.prog W 0 (fun _ => true) true Tryz.f8.params.toList args.toList ds p := hA0
  rw [Tryz.params8] at hA hval hz
  obtain ⟨v0, vs0, d0, ds0, p0, q0, hargs, rfl, rfl, h0, r0⟩ := trodAll_cons hA
  obtain ⟨rfl, rfl, rfl⟩ := trodAll_nil r0
  obtain rfl : args = #[v0] := by cases args; simp_all
  obtain ⟨rfl, rfl⟩ := trodVars_none hV
  have k0 := h0
  have lt0 : ∀ x ∈ p0, x.block < W.heap.size := by obtain ⟨m, hm⟩ := k0; exact DataW.trod_lt m _ _ _ hm
  obtain ⟨x, rfl, hfit, hwx⟩ := open_msgW (hval 0 25 v0 rfl rfl) h0
  obtain ⟨hdn, hes⟩ := hwx reachBytes (List.all_eq_true.2 fun x hx => List.all_eq_true.1 hz _ (DataW.weights_mem_each (j := 0) rfl rfl x hx))
  have hR : reachBytes ≤ roomB := by decide
  have hd : x.dn ≤ roomB := Nat.le_trans hdn hR
  have hb : ∀ y ∈ x.es, y.n ≤ roomB := fun y hy => Nat.le_trans (hes y hy) hR
  clear hA0
  refine (msgSeals_any x W (env_of_laid hL) hfit hd hb).mono fun e W' ⟨he, bel⟩ => ?_
  subst he
  exact ⟨_, rfl, _, _, _, [], _, [], hW', trodAll_mk1 (shut_bool Tryz.underlying4 _), (trodAll_cons_mk (Below.trod laidOut (by kernel_rfl) (of_decide_eq_true (by kernel_rfl)) k0 bel lt0) trodAll_mk0), rfl, bel.frame _, fun h => by cases h⟩

theorem reads (os : Os) {H : Type} (enc : TypeId × Value → H) : (DataW.whole enc Tryz.prog ((laidWorld os).forCall (fun _ _ => 0) ⟨#[], #[.agg #[.int .i64 0, .int .i64 0, .int .i64 0, .int .i64 0, .int .i64 0, .int .i64 0, .int .i64 0, .int .i64 0, .bool false, .int .i64 0, .slice none 0 0, .slice none 0 0]], []⟩).memory Tryz.f8.params.toList Rows.msgSealsSpec.vars false #[Value.agg #[.int .i64 0, .int .i64 0, .int .i64 0, .int .i64 0, .int .i64 0, .int .i64 0, .int .i64 0, .int .i64 0, .bool false, .int .i64 0, .slice none 0 0, .slice none 0 0]].toList 8).isSome = true := by
  kernel_rfl

set_option maxRecDepth 100000 in
theorem lifted (os : Os) (started : os.Started) (H : Type) (enc : TypeId × Value → H) (F : Stop.Interp) :
    ReturnsInHanded {} Tryz.checked os 8 .any ((OpenSpec.ofChange Rows.msgSealsSpec).preRow enc Tryz.prog Tryz.f8 Rows.msgSealsRow.domain false Rows.msgSealsRow.laid) (((OpenSpec.ofChange Rows.msgSealsSpec).at F).post enc Tryz.prog Tryz.f8 false true false false) := by
  obtain ⟨x, hx⟩ := Option.isSome_iff_exists.1 (reads os enc)
  refine returnsInHanded_of_row (C := Tryz.checked) (s := OpenSpec.ofChange Rows.msgSealsSpec) own started (by kernel_rfl) Tryz.func8
    (witness_row_at (enc := enc) (C := Tryz.checked) false (laidWorld os) #[.agg #[.int .i64 0, .int .i64 0, .int .i64 0, .int .i64 0, .int .i64 0, .int .i64 0, .int .i64 0, .int .i64 0, .bool false, .int .i64 0, .slice none 0 0, .slice none 0 0]] rfl (by kernel_rfl) (by kernel_rfl) (by kernel_rfl)
      (OpenSpec.preRow_of_cond 8 hx rfl (fun k hk => by cases hk) (by kernel_rfl) (laidWorld_met os _))) ?_
  intro W base args ds gs before hval hW _ _ hz hL _ _
  exact contract H enc W base args ds gs before hval hW hz hL

theorem said : Rows.MsgSealsSaid :=
  OpenClaim.holds_of_cond 8 Tryz.f8 rfl rfl rfl rfl rfl rfl rfl ⟨rfl, rfl, rfl, rfl, rfl⟩ rfl rfl rfl rfl rfl (by kernel_rfl) Tryz.func8 (by kernel_rfl)
    (of_decide_eq_true (by kernel_rfl)) (by unfold Func.isWrapper; first | (rw [if_pos (by decide +kernel)]; kernel_rfl) | (rw [if_neg (by decide +kernel)]; exact ⟨rfl, rfl⟩))
    (fun os started H enc _ F => by rw [OpenClaim.pre_eq_preRow]; exact lifted os started H enc F)

/-- No parameter wants a stand-in; the program's own looks are as the card says. -/
theorem plain (f : FuncId) (fn : Func) (hf : Tryz.pinned.checked.prog.funcNamed "tollbar/tollbarlaw11.MsgSeals" = some f) (hfn : Tryz.pinned.checked.prog.funcs[f]? = some fn) :
    true = Tryz.pinned.checked.prog.looks [] ∧ ∀ (j : Nat) t, fn.params[j]? = some t → Tryz.pinned.checked.prog.wantsStandIn t = false := by
  obtain rfl : f = 8 := Option.some.inj ((show Tryz.prog.funcNamed "tollbar/tollbarlaw11.MsgSeals" = some 8 by kernel_rfl).symm.trans hf) |>.symm
  obtain rfl : fn = Tryz.f8 := (Option.some.inj (Tryz.func8.symm.trans hfn)).symm
  refine ⟨by kernel_rfl, fun j t ht => ?_⟩
  rw [Tryz.params8] at ht
  obtain rfl : t = 25 := by simpa using Array.mem_of_getElem? ht
  exact (show Tryz.prog.wantsStandIn 25 = false by kernel_rfl)

/-- THE CARD. -/
theorem card : Rows.MsgSealsCardSaid :=
  Claim7.holds_tied_plain_at .later [] _ _ _ _ said (fun _ h => by cases h) (by kernel_rfl) (fun _ h => by cases h) msgSeals_row_tie rfl ⟨rfl, rfl⟩ (by kernel_rfl) rfl plain (by kernel_rfl)
#print axioms card
end Go.Proofs.YtbgockggbpmhnaaGreatDoor.msgSeals
