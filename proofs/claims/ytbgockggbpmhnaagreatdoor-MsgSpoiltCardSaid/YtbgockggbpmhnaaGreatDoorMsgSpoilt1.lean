/-
  THE LAW 'MsgSpoilt' (tollbarlaw11): for every message, every integer and every byte it answers true and leaves what came in as it was: the given row, and the card that ties the row's listed variables to the program's text.
  Conditions: the given row's own, no other.
-/
import Derived.Test.YtbgockggbpmhnaaGreatDoorCards
import Derived.Test.YtbgockggbpmhnaaGreatDoorTie
import Derived.Test.YtbgockggbpmhnaaGreatDoorMsgW
import Derived.WalkKit
import Derived.ProofKit
import Derived.OpenShut
import Derived.ChangeOld
import Derived.Below
import Derived.Carry
import Derived.Deep.DeepHandedRow
import Derived.SevenTiedAt
namespace Go.Proofs.YtbgockggbpmhnaaGreatDoor
open Go Go.RowKit

set_option maxRecDepth 100000 in
set_option maxHeartbeats 8000000 in
theorem msgSeals_any (x : RM) (w : World) (hE : Env w) (hf : x.Fit w) (hd : x.dn ≤ roomB) (hb : ∀ y ∈ x.es, y.n ≤ roomB) :
    Calls Tryz.prog 8 #[x.val] w fun e w' => e = .returned (.bool true) ∧ Below w.heap.size w w' := by
  have HL := Lib.hid (fun (V : World) (b : Below w.heap.size w V) => longMsg_any x V (hf.below b) hb)
  have HSu := Lib.hid (fun (V : World) (b : Below w.heap.size w V) => sure_any V (hE.below b))
  have hshort : x.long = false → (PK.encM x.msg).length + 1000 ≤ roomB ∧ x.en ≤ 1000 := fun h => short_room hf h
  have HG := Lib.hid (fun (V : World) (b : Below w.heap.size w V) (hn : x.en ≤ 1000) => giveMsg_any x V (hf.below b) hn hd hb)
  have HE2 := Lib.hid (fun (V : World) (b : Below w.heap.size w V) (hr : (PK.encM x.msg).length + 1000 ≤ roomB) => rencM_any x V (hf.below b) hr)
  have HSe : Hid (∀ (V : World) (y : RM), Below w.heap.size w V → y.Fit V → y.msg = x.msg → (PK.encM x.msg).length + 1000 ≤ roomB → Calls Tryz.prog 22 #[y.val] V fun e w' => RW V w' e (PK.sealM x.msg)) := fun V y b hy hm hr => by
    rw [← hm] at hr ⊢
    exact mseal_any y V (hE.below b) hy hr
  have HRs : Hid (∀ (V : World) (a : Option Addr) (n c : Nat), (PK.encM x.msg).length = n → IsB V (.slice a n c) (PK.encM x.msg) → Calls Tryz.prog 19 #[.int .u8 109, .slice a n c] V fun e w' => (∃ a n c r, e = .returned (.tuple #[.slice a n c, r]) ∧ IsB w' (.slice a n c) (PK.sealM x.msg)) ∧ Below V.heap.size V w') := fun V a n c hn hi =>
    (rseal_any a n c (PK.encM x.msg) V hn hi).mono fun e w' ⟨h, b⟩ => by
      rcases h with ⟨hlt, rfl⟩ | ⟨hlt, a', n', c', rfl, hh⟩
      · exact ⟨⟨none, 0, 0, _, rfl, by unfold PK.sealM; rw [if_pos hlt]; exact IsB.nil _⟩, b⟩
      · exact ⟨⟨a', n', c', _, rfl, by unfold PK.sealM; rw [if_neg hlt]; exact hh.out.2.1.isB⟩, b⟩
  have HSh := Lib.hid hshort
  generalize x.long = LG at *
  obtain ⟨kd, fr, to, tm, ix, lt, cm, ro, ok, off, da, dn, dc, d, ea, en, ec, es⟩ := x
  obtain ⟨msg, hmsg⟩ : ∃ m, m = RM.msg ⟨kd, fr, to, tm, ix, lt, cm, ro, ok, off, da, dn, dc, d, ea, en, ec, es⟩ := ⟨_, rfl⟩
  rw [← hmsg] at HG HE2 HSe HRs HSh
  simp only [RM.val] at HL HG HE2 ⊢
  clear hE hf hd hb hshort hmsg
  obtain ⟨Wa, hWa⟩ : ∃ W, W = w.alloc (.cells #[.int .i64 kd, .int .i64 fr, .int .i64 to, .int .i64 tm, .int .i64 ix, .int .i64 lt, .int .i64 cm, .int .i64 ro, .bool ok, .int .i64 off, .slice da dn dc, .slice ea en ec] 25) := ⟨_, rfl⟩
  have gA : Hid (Wa.heap[w.heap.size]? = some (.cells #[.int .i64 kd, .int .i64 fr, .int .i64 to, .int .i64 tm, .int .i64 ix, .int .i64 lt, .int .i64 cm, .int .i64 ro, .bool ok, .int .i64 off, .slice da dn dc, .slice ea en ec] 25)) := Lib.hid (by rw [hWa]; exact heap_alloc_new _ _)
  have hBa : Hid (Below w.heap.size w Wa) := Lib.hid (by rw [hWa]; exact (Below.refl _ _).alloc (Nat.le_refl _) _)
  have HL1 := Lib.hid (HL.out Wa hBa.out)
  obtain ⟨⟨p0, p1, p2, p3, p4, p5, p6, p7, p8, p9, pa, pb⟩, _⟩ := cells12 gA.out
  cases LG with
  | true =>
    clear HL HG HE2 HSe HRs HSh
    go_enter Tryz.func8, Tryz.ntmps8
    go_wp2_with fail
    rw [← hWa]
    clear hWa
    refine HL1.out.mono ?_
    rintro e w1 ⟨rfl, b1⟩
    have B1 : Hid (Below w.heap.size w w1) := hBa.out.trans (b1.mono hBa.out.size)
    have HS1 := Lib.hid (HSu.out w1 B1.out)
    clear HL1 b1 HSu p0 p1 p2 p3 p4 p5 p6 p7 p8 p9 pa pb
    go_wp2_with fail
    refine HS1.out.mono ?_
    rintro e w2 ⟨rfl, b2⟩
    have B2 : Hid (Below w.heap.size w w2) := B1.out.trans (b2.mono B1.out.size)
    clear HS1 b2
    go_wp2
    go_ret
    exact ⟨rfl, B2.out⟩
  | false =>
    obtain ⟨hr, hen⟩ := HSh.out rfl
    have HRm := Lib.hid hr
    have HEn := Lib.hid hen
    clear HL HSh hr hen
    go_enter Tryz.func8, Tryz.ntmps8
    go_wp2_with fail
    rw [← hWa]
    clear hWa
    refine HL1.out.mono ?_
    rintro e w1 ⟨rfl, b1⟩
    have G1 := Lib.hid ((b1.block _ (Array.getElem?_eq_some_iff.1 gA.out).1).trans gA.out)
    have B1 : Hid (Below w.heap.size w w1) := hBa.out.trans (b1.mono hBa.out.size)
    have HE3 := Lib.hid (HE2.out w1 B1.out HRm.out)
    clear HL1 b1 HE2 gA p0 p1 p2 p3 p4 p5 p6 p7 p8 p9 pa pb
    obtain ⟨⟨p0, p1, p2, p3, p4, p5, p6, p7, p8, p9, pa, pb⟩, _⟩ := cells12 G1.out
    go_wp2_with fail
    refine HE3.out.mono ?_
    rintro e w2 ⟨⟨a2, n2, c2, rfl, hn2, o2, _⟩, b2⟩
    have G2 := Lib.hid ((b2.block _ (Array.getElem?_eq_some_iff.1 G1.out).1).trans G1.out)
    have B2 : Hid (Below w.heap.size w w2) := B1.out.trans (b2.mono B1.out.size)
    have HR1 := Lib.hid (HRs.out w2 a2 n2 c2 hn2 o2.isB)
    clear HE3 b2 o2 hn2 HRs G1 p0 p1 p2 p3 p4 p5 p6 p7 p8 p9 pa pb
    go_wp2_with fail
    refine HR1.out.mono ?_
    rintro e Wb ⟨⟨a3, n3, c3, r3, rfl, i3⟩, b3⟩
    have gb := (b3.block _ (Array.getElem?_eq_some_iff.1 G2.out).1).trans G2.out
    have hlt : w.heap.size < Wb.heap.size := (Array.getElem?_eq_some_iff.1 gb).1
    have B3 : Hid (Below w.heap.size w Wb) := B2.out.trans (b3.mono B2.out.size)
    obtain ⟨⟨p0, p1, p2, p3, p4, p5, p6, p7, p8, p9, pa, pb⟩, _⟩ := cells12 gb
    have cont : Hid (∀ V, Below Wb.heap.size Wb V → (Hid (Below Wb.heap.size Wb V) ∧ V.cell? ⟨w.heap.size, 0, none⟩ = some (.int .i64 kd) ∧ V.cell? ⟨w.heap.size, 1, none⟩ = some (.int .i64 fr) ∧ V.cell? ⟨w.heap.size, 2, none⟩ = some (.int .i64 to) ∧ V.cell? ⟨w.heap.size, 3, none⟩ = some (.int .i64 tm) ∧ V.cell? ⟨w.heap.size, 4, none⟩ = some (.int .i64 ix) ∧ V.cell? ⟨w.heap.size, 5, none⟩ = some (.int .i64 lt) ∧ V.cell? ⟨w.heap.size, 6, none⟩ = some (.int .i64 cm) ∧ V.cell? ⟨w.heap.size, 7, none⟩ = some (.int .i64 ro) ∧ V.cell? ⟨w.heap.size, 8, none⟩ = some (.bool ok) ∧ V.cell? ⟨w.heap.size, 9, none⟩ = some (.int .i64 off) ∧ V.cell? ⟨w.heap.size, 10, none⟩ = some (.slice da dn dc) ∧ V.cell? ⟨w.heap.size, 11, none⟩ = some (.slice ea en ec))) := fun V h => by
      have hk := h.block w.heap.size hlt
      exact ⟨Lib.hid h, (World.cell?_of_block hk).trans p0, (World.cell?_of_block hk).trans p1, (World.cell?_of_block hk).trans p2, (World.cell?_of_block hk).trans p3, (World.cell?_of_block hk).trans p4, (World.cell?_of_block hk).trans p5, (World.cell?_of_block hk).trans p6, (World.cell?_of_block hk).trans p7, (World.cell?_of_block hk).trans p8, (World.cell?_of_block hk).trans p9, (World.cell?_of_block hk).trans pa, (World.cell?_of_block hk).trans pb⟩
    have fin : Hid (∀ V, (Hid (Below Wb.heap.size Wb V) ∧ V.cell? ⟨w.heap.size, 0, none⟩ = some (.int .i64 kd) ∧ V.cell? ⟨w.heap.size, 1, none⟩ = some (.int .i64 fr) ∧ V.cell? ⟨w.heap.size, 2, none⟩ = some (.int .i64 to) ∧ V.cell? ⟨w.heap.size, 3, none⟩ = some (.int .i64 tm) ∧ V.cell? ⟨w.heap.size, 4, none⟩ = some (.int .i64 ix) ∧ V.cell? ⟨w.heap.size, 5, none⟩ = some (.int .i64 lt) ∧ V.cell? ⟨w.heap.size, 6, none⟩ = some (.int .i64 cm) ∧ V.cell? ⟨w.heap.size, 7, none⟩ = some (.int .i64 ro) ∧ V.cell? ⟨w.heap.size, 8, none⟩ = some (.bool ok) ∧ V.cell? ⟨w.heap.size, 9, none⟩ = some (.int .i64 off) ∧ V.cell? ⟨w.heap.size, 10, none⟩ = some (.slice da dn dc) ∧ V.cell? ⟨w.heap.size, 11, none⟩ = some (.slice ea en ec)) → Below w.heap.size w V) := fun V h => B3.out.trans (h.1.out.mono B3.out.size)
    have step : Hid (∀ V V', (Hid (Below Wb.heap.size Wb V) ∧ V.cell? ⟨w.heap.size, 0, none⟩ = some (.int .i64 kd) ∧ V.cell? ⟨w.heap.size, 1, none⟩ = some (.int .i64 fr) ∧ V.cell? ⟨w.heap.size, 2, none⟩ = some (.int .i64 to) ∧ V.cell? ⟨w.heap.size, 3, none⟩ = some (.int .i64 tm) ∧ V.cell? ⟨w.heap.size, 4, none⟩ = some (.int .i64 ix) ∧ V.cell? ⟨w.heap.size, 5, none⟩ = some (.int .i64 lt) ∧ V.cell? ⟨w.heap.size, 6, none⟩ = some (.int .i64 cm) ∧ V.cell? ⟨w.heap.size, 7, none⟩ = some (.int .i64 ro) ∧ V.cell? ⟨w.heap.size, 8, none⟩ = some (.bool ok) ∧ V.cell? ⟨w.heap.size, 9, none⟩ = some (.int .i64 off) ∧ V.cell? ⟨w.heap.size, 10, none⟩ = some (.slice da dn dc) ∧ V.cell? ⟨w.heap.size, 11, none⟩ = some (.slice ea en ec)) → Below V.heap.size V V' → (Hid (Below Wb.heap.size Wb V') ∧ V'.cell? ⟨w.heap.size, 0, none⟩ = some (.int .i64 kd) ∧ V'.cell? ⟨w.heap.size, 1, none⟩ = some (.int .i64 fr) ∧ V'.cell? ⟨w.heap.size, 2, none⟩ = some (.int .i64 to) ∧ V'.cell? ⟨w.heap.size, 3, none⟩ = some (.int .i64 tm) ∧ V'.cell? ⟨w.heap.size, 4, none⟩ = some (.int .i64 ix) ∧ V'.cell? ⟨w.heap.size, 5, none⟩ = some (.int .i64 lt) ∧ V'.cell? ⟨w.heap.size, 6, none⟩ = some (.int .i64 cm) ∧ V'.cell? ⟨w.heap.size, 7, none⟩ = some (.int .i64 ro) ∧ V'.cell? ⟨w.heap.size, 8, none⟩ = some (.bool ok) ∧ V'.cell? ⟨w.heap.size, 9, none⟩ = some (.int .i64 off) ∧ V'.cell? ⟨w.heap.size, 10, none⟩ = some (.slice da dn dc) ∧ V'.cell? ⟨w.heap.size, 11, none⟩ = some (.slice ea en ec))) := fun V V' h b => cont.out V' (h.1.out.trans (b.mono h.1.out.size))
    have econv : ∀ V : World, Hid (Below Wb.heap.size Wb V) → (convert 22 9 (.slice a3 n3 c3)).run Tryz.prog V = .ok (.string (str (PK.sealM msg))) V := fun V h => run_toStr T22 U9 (i3.below h.out)
    have C14 : Hid (∀ V, (Hid (Below Wb.heap.size Wb V) ∧ V.cell? ⟨w.heap.size, 0, none⟩ = some (.int .i64 kd) ∧ V.cell? ⟨w.heap.size, 1, none⟩ = some (.int .i64 fr) ∧ V.cell? ⟨w.heap.size, 2, none⟩ = some (.int .i64 to) ∧ V.cell? ⟨w.heap.size, 3, none⟩ = some (.int .i64 tm) ∧ V.cell? ⟨w.heap.size, 4, none⟩ = some (.int .i64 ix) ∧ V.cell? ⟨w.heap.size, 5, none⟩ = some (.int .i64 lt) ∧ V.cell? ⟨w.heap.size, 6, none⟩ = some (.int .i64 cm) ∧ V.cell? ⟨w.heap.size, 7, none⟩ = some (.int .i64 ro) ∧ V.cell? ⟨w.heap.size, 8, none⟩ = some (.bool ok) ∧ V.cell? ⟨w.heap.size, 9, none⟩ = some (.int .i64 off) ∧ V.cell? ⟨w.heap.size, 10, none⟩ = some (.slice da dn dc) ∧ V.cell? ⟨w.heap.size, 11, none⟩ = some (.slice ea en ec)) → Calls Tryz.prog 14 #[.agg #[.int .i64 kd, .int .i64 fr, .int .i64 to, .int .i64 tm, .int .i64 ix, .int .i64 lt, .int .i64 cm, .int .i64 ro, .bool ok, .int .i64 off, .slice da dn dc, .slice ea en ec]] V fun e w' => (∃ y : RM, e = .returned y.val ∧ Hid (y.Fit w' ∧ y.msg = msg)) ∧ (Hid (Below Wb.heap.size Wb w') ∧ w'.cell? ⟨w.heap.size, 0, none⟩ = some (.int .i64 kd) ∧ w'.cell? ⟨w.heap.size, 1, none⟩ = some (.int .i64 fr) ∧ w'.cell? ⟨w.heap.size, 2, none⟩ = some (.int .i64 to) ∧ w'.cell? ⟨w.heap.size, 3, none⟩ = some (.int .i64 tm) ∧ w'.cell? ⟨w.heap.size, 4, none⟩ = some (.int .i64 ix) ∧ w'.cell? ⟨w.heap.size, 5, none⟩ = some (.int .i64 lt) ∧ w'.cell? ⟨w.heap.size, 6, none⟩ = some (.int .i64 cm) ∧ w'.cell? ⟨w.heap.size, 7, none⟩ = some (.int .i64 ro) ∧ w'.cell? ⟨w.heap.size, 8, none⟩ = some (.bool ok) ∧ w'.cell? ⟨w.heap.size, 9, none⟩ = some (.int .i64 off) ∧ w'.cell? ⟨w.heap.size, 10, none⟩ = some (.slice da dn dc) ∧ w'.cell? ⟨w.heap.size, 11, none⟩ = some (.slice ea en ec))) := fun V h => (HG.out V (fin.out V h) HEn.out).mono fun e w' ⟨⟨y, e1, e2, e3⟩, e4⟩ => ⟨⟨y, e1, Lib.hid ⟨e2, e3⟩⟩, step.out V w' h e4⟩
    have C22 : Hid (∀ V (y : RM), (Hid (Below Wb.heap.size Wb V) ∧ V.cell? ⟨w.heap.size, 0, none⟩ = some (.int .i64 kd) ∧ V.cell? ⟨w.heap.size, 1, none⟩ = some (.int .i64 fr) ∧ V.cell? ⟨w.heap.size, 2, none⟩ = some (.int .i64 to) ∧ V.cell? ⟨w.heap.size, 3, none⟩ = some (.int .i64 tm) ∧ V.cell? ⟨w.heap.size, 4, none⟩ = some (.int .i64 ix) ∧ V.cell? ⟨w.heap.size, 5, none⟩ = some (.int .i64 lt) ∧ V.cell? ⟨w.heap.size, 6, none⟩ = some (.int .i64 cm) ∧ V.cell? ⟨w.heap.size, 7, none⟩ = some (.int .i64 ro) ∧ V.cell? ⟨w.heap.size, 8, none⟩ = some (.bool ok) ∧ V.cell? ⟨w.heap.size, 9, none⟩ = some (.int .i64 off) ∧ V.cell? ⟨w.heap.size, 10, none⟩ = some (.slice da dn dc) ∧ V.cell? ⟨w.heap.size, 11, none⟩ = some (.slice ea en ec)) → Hid (y.Fit V ∧ y.msg = msg) → Calls Tryz.prog 22 #[y.val] V fun e w' => (∃ a n c, e = .returned (.slice a n c) ∧ (convert 22 9 (.slice a n c)).run Tryz.prog w' = .ok (.string (str (PK.sealM msg))) w') ∧ (Hid (Below Wb.heap.size Wb w') ∧ w'.cell? ⟨w.heap.size, 0, none⟩ = some (.int .i64 kd) ∧ w'.cell? ⟨w.heap.size, 1, none⟩ = some (.int .i64 fr) ∧ w'.cell? ⟨w.heap.size, 2, none⟩ = some (.int .i64 to) ∧ w'.cell? ⟨w.heap.size, 3, none⟩ = some (.int .i64 tm) ∧ w'.cell? ⟨w.heap.size, 4, none⟩ = some (.int .i64 ix) ∧ w'.cell? ⟨w.heap.size, 5, none⟩ = some (.int .i64 lt) ∧ w'.cell? ⟨w.heap.size, 6, none⟩ = some (.int .i64 cm) ∧ w'.cell? ⟨w.heap.size, 7, none⟩ = some (.int .i64 ro) ∧ w'.cell? ⟨w.heap.size, 8, none⟩ = some (.bool ok) ∧ w'.cell? ⟨w.heap.size, 9, none⟩ = some (.int .i64 off) ∧ w'.cell? ⟨w.heap.size, 10, none⟩ = some (.slice da dn dc) ∧ w'.cell? ⟨w.heap.size, 11, none⟩ = some (.slice ea en ec))) := fun V y h hy =>
      (HSe.out V y (fin.out V h) hy.out.1 hy.out.2 HRm.out).mono fun e w' ⟨⟨a, n, c, e1, _, e2, _⟩, e3⟩ => ⟨⟨a, n, c, e1, run_toStr T22 U9 e2.isB⟩, step.out V w' h e3⟩
    have C10 : Hid (∀ V, (Hid (Below Wb.heap.size Wb V) ∧ V.cell? ⟨w.heap.size, 0, none⟩ = some (.int .i64 kd) ∧ V.cell? ⟨w.heap.size, 1, none⟩ = some (.int .i64 fr) ∧ V.cell? ⟨w.heap.size, 2, none⟩ = some (.int .i64 to) ∧ V.cell? ⟨w.heap.size, 3, none⟩ = some (.int .i64 tm) ∧ V.cell? ⟨w.heap.size, 4, none⟩ = some (.int .i64 ix) ∧ V.cell? ⟨w.heap.size, 5, none⟩ = some (.int .i64 lt) ∧ V.cell? ⟨w.heap.size, 6, none⟩ = some (.int .i64 cm) ∧ V.cell? ⟨w.heap.size, 7, none⟩ = some (.int .i64 ro) ∧ V.cell? ⟨w.heap.size, 8, none⟩ = some (.bool ok) ∧ V.cell? ⟨w.heap.size, 9, none⟩ = some (.int .i64 off) ∧ V.cell? ⟨w.heap.size, 10, none⟩ = some (.slice da dn dc) ∧ V.cell? ⟨w.heap.size, 11, none⟩ = some (.slice ea en ec)) → Calls Tryz.prog 10 #[] V fun e w' => e = .returned (.bool true) ∧ (Hid (Below Wb.heap.size Wb w') ∧ w'.cell? ⟨w.heap.size, 0, none⟩ = some (.int .i64 kd) ∧ w'.cell? ⟨w.heap.size, 1, none⟩ = some (.int .i64 fr) ∧ w'.cell? ⟨w.heap.size, 2, none⟩ = some (.int .i64 to) ∧ w'.cell? ⟨w.heap.size, 3, none⟩ = some (.int .i64 tm) ∧ w'.cell? ⟨w.heap.size, 4, none⟩ = some (.int .i64 ix) ∧ w'.cell? ⟨w.heap.size, 5, none⟩ = some (.int .i64 lt) ∧ w'.cell? ⟨w.heap.size, 6, none⟩ = some (.int .i64 cm) ∧ w'.cell? ⟨w.heap.size, 7, none⟩ = some (.int .i64 ro) ∧ w'.cell? ⟨w.heap.size, 8, none⟩ = some (.bool ok) ∧ w'.cell? ⟨w.heap.size, 9, none⟩ = some (.int .i64 off) ∧ w'.cell? ⟨w.heap.size, 10, none⟩ = some (.slice da dn dc) ∧ w'.cell? ⟨w.heap.size, 11, none⟩ = some (.slice ea en ec))) := fun V h => (HSu.out V (fin.out V h)).mono fun e w' ⟨e1, e2⟩ => ⟨e1, step.out V w' h e2⟩
    have S0 := cont.out Wb.drew (Below.refl _ _).drew
    generalize str (PK.sealM msg) = sT at *
    clear HG HSe HSu HR1 b3 G2 gb hlt cont B1 B2 B3 hBa HRm HEn p0 p1 p2 p3 p4 p5 p6 p7 p8 p9 pa pb
    go_wp2_with fail
    refine wp_region_noPanic ?_
    refine wp_region_held_drew (S := fun V => (Hid (Below Wb.heap.size Wb V) ∧ V.cell? ⟨w.heap.size, 0, none⟩ = some (.int .i64 kd) ∧ V.cell? ⟨w.heap.size, 1, none⟩ = some (.int .i64 fr) ∧ V.cell? ⟨w.heap.size, 2, none⟩ = some (.int .i64 to) ∧ V.cell? ⟨w.heap.size, 3, none⟩ = some (.int .i64 tm) ∧ V.cell? ⟨w.heap.size, 4, none⟩ = some (.int .i64 ix) ∧ V.cell? ⟨w.heap.size, 5, none⟩ = some (.int .i64 lt) ∧ V.cell? ⟨w.heap.size, 6, none⟩ = some (.int .i64 cm) ∧ V.cell? ⟨w.heap.size, 7, none⟩ = some (.int .i64 ro) ∧ V.cell? ⟨w.heap.size, 8, none⟩ = some (.bool ok) ∧ V.cell? ⟨w.heap.size, 9, none⟩ = some (.int .i64 off) ∧ V.cell? ⟨w.heap.size, 10, none⟩ = some (.slice da dn dc) ∧ V.cell? ⟨w.heap.size, 11, none⟩ = some (.slice ea en ec))) (by kernel_rfl) S0 (fun hHeld => ?_)
    refine wpAnyH_take (i := 0) (v := ?hv0) (List.getElem?_toArray.trans rfl) (by kernel_rfl) (by kernel_rfl) (by kernel_rfl) (fun _ _ _ h => h) (Or.inl ⟨by rfl, ?hy0⟩) (by assumption) ?hr0
    case hy0 => (intro wt hSw; (try dsimp only at hSw); go_simp; try (with_reducible rfl))
    try simp only [Act.put, List.setIfInBounds_toArray, List.set_cons_zero, List.set_cons_succ]
    refine wpAnyH_take (i := 4) (v := ?hv4) (List.getElem?_toArray.trans rfl) (by kernel_rfl) (by kernel_rfl) (by kernel_rfl) (fun _ _ _ h => h) (Or.inl ⟨by rfl, ?hy4⟩) (by assumption) ?hr4
    case hy4 => (intro wt hSw; (try dsimp only at hSw); go_simp; try (with_reducible rfl))
    try simp only [Act.put, List.setIfInBounds_toArray, List.set_cons_zero, List.set_cons_succ]
    refine wpAnyH_take (i := 5) (v := ?hv5) (List.getElem?_toArray.trans rfl) (by kernel_rfl) (by kernel_rfl) (by kernel_rfl) (fun _ _ _ h => h) (Or.inl ⟨by rfl, ?hy5⟩) (by assumption) ?hr5
    case hy5 => (intro wt hSw; (try dsimp only at hSw); go_simp; try (with_reducible rfl))
    try simp only [Act.put, List.setIfInBounds_toArray, List.set_cons_zero, List.set_cons_succ]
    refine wpAnyH_ready (rs := [1]) (by kernel_rfl) (by simp) ?_
    refine AllReadyH.cons (List.getElem?_toArray.trans rfl) (fun K hK => ?_) AllReadyH.nil
    go_simp
    go_at_call 14
    refine (C14.out _ ?_).mono ?_
    assumption
    rintro e v1 ⟨⟨y, rfl, hy⟩, k1⟩
    clear C14
    try (go_wp2_with fail)
    refine hK.out _ _ ?_ (fun hHeld => ?_)
    · (try dsimp only)
      assumption
    clear hK K
    try simp only [Act.put, List.setIfInBounds_toArray, List.set_cons_zero, List.set_cons_succ]
    refine wpAnyH_ready (rs := [2]) (by kernel_rfl) (by simp) ?_
    refine AllReadyH.cons (List.getElem?_toArray.trans rfl) (fun K hK => ?_) AllReadyH.nil
    go_simp
    go_at_call 22
    refine (C22.out _ _ ?_ hy).mono ?_
    assumption
    rintro e v2 ⟨⟨a5, n5, c5, rfl, hcv⟩, k2⟩
    clear C22 hy k1
    try (go_wp2_with fail)
    refine hK.out _ _ ?_ (fun hHeld => ?_)
    · (try dsimp only)
      assumption
    clear hK K
    try simp only [Act.put, List.setIfInBounds_toArray, List.set_cons_zero, List.set_cons_succ]
    refine wpAnyH_ready (rs := [3]) (by kernel_rfl) (by simp) ?_
    refine AllReadyH.cons (List.getElem?_toArray.trans rfl) (fun K hK => ?_) AllReadyH.nil
    go_simp
    try (go_wp2_with fail)
    refine hK.out _ _ ?_ (fun hHeld => ?_)
    · (try dsimp only)
      assumption
    clear hK K
    try simp only [Act.put, List.setIfInBounds_toArray, List.set_cons_zero, List.set_cons_succ]
    refine wpAnyH_take (i := 6) (v := ?hv6) (List.getElem?_toArray.trans rfl) (by kernel_rfl) (by kernel_rfl) (by kernel_rfl) (fun _ _ _ h => h) (Or.inl ⟨by rfl, ?hy6⟩) (by assumption) ?hr6
    case hy6 => (intro wt hSw; (try dsimp only at hSw); go_simp; try (with_reducible rfl))
    try simp only [Act.put, List.setIfInBounds_toArray, List.set_cons_zero, List.set_cons_succ]
    refine wpAnyH_take (i := 7) (v := ?hv7) (List.getElem?_toArray.trans rfl) (by kernel_rfl) (by kernel_rfl) (by kernel_rfl) (fun _ _ _ h => h) (Or.inl ⟨by rfl, ?hy7⟩) (by assumption) ?hr7
    case hy7 => (intro wt hSw; (try dsimp only at hSw); go_simp; try (with_reducible rfl))
    try simp only [Act.put, List.setIfInBounds_toArray, List.set_cons_zero, List.set_cons_succ]
    refine wpAnyH_ready (rs := [8]) (by kernel_rfl) (by simp) ?_
    refine AllReadyH.cons (List.getElem?_toArray.trans rfl) (fun K hK => ?_) AllReadyH.nil
    go_simp
    go_at_call 10
    refine (C10.out _ ?_).mono ?_
    assumption
    rintro e v3 ⟨rfl, k3⟩
    clear C10
    try (go_wp2_with fail)
    refine hK.out _ _ ?_ (fun hHeld => ?_)
    · (try dsimp only)
      assumption
    clear hK K
    try simp only [Act.put, List.setIfInBounds_toArray, List.set_cons_zero, List.set_cons_succ]
    refine wpAnyH_take (i := 9) (v := ?hv9) (List.getElem?_toArray.trans rfl) (by kernel_rfl) (by kernel_rfl) (by kernel_rfl) (fun _ _ _ h => h) (Or.inl ⟨by rfl, ?hy9⟩) (by assumption) ?hr9
    case hy9 => (intro wt hSw; (try dsimp only at hSw); go_simp; try (with_reducible rfl))
    try simp only [Act.put, List.setIfInBounds_toArray, List.set_cons_zero, List.set_cons_succ]
    refine wpAnyH_take (i := 10) (v := ?hv10) (List.getElem?_toArray.trans rfl) (by kernel_rfl) (by kernel_rfl) (by kernel_rfl) (fun _ _ _ h => h) (Or.inl ⟨by rfl, ?hy10⟩) (by assumption) ?hr10
    case hy10 => (intro wt hSw; (try dsimp only at hSw); go_simp; try (with_reducible rfl))
    try simp only [Act.put, List.setIfInBounds_toArray, List.set_cons_zero, List.set_cons_succ]
    refine wpAnyH_done (by kernel_rfl) ?_ _
    refine NoPanic.normal ?_
    go_wp2
    go_ret
    exact ⟨rfl, fin.out _ (by assumption)⟩
end Go.Proofs.YtbgockggbpmhnaaGreatDoor
namespace Go.Proofs.YtbgockggbpmhnaaGreatDoor
open Go Go.RowKit

/-- One byte of a row of the call's own, stored. -/
theorem OwnB.set {w : World} {g o n cap : Nat} {l : List UInt8} (h : OwnB w (.slice (some ⟨g, o, none⟩) n cap) l) (i : Nat) (hi : i < n) (c : UInt8) :
    IsB (w.setCell ⟨g, o + i, none⟩ (.int .u8 (c.toNat : Int))) (.slice (some ⟨g, o, none⟩) n cap) (l.set i c) := by
  rcases h with ⟨e, _⟩ | ⟨g', o', cap', e, h1, h2, _, h3, _⟩
  · cases e
  · simp only [Value.slice.injEq, Option.some.injEq, Addr.mk.injEq] at e
    obtain ⟨⟨rfl, rfl, _⟩, rfl, rfl⟩ := e
    refine ⟨_, _, by rw [List.length_set], by rw [List.length_set]; exact h1, h2, (fun h => by cases h), .inr ⟨g, o, rfl, fun j hj => ?_⟩⟩
    rw [List.length_set] at hj
    by_cases hij : j = i
    · subst hij
      have hc := h3 j hj
      rw [World.cell?_setCell_same' w _ _ (by rw [hc]; rfl)]
      simp [at8, List.getD_eq_getElem?_getD, hj]
    · have hne : (⟨g, o + i, none⟩ : Addr) ≠ ⟨g, o + j, none⟩ := by intro e; exact hij (by have := congrArg Addr.off e; simp at this; omega)
      have e2 : (w.setCell ⟨g, o + i, none⟩ (.int .u8 (c.toNat : Int))).cell? ⟨g, o + j, none⟩ = w.cell? ⟨g, o + j, none⟩ := by first | exact World.cell?_setCell_other hne | exact World.cell?_setCell_other _ hne | exact World.cell?_setCell_other _ _ hne | exact World.cell?_setCell_other _ _ _ hne | exact World.cell?_setCell_other _ _ _ _ hne
      rw [e2, h3 j hj]
      congr 2
      simp [at8, List.getD_eq_getElem?_getD, Ne.symm hij]
theorem spoilt_set {m : PK.Msg} (h : PK.mayM m) (i : Nat) (hi : i < (PK.sealM m).length) (c : UInt8) (hc : c ≠ (PK.sealM m).getD i 0) : PK.openM ((PK.sealM m).set i c) = none := by
  rw [List.set_eq_take_append_cons_drop, if_pos hi]
  refine PK.openM_spoilt m h ((PK.sealM m).take i) ((PK.sealM m).drop (i + 1)) ((PK.sealM m).getD i 0) c ?_ (Ne.symm hc)
  have e : (PK.sealM m).getD i 0 = (PK.sealM m)[i] := by simp [List.getD_eq_getElem?_getD, hi]
  rw [e, ← List.drop_eq_getElem_cons hi, List.take_append_drop]
set_option maxRecDepth 100000 in
set_option maxHeartbeats 16000000 in
theorem msgSpoilt_any (x : RM) (ak : Int) (by_ : UInt8) (w : World) (hE : Env w) (hf : x.Fit w) (hd : x.dn ≤ roomB) (hb : ∀ y ∈ x.es, y.n ≤ roomB) :
    Calls Tryz.prog 5 #[x.val, .int .i64 ak, .int .u8 (by_.toNat : Int)] w fun e w' => e = .returned (.bool true) ∧ Below w.heap.size w w' := by
  have HL := Lib.hid (fun (V : World) (b : Below w.heap.size w V) => longMsg_any x V (hf.below b) hb)
  have HM := Lib.hid (fun (V : World) (b : Below w.heap.size w V) => rmay_any x V (hf.below b))
  have HSu := Lib.hid (fun (V : World) (b : Below w.heap.size w V) => sure_any V (hE.below b))
  have hshort : x.long = false → (PK.encM x.msg).length + 1000 ≤ roomB ∧ x.en ≤ 1000 := fun h => short_room hf h
  have HG := Lib.hid (fun (V : World) (b : Below w.heap.size w V) (hn : x.en ≤ 1000) => giveMsg_any x V (hf.below b) hn hd hb)
  have HSe : Hid (∀ (V : World) (y : RM), Below w.heap.size w V → y.Fit V → y.msg = x.msg → (PK.encM x.msg).length + 1000 ≤ roomB → Calls Tryz.prog 22 #[y.val] V fun e w' => RW V w' e (PK.sealM x.msg)) := fun V y b hy hm hr => by
    rw [← hm] at hr ⊢
    exact mseal_any y V (hE.below b) hy hr
  have HEn : Hid (∀ (V : World) (y : RM), Below w.heap.size w V → y.Fit V → y.msg = x.msg → (PK.encM x.msg).length + 1000 ≤ roomB → Calls Tryz.prog 16 #[y.val] V fun e w' => RW V w' e (PK.encM x.msg)) := fun V y b hy hm hr => by
    rw [← hm] at hr ⊢
    exact encM_any y V (hE.below b) hy hr
  have HOp : Hid (∀ (V : World) (a : Option Addr) (n c : Nat) (l : List UInt8), Below w.heap.size w V → l.length = n → IsB V (.slice a n c) l → l.length ≤ roomB → Calls Tryz.prog 20 #[.slice a n c] V fun e w' => DecMR errV V w' e (PK.openM l)) := fun V a n c l b hl hi hr => mopen_any a n c l V (hE.below b) hl hi hr
  have HNum : Hid (∀ V, Below w.heap.size w V → Calls Tryz.prog 18 #[errV 3] V fun e w' => e = .returned (.int .i64 3) ∧ Below V.heap.size V w') := fun V b => num_any 3 V (hE.below b)
  have HSh := Lib.hid hshort
  generalize x.long = LG at *
  obtain ⟨kd, fr, to, tm, ix, lt, cm, ro, ok, off, da, dn, dc, d, ea, en, ec, es⟩ := x
  obtain ⟨msg, hmsg⟩ : ∃ m, m = RM.msg ⟨kd, fr, to, tm, ix, lt, cm, ro, ok, off, da, dn, dc, d, ea, en, ec, es⟩ := ⟨_, rfl⟩
  rw [← hmsg] at HG HSe HEn HSh HM
  simp only [RM.val] at HL HG HM ⊢
  clear hE hf hd hb hshort hmsg
  obtain ⟨Wa, hWa⟩ : ∃ W, W = w.alloc (.cells #[.int .i64 kd, .int .i64 fr, .int .i64 to, .int .i64 tm, .int .i64 ix, .int .i64 lt, .int .i64 cm, .int .i64 ro, .bool ok, .int .i64 off, .slice da dn dc, .slice ea en ec] 25) := ⟨_, rfl⟩
  have gA : Hid (Wa.heap[w.heap.size]? = some (.cells #[.int .i64 kd, .int .i64 fr, .int .i64 to, .int .i64 tm, .int .i64 ix, .int .i64 lt, .int .i64 cm, .int .i64 ro, .bool ok, .int .i64 off, .slice da dn dc, .slice ea en ec] 25)) := Lib.hid (by rw [hWa]; exact heap_alloc_new _ _)
  have hBa : Hid (Below w.heap.size w Wa) := Lib.hid (by rw [hWa]; exact (Below.refl _ _).alloc (Nat.le_refl _) _)
  have HL1 := Lib.hid (HL.out Wa hBa.out)
  obtain ⟨⟨p0, p1, p2, p3, p4, p5, p6, p7, p8, p9, pa, pb⟩, _⟩ := cells12 gA.out
  cases LG with
  | true =>
    clear HL HG HSe HEn HSh HM HOp HNum
    go_enter Tryz.func5, Tryz.ntmps5
    go_wp2_with fail
    rw [← hWa]
    clear hWa
    refine HL1.out.mono ?_
    rintro e w1 ⟨rfl, b1⟩
    have B1 : Hid (Below w.heap.size w w1) := hBa.out.trans (b1.mono hBa.out.size)
    have HS1 := Lib.hid (HSu.out w1 B1.out)
    clear HL1 b1 HSu p0 p1 p2 p3 p4 p5 p6 p7 p8 p9 pa pb
    go_wp2_with fail
    refine HS1.out.mono ?_
    rintro e w2 ⟨rfl, b2⟩
    have B2 : Hid (Below w.heap.size w w2) := B1.out.trans (b2.mono B1.out.size)
    clear HS1 b2
    go_wp2
    go_ret
    exact ⟨rfl, B2.out⟩
  | false =>
    obtain ⟨hr, hen⟩ := HSh.out rfl
    have HRm := Lib.hid hr
    have HEe := Lib.hid hen
    clear HL HSh hr hen
    by_cases hmay : PK.mayM msg
    · rw [decide_eq_true hmay] at HM
      have hopen := PK.openM_sealM msg hmay
      have hcut := fun i hi => PK.openM_cut msg hmay i hi
      have hmore := fun c => PK.openM_more msg hmay c
      have hspo := fun i hi c hc => spoilt_set hmay i hi c hc
      have hsl : (PK.sealM msg).length = (PK.encM msg).length + 5 := by rw [PK.sealM_may msg hmay, PK.seal_len]
      have Hopen := Lib.hid hopen
      have Hcut := Lib.hid hcut
      have Hmore := Lib.hid hmore
      have Hspo := Lib.hid hspo
      have Hsl := Lib.hid hsl
      generalize PK.sealM msg = SM at *
      clear hmay hopen hcut hmore hspo hsl
      go_enter Tryz.func5, Tryz.ntmps5
      go_wp2_with fail
      rw [← hWa]
      clear hWa
      refine HL1.out.mono ?_
      rintro e w1 ⟨rfl, b1⟩
      have G1 := Lib.hid ((b1.block _ (Array.getElem?_eq_some_iff.1 gA.out).1).trans gA.out)
      have B1 : Hid (Below w.heap.size w w1) := hBa.out.trans (b1.mono hBa.out.size)
      have HM1 := Lib.hid (HM.out w1 B1.out)
      clear HL1 b1 gA HM p0 p1 p2 p3 p4 p5 p6 p7 p8 p9 pa pb
      obtain ⟨⟨p0, p1, p2, p3, p4, p5, p6, p7, p8, p9, pa, pb⟩, _⟩ := cells12 G1.out
      go_wp2_with fail
      refine HM1.out.mono ?_
      rintro e w2 ⟨rfl, b2⟩
      have G2 := Lib.hid ((b2.block _ (Array.getElem?_eq_some_iff.1 G1.out).1).trans G1.out)
      have B2 : Hid (Below w.heap.size w w2) := B1.out.trans (b2.mono B1.out.size)
      have HG2 := Lib.hid (HG.out w2 B2.out HEe.out)
      clear HM1 b2 G1 B1 p0 p1 p2 p3 p4 p5 p6 p7 p8 p9 pa pb
      obtain ⟨⟨p0, p1, p2, p3, p4, p5, p6, p7, p8, p9, pa, pb⟩, _⟩ := cells12 G2.out
      go_wp2_with fail
      refine HG2.out.mono ?_
      rintro e w3 ⟨⟨y, rfl, hy, hym⟩, b3⟩
      have G3 := Lib.hid ((b3.block _ (Array.getElem?_eq_some_iff.1 G2.out).1).trans G2.out)
      have B3 : Hid (Below w.heap.size w w3) := B2.out.trans (b3.mono B2.out.size)
      have HS3 := Lib.hid (HSe.out w3 y B3.out hy hym HRm.out)
      clear HG2 b3 G2 B2 HSe hy hym p0 p1 p2 p3 p4 p5 p6 p7 p8 p9 pa pb
      go_wp2_with fail
      refine HS3.out.mono ?_
      rintro e w4 ⟨⟨a1, n1, c1, rfl, hn1, o1, _⟩, b4⟩
      have G4 := Lib.hid ((b4.block _ (Array.getElem?_eq_some_iff.1 G3.out).1).trans G3.out)
      have B4 : Hid (Below w.heap.size w w4) := B3.out.trans (b4.mono B3.out.size)
      have I4 := Lib.hid o1.isB
      have HN1 := Lib.hid hn1
      have hroom1 : SM.length ≤ roomB := by have := Hsl.out; have := HRm.out; omega
      have HRo := Lib.hid hroom1
      have HO4 := HOp.out w4 a1 n1 c1 SM B4.out hn1 I4.out hroom1
      rw [Hopen.out] at HO4
      have HO5 := Lib.hid HO4
      clear HS3 b4 G3 B3 o1 hn1 HO4 hroom1
      go_wp2_with fail
      refine HO5.out.mono ?_
      rintro e w5 ⟨⟨h, _⟩ | ⟨z, rfl, hz, hzm⟩, b5⟩
      · cases h
      have hzm2 : z.msg = msg := (Option.some.inj hzm).symm
      have gW5 := (b5.block _ (Array.getElem?_eq_some_iff.1 G4.out).1).trans G4.out
      have B5 : Hid (Below w.heap.size w w5) := B4.out.trans (b5.mono B4.out.size)
      have I5 := Lib.hid (I4.out.below b5)
      have HEz := Lib.hid (fun (V : World) (b : Below w5.heap.size w5 V) => HEn.out V z (B5.out.trans (b.mono B5.out.size)) (hz.below b) hzm2 HRm.out)
      have Hzf := Lib.hid hz
      obtain ⟨zkd, zfr, zto, ztm, zix, zlt, zcm, zro, zok, zoff, zda, zdn, zdc, zd, zea, zen, zec, zes⟩ := z
      simp only [RM.val] at HEz
      clear hzm hzm2 hz b5 HO5 I4 B4 G4
      simp only [RM.val, errV]
      obtain ⟨W6, hW6⟩ : ∃ W, W = w5.alloc (.cells #[.int .i64 zkd, .int .i64 zfr, .int .i64 zto, .int .i64 ztm, .int .i64 zix, .int .i64 zlt, .int .i64 zcm, .int .i64 zro, .bool zok, .int .i64 zoff, .slice zda zdn zdc, .slice zea zen zec] 30) := ⟨_, rfl⟩
      obtain ⟨Zb, hZb⟩ : ∃ Z, w5.heap.size = Z := ⟨_, rfl⟩
      have bW6 : Below w5.heap.size w5 W6 := by rw [hW6]; exact (Below.refl _ _).alloc (Nat.le_refl _) _
      have hsz6 : W6.heap.size = Zb + 1 := by rw [hW6, ← hZb]; simp
      have hlt6 : w.heap.size < w5.heap.size := (Array.getElem?_eq_some_iff.1 gW5).1
      have g6 : W6.heap[w.heap.size]? = some (.cells #[.int .i64 kd, .int .i64 fr, .int .i64 to, .int .i64 tm, .int .i64 ix, .int .i64 lt, .int .i64 cm, .int .i64 ro, .bool ok, .int .i64 off, .slice da dn dc, .slice ea en ec] 25) := (bW6.block _ hlt6).trans gW5
      have gz : W6.heap[Zb]? = some (.cells #[.int .i64 zkd, .int .i64 zfr, .int .i64 zto, .int .i64 ztm, .int .i64 zix, .int .i64 zlt, .int .i64 zcm, .int .i64 zro, .bool zok, .int .i64 zoff, .slice zda zdn zdc, .slice zea zen zec] 30) := by rw [hW6, ← hZb]; exact heap_alloc_new _ _
      obtain ⟨⟨p0, p1, p2, p3, p4, p5, p6, p7, p8, p9, pa, pb⟩, _⟩ := cells12 g6
      obtain ⟨⟨q0, q1, q2, q3, q4, q5, q6, q7, q8, q9, qa, qb⟩, _⟩ := cells12 gz
      have B6 : Hid (Below w.heap.size w W6) := B5.out.trans (bW6.mono B5.out.size)
      have I6 := Lib.hid (I5.out.below bW6)
      have cont : Hid (∀ V, Below W6.heap.size W6 V → (Hid (Below W6.heap.size W6 V) ∧ (V.cell? ⟨w.heap.size, 0, none⟩ = some (.int .i64 kd) ∧ V.cell? ⟨w.heap.size, 1, none⟩ = some (.int .i64 fr) ∧ V.cell? ⟨w.heap.size, 2, none⟩ = some (.int .i64 to) ∧ V.cell? ⟨w.heap.size, 3, none⟩ = some (.int .i64 tm) ∧ V.cell? ⟨w.heap.size, 4, none⟩ = some (.int .i64 ix) ∧ V.cell? ⟨w.heap.size, 5, none⟩ = some (.int .i64 lt) ∧ V.cell? ⟨w.heap.size, 6, none⟩ = some (.int .i64 cm) ∧ V.cell? ⟨w.heap.size, 7, none⟩ = some (.int .i64 ro) ∧ V.cell? ⟨w.heap.size, 8, none⟩ = some (.bool ok) ∧ V.cell? ⟨w.heap.size, 9, none⟩ = some (.int .i64 off) ∧ V.cell? ⟨w.heap.size, 10, none⟩ = some (.slice da dn dc) ∧ V.cell? ⟨w.heap.size, 11, none⟩ = some (.slice ea en ec)) ∧ V.cell? ⟨Zb, 0, none⟩ = some (.int .i64 zkd) ∧ V.cell? ⟨Zb, 1, none⟩ = some (.int .i64 zfr) ∧ V.cell? ⟨Zb, 2, none⟩ = some (.int .i64 zto) ∧ V.cell? ⟨Zb, 3, none⟩ = some (.int .i64 ztm) ∧ V.cell? ⟨Zb, 4, none⟩ = some (.int .i64 zix) ∧ V.cell? ⟨Zb, 5, none⟩ = some (.int .i64 zlt) ∧ V.cell? ⟨Zb, 6, none⟩ = some (.int .i64 zcm) ∧ V.cell? ⟨Zb, 7, none⟩ = some (.int .i64 zro) ∧ V.cell? ⟨Zb, 8, none⟩ = some (.bool zok) ∧ V.cell? ⟨Zb, 9, none⟩ = some (.int .i64 zoff) ∧ V.cell? ⟨Zb, 10, none⟩ = some (.slice zda zdn zdc) ∧ V.cell? ⟨Zb, 11, none⟩ = some (.slice zea zen zec))) := fun V h => by
        have hk := h.block w.heap.size (by omega)
        have hk2 := h.block Zb (by omega)
        exact ⟨Lib.hid h, ⟨(World.cell?_of_block hk).trans p0, (World.cell?_of_block hk).trans p1, (World.cell?_of_block hk).trans p2, (World.cell?_of_block hk).trans p3, (World.cell?_of_block hk).trans p4, (World.cell?_of_block hk).trans p5, (World.cell?_of_block hk).trans p6, (World.cell?_of_block hk).trans p7, (World.cell?_of_block hk).trans p8, (World.cell?_of_block hk).trans p9, (World.cell?_of_block hk).trans pa, (World.cell?_of_block hk).trans pb⟩, (World.cell?_of_block hk2).trans q0, (World.cell?_of_block hk2).trans q1, (World.cell?_of_block hk2).trans q2, (World.cell?_of_block hk2).trans q3, (World.cell?_of_block hk2).trans q4, (World.cell?_of_block hk2).trans q5, (World.cell?_of_block hk2).trans q6, (World.cell?_of_block hk2).trans q7, (World.cell?_of_block hk2).trans q8, (World.cell?_of_block hk2).trans q9, (World.cell?_of_block hk2).trans qa, (World.cell?_of_block hk2).trans qb⟩
      have fin : Hid (∀ V, (Hid (Below W6.heap.size W6 V) ∧ (V.cell? ⟨w.heap.size, 0, none⟩ = some (.int .i64 kd) ∧ V.cell? ⟨w.heap.size, 1, none⟩ = some (.int .i64 fr) ∧ V.cell? ⟨w.heap.size, 2, none⟩ = some (.int .i64 to) ∧ V.cell? ⟨w.heap.size, 3, none⟩ = some (.int .i64 tm) ∧ V.cell? ⟨w.heap.size, 4, none⟩ = some (.int .i64 ix) ∧ V.cell? ⟨w.heap.size, 5, none⟩ = some (.int .i64 lt) ∧ V.cell? ⟨w.heap.size, 6, none⟩ = some (.int .i64 cm) ∧ V.cell? ⟨w.heap.size, 7, none⟩ = some (.int .i64 ro) ∧ V.cell? ⟨w.heap.size, 8, none⟩ = some (.bool ok) ∧ V.cell? ⟨w.heap.size, 9, none⟩ = some (.int .i64 off) ∧ V.cell? ⟨w.heap.size, 10, none⟩ = some (.slice da dn dc) ∧ V.cell? ⟨w.heap.size, 11, none⟩ = some (.slice ea en ec)) ∧ V.cell? ⟨Zb, 0, none⟩ = some (.int .i64 zkd) ∧ V.cell? ⟨Zb, 1, none⟩ = some (.int .i64 zfr) ∧ V.cell? ⟨Zb, 2, none⟩ = some (.int .i64 zto) ∧ V.cell? ⟨Zb, 3, none⟩ = some (.int .i64 ztm) ∧ V.cell? ⟨Zb, 4, none⟩ = some (.int .i64 zix) ∧ V.cell? ⟨Zb, 5, none⟩ = some (.int .i64 zlt) ∧ V.cell? ⟨Zb, 6, none⟩ = some (.int .i64 zcm) ∧ V.cell? ⟨Zb, 7, none⟩ = some (.int .i64 zro) ∧ V.cell? ⟨Zb, 8, none⟩ = some (.bool zok) ∧ V.cell? ⟨Zb, 9, none⟩ = some (.int .i64 zoff) ∧ V.cell? ⟨Zb, 10, none⟩ = some (.slice zda zdn zdc) ∧ V.cell? ⟨Zb, 11, none⟩ = some (.slice zea zen zec)) → Below w.heap.size w V) := fun V h => B6.out.trans (h.1.out.mono B6.out.size)
      have step : Hid (∀ V V', (Hid (Below W6.heap.size W6 V) ∧ (V.cell? ⟨w.heap.size, 0, none⟩ = some (.int .i64 kd) ∧ V.cell? ⟨w.heap.size, 1, none⟩ = some (.int .i64 fr) ∧ V.cell? ⟨w.heap.size, 2, none⟩ = some (.int .i64 to) ∧ V.cell? ⟨w.heap.size, 3, none⟩ = some (.int .i64 tm) ∧ V.cell? ⟨w.heap.size, 4, none⟩ = some (.int .i64 ix) ∧ V.cell? ⟨w.heap.size, 5, none⟩ = some (.int .i64 lt) ∧ V.cell? ⟨w.heap.size, 6, none⟩ = some (.int .i64 cm) ∧ V.cell? ⟨w.heap.size, 7, none⟩ = some (.int .i64 ro) ∧ V.cell? ⟨w.heap.size, 8, none⟩ = some (.bool ok) ∧ V.cell? ⟨w.heap.size, 9, none⟩ = some (.int .i64 off) ∧ V.cell? ⟨w.heap.size, 10, none⟩ = some (.slice da dn dc) ∧ V.cell? ⟨w.heap.size, 11, none⟩ = some (.slice ea en ec)) ∧ V.cell? ⟨Zb, 0, none⟩ = some (.int .i64 zkd) ∧ V.cell? ⟨Zb, 1, none⟩ = some (.int .i64 zfr) ∧ V.cell? ⟨Zb, 2, none⟩ = some (.int .i64 zto) ∧ V.cell? ⟨Zb, 3, none⟩ = some (.int .i64 ztm) ∧ V.cell? ⟨Zb, 4, none⟩ = some (.int .i64 zix) ∧ V.cell? ⟨Zb, 5, none⟩ = some (.int .i64 zlt) ∧ V.cell? ⟨Zb, 6, none⟩ = some (.int .i64 zcm) ∧ V.cell? ⟨Zb, 7, none⟩ = some (.int .i64 zro) ∧ V.cell? ⟨Zb, 8, none⟩ = some (.bool zok) ∧ V.cell? ⟨Zb, 9, none⟩ = some (.int .i64 zoff) ∧ V.cell? ⟨Zb, 10, none⟩ = some (.slice zda zdn zdc) ∧ V.cell? ⟨Zb, 11, none⟩ = some (.slice zea zen zec)) → Below V.heap.size V V' → (Hid (Below W6.heap.size W6 V') ∧ (V'.cell? ⟨w.heap.size, 0, none⟩ = some (.int .i64 kd) ∧ V'.cell? ⟨w.heap.size, 1, none⟩ = some (.int .i64 fr) ∧ V'.cell? ⟨w.heap.size, 2, none⟩ = some (.int .i64 to) ∧ V'.cell? ⟨w.heap.size, 3, none⟩ = some (.int .i64 tm) ∧ V'.cell? ⟨w.heap.size, 4, none⟩ = some (.int .i64 ix) ∧ V'.cell? ⟨w.heap.size, 5, none⟩ = some (.int .i64 lt) ∧ V'.cell? ⟨w.heap.size, 6, none⟩ = some (.int .i64 cm) ∧ V'.cell? ⟨w.heap.size, 7, none⟩ = some (.int .i64 ro) ∧ V'.cell? ⟨w.heap.size, 8, none⟩ = some (.bool ok) ∧ V'.cell? ⟨w.heap.size, 9, none⟩ = some (.int .i64 off) ∧ V'.cell? ⟨w.heap.size, 10, none⟩ = some (.slice da dn dc) ∧ V'.cell? ⟨w.heap.size, 11, none⟩ = some (.slice ea en ec)) ∧ V'.cell? ⟨Zb, 0, none⟩ = some (.int .i64 zkd) ∧ V'.cell? ⟨Zb, 1, none⟩ = some (.int .i64 zfr) ∧ V'.cell? ⟨Zb, 2, none⟩ = some (.int .i64 zto) ∧ V'.cell? ⟨Zb, 3, none⟩ = some (.int .i64 ztm) ∧ V'.cell? ⟨Zb, 4, none⟩ = some (.int .i64 zix) ∧ V'.cell? ⟨Zb, 5, none⟩ = some (.int .i64 zlt) ∧ V'.cell? ⟨Zb, 6, none⟩ = some (.int .i64 zcm) ∧ V'.cell? ⟨Zb, 7, none⟩ = some (.int .i64 zro) ∧ V'.cell? ⟨Zb, 8, none⟩ = some (.bool zok) ∧ V'.cell? ⟨Zb, 9, none⟩ = some (.int .i64 zoff) ∧ V'.cell? ⟨Zb, 10, none⟩ = some (.slice zda zdn zdc) ∧ V'.cell? ⟨Zb, 11, none⟩ = some (.slice zea zen zec))) := fun V V' h b => cont.out V' (h.1.out.trans (b.mono h.1.out.size))
      have cv : Hid (∀ (V V' : World) (e : Ending), (Hid (Below W6.heap.size W6 V) ∧ (V.cell? ⟨w.heap.size, 0, none⟩ = some (.int .i64 kd) ∧ V.cell? ⟨w.heap.size, 1, none⟩ = some (.int .i64 fr) ∧ V.cell? ⟨w.heap.size, 2, none⟩ = some (.int .i64 to) ∧ V.cell? ⟨w.heap.size, 3, none⟩ = some (.int .i64 tm) ∧ V.cell? ⟨w.heap.size, 4, none⟩ = some (.int .i64 ix) ∧ V.cell? ⟨w.heap.size, 5, none⟩ = some (.int .i64 lt) ∧ V.cell? ⟨w.heap.size, 6, none⟩ = some (.int .i64 cm) ∧ V.cell? ⟨w.heap.size, 7, none⟩ = some (.int .i64 ro) ∧ V.cell? ⟨w.heap.size, 8, none⟩ = some (.bool ok) ∧ V.cell? ⟨w.heap.size, 9, none⟩ = some (.int .i64 off) ∧ V.cell? ⟨w.heap.size, 10, none⟩ = some (.slice da dn dc) ∧ V.cell? ⟨w.heap.size, 11, none⟩ = some (.slice ea en ec)) ∧ V.cell? ⟨Zb, 0, none⟩ = some (.int .i64 zkd) ∧ V.cell? ⟨Zb, 1, none⟩ = some (.int .i64 zfr) ∧ V.cell? ⟨Zb, 2, none⟩ = some (.int .i64 zto) ∧ V.cell? ⟨Zb, 3, none⟩ = some (.int .i64 ztm) ∧ V.cell? ⟨Zb, 4, none⟩ = some (.int .i64 zix) ∧ V.cell? ⟨Zb, 5, none⟩ = some (.int .i64 zlt) ∧ V.cell? ⟨Zb, 6, none⟩ = some (.int .i64 zcm) ∧ V.cell? ⟨Zb, 7, none⟩ = some (.int .i64 zro) ∧ V.cell? ⟨Zb, 8, none⟩ = some (.bool zok) ∧ V.cell? ⟨Zb, 9, none⟩ = some (.int .i64 zoff) ∧ V.cell? ⟨Zb, 10, none⟩ = some (.slice zda zdn zdc) ∧ V.cell? ⟨Zb, 11, none⟩ = some (.slice zea zen zec)) → RW V V' e (PK.encM msg) → (∃ a n c, e = .returned (.slice a n c) ∧ Hid (IsB V' (.slice a n c) (PK.encM msg))) ∧ (Hid (Below W6.heap.size W6 V') ∧ (V'.cell? ⟨w.heap.size, 0, none⟩ = some (.int .i64 kd) ∧ V'.cell? ⟨w.heap.size, 1, none⟩ = some (.int .i64 fr) ∧ V'.cell? ⟨w.heap.size, 2, none⟩ = some (.int .i64 to) ∧ V'.cell? ⟨w.heap.size, 3, none⟩ = some (.int .i64 tm) ∧ V'.cell? ⟨w.heap.size, 4, none⟩ = some (.int .i64 ix) ∧ V'.cell? ⟨w.heap.size, 5, none⟩ = some (.int .i64 lt) ∧ V'.cell? ⟨w.heap.size, 6, none⟩ = some (.int .i64 cm) ∧ V'.cell? ⟨w.heap.size, 7, none⟩ = some (.int .i64 ro) ∧ V'.cell? ⟨w.heap.size, 8, none⟩ = some (.bool ok) ∧ V'.cell? ⟨w.heap.size, 9, none⟩ = some (.int .i64 off) ∧ V'.cell? ⟨w.heap.size, 10, none⟩ = some (.slice da dn dc) ∧ V'.cell? ⟨w.heap.size, 11, none⟩ = some (.slice ea en ec)) ∧ V'.cell? ⟨Zb, 0, none⟩ = some (.int .i64 zkd) ∧ V'.cell? ⟨Zb, 1, none⟩ = some (.int .i64 zfr) ∧ V'.cell? ⟨Zb, 2, none⟩ = some (.int .i64 zto) ∧ V'.cell? ⟨Zb, 3, none⟩ = some (.int .i64 ztm) ∧ V'.cell? ⟨Zb, 4, none⟩ = some (.int .i64 zix) ∧ V'.cell? ⟨Zb, 5, none⟩ = some (.int .i64 zlt) ∧ V'.cell? ⟨Zb, 6, none⟩ = some (.int .i64 zcm) ∧ V'.cell? ⟨Zb, 7, none⟩ = some (.int .i64 zro) ∧ V'.cell? ⟨Zb, 8, none⟩ = some (.bool zok) ∧ V'.cell? ⟨Zb, 9, none⟩ = some (.int .i64 zoff) ∧ V'.cell? ⟨Zb, 10, none⟩ = some (.slice zda zdn zdc) ∧ V'.cell? ⟨Zb, 11, none⟩ = some (.slice zea zen zec)) ∧ Hid (Below V.heap.size V V')) := fun V V' e h ⟨⟨a, n, c, e1, _, e2, _⟩, e3⟩ => ⟨⟨a, n, c, e1, Lib.hid e2.isB⟩, step.out V V' h e3, Lib.hid e3⟩
      have C16 : Hid (∀ V, (Hid (Below W6.heap.size W6 V) ∧ (V.cell? ⟨w.heap.size, 0, none⟩ = some (.int .i64 kd) ∧ V.cell? ⟨w.heap.size, 1, none⟩ = some (.int .i64 fr) ∧ V.cell? ⟨w.heap.size, 2, none⟩ = some (.int .i64 to) ∧ V.cell? ⟨w.heap.size, 3, none⟩ = some (.int .i64 tm) ∧ V.cell? ⟨w.heap.size, 4, none⟩ = some (.int .i64 ix) ∧ V.cell? ⟨w.heap.size, 5, none⟩ = some (.int .i64 lt) ∧ V.cell? ⟨w.heap.size, 6, none⟩ = some (.int .i64 cm) ∧ V.cell? ⟨w.heap.size, 7, none⟩ = some (.int .i64 ro) ∧ V.cell? ⟨w.heap.size, 8, none⟩ = some (.bool ok) ∧ V.cell? ⟨w.heap.size, 9, none⟩ = some (.int .i64 off) ∧ V.cell? ⟨w.heap.size, 10, none⟩ = some (.slice da dn dc) ∧ V.cell? ⟨w.heap.size, 11, none⟩ = some (.slice ea en ec)) ∧ V.cell? ⟨Zb, 0, none⟩ = some (.int .i64 zkd) ∧ V.cell? ⟨Zb, 1, none⟩ = some (.int .i64 zfr) ∧ V.cell? ⟨Zb, 2, none⟩ = some (.int .i64 zto) ∧ V.cell? ⟨Zb, 3, none⟩ = some (.int .i64 ztm) ∧ V.cell? ⟨Zb, 4, none⟩ = some (.int .i64 zix) ∧ V.cell? ⟨Zb, 5, none⟩ = some (.int .i64 zlt) ∧ V.cell? ⟨Zb, 6, none⟩ = some (.int .i64 zcm) ∧ V.cell? ⟨Zb, 7, none⟩ = some (.int .i64 zro) ∧ V.cell? ⟨Zb, 8, none⟩ = some (.bool zok) ∧ V.cell? ⟨Zb, 9, none⟩ = some (.int .i64 zoff) ∧ V.cell? ⟨Zb, 10, none⟩ = some (.slice zda zdn zdc) ∧ V.cell? ⟨Zb, 11, none⟩ = some (.slice zea zen zec)) → Calls Tryz.prog 16 #[.agg #[.int .i64 zkd, .int .i64 zfr, .int .i64 zto, .int .i64 ztm, .int .i64 zix, .int .i64 zlt, .int .i64 zcm, .int .i64 zro, .bool zok, .int .i64 zoff, .slice zda zdn zdc, .slice zea zen zec]] V fun e w' => (∃ a n c, e = .returned (.slice a n c) ∧ Hid (IsB w' (.slice a n c) (PK.encM msg))) ∧ (Hid (Below W6.heap.size W6 w') ∧ (w'.cell? ⟨w.heap.size, 0, none⟩ = some (.int .i64 kd) ∧ w'.cell? ⟨w.heap.size, 1, none⟩ = some (.int .i64 fr) ∧ w'.cell? ⟨w.heap.size, 2, none⟩ = some (.int .i64 to) ∧ w'.cell? ⟨w.heap.size, 3, none⟩ = some (.int .i64 tm) ∧ w'.cell? ⟨w.heap.size, 4, none⟩ = some (.int .i64 ix) ∧ w'.cell? ⟨w.heap.size, 5, none⟩ = some (.int .i64 lt) ∧ w'.cell? ⟨w.heap.size, 6, none⟩ = some (.int .i64 cm) ∧ w'.cell? ⟨w.heap.size, 7, none⟩ = some (.int .i64 ro) ∧ w'.cell? ⟨w.heap.size, 8, none⟩ = some (.bool ok) ∧ w'.cell? ⟨w.heap.size, 9, none⟩ = some (.int .i64 off) ∧ w'.cell? ⟨w.heap.size, 10, none⟩ = some (.slice da dn dc) ∧ w'.cell? ⟨w.heap.size, 11, none⟩ = some (.slice ea en ec)) ∧ w'.cell? ⟨Zb, 0, none⟩ = some (.int .i64 zkd) ∧ w'.cell? ⟨Zb, 1, none⟩ = some (.int .i64 zfr) ∧ w'.cell? ⟨Zb, 2, none⟩ = some (.int .i64 zto) ∧ w'.cell? ⟨Zb, 3, none⟩ = some (.int .i64 ztm) ∧ w'.cell? ⟨Zb, 4, none⟩ = some (.int .i64 zix) ∧ w'.cell? ⟨Zb, 5, none⟩ = some (.int .i64 zlt) ∧ w'.cell? ⟨Zb, 6, none⟩ = some (.int .i64 zcm) ∧ w'.cell? ⟨Zb, 7, none⟩ = some (.int .i64 zro) ∧ w'.cell? ⟨Zb, 8, none⟩ = some (.bool zok) ∧ w'.cell? ⟨Zb, 9, none⟩ = some (.int .i64 zoff) ∧ w'.cell? ⟨Zb, 10, none⟩ = some (.slice zda zdn zdc) ∧ w'.cell? ⟨Zb, 11, none⟩ = some (.slice zea zen zec)) ∧ Hid (Below V.heap.size V w')) := fun V h => (HEz.out V (bW6.trans (h.1.out.mono bW6.size))).mono fun e w' r => cv.out V w' e h r
      have C14 : Hid (∀ V, (Hid (Below W6.heap.size W6 V) ∧ (V.cell? ⟨w.heap.size, 0, none⟩ = some (.int .i64 kd) ∧ V.cell? ⟨w.heap.size, 1, none⟩ = some (.int .i64 fr) ∧ V.cell? ⟨w.heap.size, 2, none⟩ = some (.int .i64 to) ∧ V.cell? ⟨w.heap.size, 3, none⟩ = some (.int .i64 tm) ∧ V.cell? ⟨w.heap.size, 4, none⟩ = some (.int .i64 ix) ∧ V.cell? ⟨w.heap.size, 5, none⟩ = some (.int .i64 lt) ∧ V.cell? ⟨w.heap.size, 6, none⟩ = some (.int .i64 cm) ∧ V.cell? ⟨w.heap.size, 7, none⟩ = some (.int .i64 ro) ∧ V.cell? ⟨w.heap.size, 8, none⟩ = some (.bool ok) ∧ V.cell? ⟨w.heap.size, 9, none⟩ = some (.int .i64 off) ∧ V.cell? ⟨w.heap.size, 10, none⟩ = some (.slice da dn dc) ∧ V.cell? ⟨w.heap.size, 11, none⟩ = some (.slice ea en ec)) ∧ V.cell? ⟨Zb, 0, none⟩ = some (.int .i64 zkd) ∧ V.cell? ⟨Zb, 1, none⟩ = some (.int .i64 zfr) ∧ V.cell? ⟨Zb, 2, none⟩ = some (.int .i64 zto) ∧ V.cell? ⟨Zb, 3, none⟩ = some (.int .i64 ztm) ∧ V.cell? ⟨Zb, 4, none⟩ = some (.int .i64 zix) ∧ V.cell? ⟨Zb, 5, none⟩ = some (.int .i64 zlt) ∧ V.cell? ⟨Zb, 6, none⟩ = some (.int .i64 zcm) ∧ V.cell? ⟨Zb, 7, none⟩ = some (.int .i64 zro) ∧ V.cell? ⟨Zb, 8, none⟩ = some (.bool zok) ∧ V.cell? ⟨Zb, 9, none⟩ = some (.int .i64 zoff) ∧ V.cell? ⟨Zb, 10, none⟩ = some (.slice zda zdn zdc) ∧ V.cell? ⟨Zb, 11, none⟩ = some (.slice zea zen zec)) → Calls Tryz.prog 14 #[.agg #[.int .i64 kd, .int .i64 fr, .int .i64 to, .int .i64 tm, .int .i64 ix, .int .i64 lt, .int .i64 cm, .int .i64 ro, .bool ok, .int .i64 off, .slice da dn dc, .slice ea en ec]] V fun e w' => (∃ y : RM, e = .returned y.val ∧ Hid (y.Fit w' ∧ y.msg = msg)) ∧ (Hid (Below W6.heap.size W6 w') ∧ (w'.cell? ⟨w.heap.size, 0, none⟩ = some (.int .i64 kd) ∧ w'.cell? ⟨w.heap.size, 1, none⟩ = some (.int .i64 fr) ∧ w'.cell? ⟨w.heap.size, 2, none⟩ = some (.int .i64 to) ∧ w'.cell? ⟨w.heap.size, 3, none⟩ = some (.int .i64 tm) ∧ w'.cell? ⟨w.heap.size, 4, none⟩ = some (.int .i64 ix) ∧ w'.cell? ⟨w.heap.size, 5, none⟩ = some (.int .i64 lt) ∧ w'.cell? ⟨w.heap.size, 6, none⟩ = some (.int .i64 cm) ∧ w'.cell? ⟨w.heap.size, 7, none⟩ = some (.int .i64 ro) ∧ w'.cell? ⟨w.heap.size, 8, none⟩ = some (.bool ok) ∧ w'.cell? ⟨w.heap.size, 9, none⟩ = some (.int .i64 off) ∧ w'.cell? ⟨w.heap.size, 10, none⟩ = some (.slice da dn dc) ∧ w'.cell? ⟨w.heap.size, 11, none⟩ = some (.slice ea en ec)) ∧ w'.cell? ⟨Zb, 0, none⟩ = some (.int .i64 zkd) ∧ w'.cell? ⟨Zb, 1, none⟩ = some (.int .i64 zfr) ∧ w'.cell? ⟨Zb, 2, none⟩ = some (.int .i64 zto) ∧ w'.cell? ⟨Zb, 3, none⟩ = some (.int .i64 ztm) ∧ w'.cell? ⟨Zb, 4, none⟩ = some (.int .i64 zix) ∧ w'.cell? ⟨Zb, 5, none⟩ = some (.int .i64 zlt) ∧ w'.cell? ⟨Zb, 6, none⟩ = some (.int .i64 zcm) ∧ w'.cell? ⟨Zb, 7, none⟩ = some (.int .i64 zro) ∧ w'.cell? ⟨Zb, 8, none⟩ = some (.bool zok) ∧ w'.cell? ⟨Zb, 9, none⟩ = some (.int .i64 zoff) ∧ w'.cell? ⟨Zb, 10, none⟩ = some (.slice zda zdn zdc) ∧ w'.cell? ⟨Zb, 11, none⟩ = some (.slice zea zen zec)) ∧ Hid (Below V.heap.size V w')) := fun V h => (HG.out V (fin.out V h) HEe.out).mono fun e w' ⟨⟨y, e1, e2, e3⟩, e4⟩ => ⟨⟨y, e1, Lib.hid ⟨e2, e3⟩⟩, step.out V w' h e4, Lib.hid e4⟩
      have C17 : Hid (∀ V (y : RM), (Hid (Below W6.heap.size W6 V) ∧ (V.cell? ⟨w.heap.size, 0, none⟩ = some (.int .i64 kd) ∧ V.cell? ⟨w.heap.size, 1, none⟩ = some (.int .i64 fr) ∧ V.cell? ⟨w.heap.size, 2, none⟩ = some (.int .i64 to) ∧ V.cell? ⟨w.heap.size, 3, none⟩ = some (.int .i64 tm) ∧ V.cell? ⟨w.heap.size, 4, none⟩ = some (.int .i64 ix) ∧ V.cell? ⟨w.heap.size, 5, none⟩ = some (.int .i64 lt) ∧ V.cell? ⟨w.heap.size, 6, none⟩ = some (.int .i64 cm) ∧ V.cell? ⟨w.heap.size, 7, none⟩ = some (.int .i64 ro) ∧ V.cell? ⟨w.heap.size, 8, none⟩ = some (.bool ok) ∧ V.cell? ⟨w.heap.size, 9, none⟩ = some (.int .i64 off) ∧ V.cell? ⟨w.heap.size, 10, none⟩ = some (.slice da dn dc) ∧ V.cell? ⟨w.heap.size, 11, none⟩ = some (.slice ea en ec)) ∧ V.cell? ⟨Zb, 0, none⟩ = some (.int .i64 zkd) ∧ V.cell? ⟨Zb, 1, none⟩ = some (.int .i64 zfr) ∧ V.cell? ⟨Zb, 2, none⟩ = some (.int .i64 zto) ∧ V.cell? ⟨Zb, 3, none⟩ = some (.int .i64 ztm) ∧ V.cell? ⟨Zb, 4, none⟩ = some (.int .i64 zix) ∧ V.cell? ⟨Zb, 5, none⟩ = some (.int .i64 zlt) ∧ V.cell? ⟨Zb, 6, none⟩ = some (.int .i64 zcm) ∧ V.cell? ⟨Zb, 7, none⟩ = some (.int .i64 zro) ∧ V.cell? ⟨Zb, 8, none⟩ = some (.bool zok) ∧ V.cell? ⟨Zb, 9, none⟩ = some (.int .i64 zoff) ∧ V.cell? ⟨Zb, 10, none⟩ = some (.slice zda zdn zdc) ∧ V.cell? ⟨Zb, 11, none⟩ = some (.slice zea zen zec)) → Hid (y.Fit V ∧ y.msg = msg) → Calls Tryz.prog 16 #[y.val] V fun e w' => (∃ a n c, e = .returned (.slice a n c) ∧ Hid (IsB w' (.slice a n c) (PK.encM msg))) ∧ (Hid (Below W6.heap.size W6 w') ∧ (w'.cell? ⟨w.heap.size, 0, none⟩ = some (.int .i64 kd) ∧ w'.cell? ⟨w.heap.size, 1, none⟩ = some (.int .i64 fr) ∧ w'.cell? ⟨w.heap.size, 2, none⟩ = some (.int .i64 to) ∧ w'.cell? ⟨w.heap.size, 3, none⟩ = some (.int .i64 tm) ∧ w'.cell? ⟨w.heap.size, 4, none⟩ = some (.int .i64 ix) ∧ w'.cell? ⟨w.heap.size, 5, none⟩ = some (.int .i64 lt) ∧ w'.cell? ⟨w.heap.size, 6, none⟩ = some (.int .i64 cm) ∧ w'.cell? ⟨w.heap.size, 7, none⟩ = some (.int .i64 ro) ∧ w'.cell? ⟨w.heap.size, 8, none⟩ = some (.bool ok) ∧ w'.cell? ⟨w.heap.size, 9, none⟩ = some (.int .i64 off) ∧ w'.cell? ⟨w.heap.size, 10, none⟩ = some (.slice da dn dc) ∧ w'.cell? ⟨w.heap.size, 11, none⟩ = some (.slice ea en ec)) ∧ w'.cell? ⟨Zb, 0, none⟩ = some (.int .i64 zkd) ∧ w'.cell? ⟨Zb, 1, none⟩ = some (.int .i64 zfr) ∧ w'.cell? ⟨Zb, 2, none⟩ = some (.int .i64 zto) ∧ w'.cell? ⟨Zb, 3, none⟩ = some (.int .i64 ztm) ∧ w'.cell? ⟨Zb, 4, none⟩ = some (.int .i64 zix) ∧ w'.cell? ⟨Zb, 5, none⟩ = some (.int .i64 zlt) ∧ w'.cell? ⟨Zb, 6, none⟩ = some (.int .i64 zcm) ∧ w'.cell? ⟨Zb, 7, none⟩ = some (.int .i64 zro) ∧ w'.cell? ⟨Zb, 8, none⟩ = some (.bool zok) ∧ w'.cell? ⟨Zb, 9, none⟩ = some (.int .i64 zoff) ∧ w'.cell? ⟨Zb, 10, none⟩ = some (.slice zda zdn zdc) ∧ w'.cell? ⟨Zb, 11, none⟩ = some (.slice zea zen zec)) ∧ Hid (Below V.heap.size V w')) := fun V y h hy => (HEn.out V y (fin.out V h) hy.out.1 hy.out.2 HRm.out).mono fun e w' r => cv.out V w' e h r
      have S0 := cont.out W6.drew (Below.refl _ _).drew
      generalize PK.encM msg = EM at *
      have hn0 : ((n1 : Int) == 0) = false := by rw [beq_eq_false_iff_ne]; have := Hsl.out; have := HN1.out; omega
      go_wp2_with fail
      rw [← hW6]
      try rw [hZb]
      clear hW6 hZb bW6 hsz6 hlt6 g6 gz gW5 cv cont HEz HEn HG Hzf I5 B5 p0 p1 p2 p3 p4 p5 p6 p7 p8 p9 pa pb q0 q1 q2 q3 q4 q5 q6 q7 q8 q9 qa qb
      refine wp_region_noPanic ?_
      refine wp_region_held_drew (S := fun V => (Hid (Below W6.heap.size W6 V) ∧ (V.cell? ⟨w.heap.size, 0, none⟩ = some (.int .i64 kd) ∧ V.cell? ⟨w.heap.size, 1, none⟩ = some (.int .i64 fr) ∧ V.cell? ⟨w.heap.size, 2, none⟩ = some (.int .i64 to) ∧ V.cell? ⟨w.heap.size, 3, none⟩ = some (.int .i64 tm) ∧ V.cell? ⟨w.heap.size, 4, none⟩ = some (.int .i64 ix) ∧ V.cell? ⟨w.heap.size, 5, none⟩ = some (.int .i64 lt) ∧ V.cell? ⟨w.heap.size, 6, none⟩ = some (.int .i64 cm) ∧ V.cell? ⟨w.heap.size, 7, none⟩ = some (.int .i64 ro) ∧ V.cell? ⟨w.heap.size, 8, none⟩ = some (.bool ok) ∧ V.cell? ⟨w.heap.size, 9, none⟩ = some (.int .i64 off) ∧ V.cell? ⟨w.heap.size, 10, none⟩ = some (.slice da dn dc) ∧ V.cell? ⟨w.heap.size, 11, none⟩ = some (.slice ea en ec)) ∧ V.cell? ⟨Zb, 0, none⟩ = some (.int .i64 zkd) ∧ V.cell? ⟨Zb, 1, none⟩ = some (.int .i64 zfr) ∧ V.cell? ⟨Zb, 2, none⟩ = some (.int .i64 zto) ∧ V.cell? ⟨Zb, 3, none⟩ = some (.int .i64 ztm) ∧ V.cell? ⟨Zb, 4, none⟩ = some (.int .i64 zix) ∧ V.cell? ⟨Zb, 5, none⟩ = some (.int .i64 zlt) ∧ V.cell? ⟨Zb, 6, none⟩ = some (.int .i64 zcm) ∧ V.cell? ⟨Zb, 7, none⟩ = some (.int .i64 zro) ∧ V.cell? ⟨Zb, 8, none⟩ = some (.bool zok) ∧ V.cell? ⟨Zb, 9, none⟩ = some (.int .i64 zoff) ∧ V.cell? ⟨Zb, 10, none⟩ = some (.slice zda zdn zdc) ∧ V.cell? ⟨Zb, 11, none⟩ = some (.slice zea zen zec))) (by kernel_rfl) S0 (fun hHeld => ?_)
      refine wpAnyH_take (i := 0) (v := ?hva0) (List.getElem?_toArray.trans rfl) (by kernel_rfl) (by kernel_rfl) (by kernel_rfl) (fun _ _ _ h => h) (Or.inl ⟨by rfl, ?hya0⟩) (by assumption) ?hra0
      case hya0 => (intro wt hSw; (try dsimp only at hSw); go_simp; try (with_reducible rfl))
      try simp only [Act.put, List.setIfInBounds_toArray, List.set_cons_zero, List.set_cons_succ]
      refine wpAnyH_take (i := 1) (v := ?hva1) (List.getElem?_toArray.trans rfl) (by kernel_rfl) (by kernel_rfl) (by kernel_rfl) (fun _ _ _ h => h) (Or.inl ⟨by rfl, ?hya1⟩) (by assumption) ?hra1
      case hya1 => (intro wt hSw; (try dsimp only at hSw); go_simp; try (with_reducible rfl))
      try simp only [Act.put, List.setIfInBounds_toArray, List.set_cons_zero, List.set_cons_succ]
      refine wpAnyH_take (i := 2) (v := ?hva2) (List.getElem?_toArray.trans rfl) (by kernel_rfl) (by kernel_rfl) (by kernel_rfl) (fun _ _ _ h => h) (Or.inl ⟨by rfl, ?hya2⟩) (by assumption) ?hra2
      case hya2 => (intro wt hSw; (try dsimp only at hSw); go_simp; try (with_reducible rfl))
      try simp only [Act.put, List.setIfInBounds_toArray, List.set_cons_zero, List.set_cons_succ]
      refine wpAnyH_take (i := 3) (v := ?hva3) (List.getElem?_toArray.trans rfl) (by kernel_rfl) (by kernel_rfl) (by kernel_rfl) (fun _ _ _ h => h) (Or.inl ⟨by rfl, ?hya3⟩) (by assumption) ?hra3
      case hya3 => (intro wt hSw; (try dsimp only at hSw); go_simp; try (with_reducible rfl))
      try simp only [Act.put, List.setIfInBounds_toArray, List.set_cons_zero, List.set_cons_succ]
      refine wpAnyH_take (i := 4) (v := ?hva4) (List.getElem?_toArray.trans rfl) (by kernel_rfl) (by kernel_rfl) (by kernel_rfl) (fun _ _ _ h => h) (Or.inl ⟨by rfl, ?hya4⟩) (by assumption) ?hra4
      case hya4 => (intro wt hSw; (try dsimp only at hSw); go_simp; try (with_reducible rfl))
      try simp only [Act.put, List.setIfInBounds_toArray, List.set_cons_zero, List.set_cons_succ]
      refine wpAnyH_take (i := 5) (v := ?hva5) (List.getElem?_toArray.trans rfl) (by kernel_rfl) (by kernel_rfl) (by kernel_rfl) (fun _ _ _ h => h) (Or.inl ⟨by rfl, ?hya5⟩) (by assumption) ?hra5
      case hya5 => (intro wt hSw; (try dsimp only at hSw); go_simp; try (with_reducible rfl))
      try simp only [Act.put, List.setIfInBounds_toArray, List.set_cons_zero, List.set_cons_succ]
      refine wpAnyH_take (i := 6) (v := ?hva6) (List.getElem?_toArray.trans rfl) (by kernel_rfl) (by kernel_rfl) (by kernel_rfl) (fun _ _ _ h => h) (Or.inl ⟨by rfl, ?hya6⟩) (by assumption) ?hra6
      case hya6 => (intro wt hSw; (try dsimp only at hSw); go_simp; try (with_reducible rfl))
      try simp only [Act.put, List.setIfInBounds_toArray, List.set_cons_zero, List.set_cons_succ]
      refine wpAnyH_take (i := 7) (v := ?hva7) (List.getElem?_toArray.trans rfl) (by kernel_rfl) (by kernel_rfl) (by kernel_rfl) (fun _ _ _ h => h) (Or.inl ⟨by rfl, ?hya7⟩) (by assumption) ?hra7
      case hya7 => (intro wt hSw; (try dsimp only at hSw); go_simp; try (with_reducible rfl))
      try simp only [Act.put, List.setIfInBounds_toArray, List.set_cons_zero, List.set_cons_succ]
      refine wpAnyH_take (i := 8) (v := ?hva8) (List.getElem?_toArray.trans rfl) (by kernel_rfl) (by kernel_rfl) (by kernel_rfl) (fun _ _ _ h => h) (Or.inl ⟨by rfl, ?hya8⟩) (by assumption) ?hra8
      case hya8 => (intro wt hSw; (try dsimp only at hSw); go_simp; try (with_reducible rfl))
      try simp only [Act.put, List.setIfInBounds_toArray, List.set_cons_zero, List.set_cons_succ]
      refine wpAnyH_take (i := 11) (v := ?hva11) (List.getElem?_toArray.trans rfl) (by kernel_rfl) (by kernel_rfl) (by kernel_rfl) (fun _ _ _ h => h) (Or.inl ⟨by rfl, ?hya11⟩) (by assumption) ?hra11
      case hya11 => (intro wt hSw; (try dsimp only at hSw); go_simp; try (with_reducible rfl))
      try simp only [Act.put, List.setIfInBounds_toArray, List.set_cons_zero, List.set_cons_succ]
      refine wpAnyH_ready (rs := [9]) (by kernel_rfl) (by simp) ?_
      refine AllReadyH.cons (List.getElem?_toArray.trans rfl) (fun K hK => ?_) (AllReadyH.nil)
      go_simp
      go_at_call 16
      refine (C16.out _ ?_).mono ?_
      assumption
      rintro e vx ⟨⟨a5, n5, c5, rfl, IA⟩, kx, bB⟩
      clear bB
      try (go_wp2_with fail)
      refine hK.out _ _ ?_ (fun hHeld => ?_)
      · (try dsimp only)
        assumption
      clear hK K
      try simp only [Act.put, List.setIfInBounds_toArray, List.set_cons_zero, List.set_cons_succ]
      refine wpAnyH_ready (rs := [10, 12]) (by kernel_rfl) (by simp) ?_
      refine AllReadyH.cons (List.getElem?_toArray.trans rfl) (fun K hK => ?_) (AllReadyH.cons (List.getElem?_toArray.trans rfl) (fun K hK => ?_) (AllReadyH.nil))
      · have hcv := run_toStr (P := Tryz.prog) T22 U9 IA.out
        go_simp
        try (go_wp2_with fail)
        refine hK.out _ _ ?_ (fun hHeld => ?_)
        · (try dsimp only)
          assumption
        clear hK K
        try simp only [Act.put, List.setIfInBounds_toArray, List.set_cons_zero, List.set_cons_succ]
        clear hcv IA
        refine wpAnyH_ready (rs := [12]) (by kernel_rfl) (by simp) ?_
        refine AllReadyH.cons (List.getElem?_toArray.trans rfl) (fun K hK => ?_) (AllReadyH.nil)
        go_simp
        go_at_call 14
        refine (C14.out _ ?_).mono ?_
        assumption
        rintro e vx ⟨⟨y2, rfl, hy2⟩, kx, bB⟩
        clear bB
        try (go_wp2_with fail)
        refine hK.out _ _ ?_ (fun hHeld => ?_)
        · (try dsimp only)
          assumption
        clear hK K
        try simp only [Act.put, List.setIfInBounds_toArray, List.set_cons_zero, List.set_cons_succ]
        refine wpAnyH_ready (rs := [13]) (by kernel_rfl) (by simp) ?_
        refine AllReadyH.cons (List.getElem?_toArray.trans rfl) (fun K hK => ?_) (AllReadyH.nil)
        go_simp
        go_at_call 16
        refine (C17.out _ _ ?_ hy2).mono ?_
        assumption
        rintro e vx ⟨⟨a6, n6, c6, rfl, IB⟩, kx, bB⟩
        clear bB hy2
        try (go_wp2_with fail)
        refine hK.out _ _ ?_ (fun hHeld => ?_)
        · (try dsimp only)
          assumption
        clear hK K
        try simp only [Act.put, List.setIfInBounds_toArray, List.set_cons_zero, List.set_cons_succ]
        refine wpAnyH_ready (rs := [14]) (by kernel_rfl) (by simp) ?_
        refine AllReadyH.cons (List.getElem?_toArray.trans rfl) (fun K hK => ?_) (AllReadyH.nil)
        have hcv := run_toStr (P := Tryz.prog) T22 U9 IB.out
        go_simp
        try (go_wp2_with fail)
        refine hK.out _ _ ?_ (fun hHeld => ?_)
        · (try dsimp only)
          assumption
        clear hK K
        try simp only [Act.put, List.setIfInBounds_toArray, List.set_cons_zero, List.set_cons_succ]
        clear hcv IB
        refine wpAnyH_take (i := 15) (v := ?hve115) (List.getElem?_toArray.trans rfl) (by kernel_rfl) (by kernel_rfl) (by kernel_rfl) (fun _ _ _ h => h) (Or.inl ⟨by rfl, ?hye115⟩) (by assumption) ?hre115
        case hye115 => (intro wt hSw; (try dsimp only at hSw); go_simp; try (with_reducible rfl))
        try simp only [Act.put, List.setIfInBounds_toArray, List.set_cons_zero, List.set_cons_succ]
        refine wpAnyH_take (i := 16) (v := ?hve116) (List.getElem?_toArray.trans rfl) (by kernel_rfl) (by kernel_rfl) (by kernel_rfl) (fun _ _ _ h => h) (Or.inl ⟨by rfl, ?hye116⟩) (by assumption) ?hre116
        case hye116 => (intro wt hSw; (try dsimp only at hSw); go_simp; try (with_reducible rfl))
        try simp only [Act.put, List.setIfInBounds_toArray, List.set_cons_zero, List.set_cons_succ]
        refine wpAnyH_done (by kernel_rfl) ?_ _
        refine NoPanic.normal ?_
        have I7 := Lib.hid (I6.out.below hHeld.1.out)
        have B7 := Lib.hid (fin.out vx hHeld)
        clear hHeld S0 step fin I6 B6
        obtain ⟨u, hu⟩ : ∃ u, u = PK.u64 ak := ⟨_, rfl⟩
        have hwa := wrap_u64_nat ak
        rw [← hu] at hwa
        have hn5 : 5 ≤ n1 := by have := Hsl.out; have := HN1.out; omega
        have hn47 : n1 + 1 ≤ 140737488355328 := by have := Hsl.out; have := HRm.out; have := HN1.out; simp only [roomB] at *; omega
        obtain ⟨q, hq⟩ : ∃ q, q = u % n1 := ⟨_, rfl⟩
        have hqn : q < n1 := by rw [hq]; exact Nat.mod_lt _ (by omega)
        have hwn : IntKind.u64.wrap (n1 : Int) = (n1 : Int) := by rw [IntKind.wrap_u64]; omega
        have hqe : (u : Int) % (n1 : Int) = (q : Int) := by rw [hq]; omega
        have hwq : IntKind.i64.wrap (q : Int) = (q : Int) := by rw [IntKind.wrap_i64]; omega
        have hnz : ¬ ((n1 : Int) = 0) := by omega
        have hcap : n1 ≤ c1 := by obtain ⟨_, cap', he', h1, _⟩ := I7.out; simp at he'; have := HN1.out; omega
        have hs1 : ∀ W : World, (Instr.sliceAt 22 (.slice a1 n1 c1) none (some (.int .i64 (q : Int))) none).run Tryz.prog W = .ok (.slice (cutAt a1 0 c1) q c1) W := fun W => by
          rw [run_sliceAt_h T22 a1 n1 c1 (q : Int) (by omega) (by omega) W]
          congr 2
        have ic := (isB_cut I7.out 0 q (Nat.zero_le _) (by have := HN1.out; omega)).1
        rw [Nat.sub_zero, Nat.sub_zero, List.drop_zero] at ic
        obtain ⟨ac, hac⟩ : ∃ ac, ac = cutAt a1 0 c1 := ⟨_, rfl⟩
        rw [← hac] at ic
        simp only [← hac] at hs1
        have HO7 := HOp.out vx ac q c1 (SM.take q) B7.out (by rw [List.length_take]; have := HN1.out; omega) ic (by rw [List.length_take]; have := HRo.out; omega)
        rw [Hcut.out q (by have := HN1.out; omega)] at HO7
        have HO8 := Lib.hid HO7
        have Hqn := Lib.hid hqn
        have Hn47 := Lib.hid hn47
        clear hu hq ic HO7 hac hcap Hcut Hopen
        simp only [errV] at HNum
        try simp only [Nat.cast_ofNat, Int.reduceAdd] at HNum
        go_wp2_with fail
        refine HO8.out.mono ?_
        rintro e u1 ⟨⟨_, rfl⟩ | ⟨z9, _, _, hz9⟩, b8⟩
        rotate_left
        · cases hz9
        have I8 := Lib.hid (I7.out.below b8)
        have B8 : Hid (Below w.heap.size w u1) := B7.out.trans (b8.mono B7.out.size)
        clear b8 HO8 I7 B7 hs1 hwa hqe hwn
        simp only [errV, zeroM]
        obtain ⟨u2, hu2⟩ : ∃ V, V = u1.alloc (.cells #[.int .i64 0, .int .i64 0, .int .i64 0, .int .i64 0, .int .i64 0, .int .i64 0, .int .i64 0, .int .i64 0, .bool false, .int .i64 0, .slice none 0 0, .slice none 0 0] 30) := ⟨_, rfl⟩
        have bu2 : Below u1.heap.size u1 u2 := by rw [hu2]; exact (Below.refl _ _).alloc (Nat.le_refl _) _
        have B9 : Hid (Below w.heap.size w u2) := B8.out.trans (bu2.mono B8.out.size)
        have S9 : Hid (SrcB Tryz.prog 22 u2 (.slice a1 n1 c1) SM) := srcB_of Tryz.underlying22 (I8.out.below bu2)
        rw [hu2] at S9
        have B9' := B9
        rw [hu2] at B9'
        clear bu2 I8 B8 hu2 B9 hn47
        go_wp2_with (first
          | (at_builtin; refine wpList_appN rfl (.tmp 65) (.tmp 66) rfl T22 (v := .slice none 0 0) (n := 0) (m := n1) rfl HN1.out rfl (OwnB.nil _) rfl S9.out (by have := Hn47.out; simp only [roomB]; omega) ?_; intro a7 c7 w7 o7 g7 b7; rw [Nat.zero_add] at o7 b7; have O7 := Lib.hid o7
             have X7 : Hid (∀ b, Value.ownBlock (.slice a7 n1 c7) = some b → w.heap.size ≤ b) := Lib.hid (fun b hb => by
               rcases b7 with e | ⟨g, rfl, hg⟩
               · rw [e] at hb; simp [Value.ownBlock] at hb
               · have := B9'.out.size; simp only [Value.ownBlock, Option.some.injEq] at hb; omega)
             have B7 : Hid (Below w.heap.size w w7) := Lib.hid (below_of_fr B9'.out g7 (fun k hk => by simp [Value.ownBlock] at hk))
             clear o7 b7 g7)
          | (at_builtin; refine wpList_appN rfl (.tmp 67) (.tmp 69) rfl T22 (v := .slice a7 n1 c7) (n := n1) (m := 1) HN1.out rfl rfl (O7.out.alloc _) rfl (srcB_of Tryz.underlying22 (isB_one w7 by_ _)) (by have := Hn47.out; simp only [roomB]; omega) ?_; intro a8 c8 w8 o8 g8 b8; have O8 := Lib.hid o8
             have B8 : Hid (Below w.heap.size w w8) := Lib.hid (below_of_fr (B7.out.alloc B7.out.size _) g8 X7.out)
             have X8 : Hid (∀ b, Value.ownBlock (.slice a8 (n1 + 1) c8) = some b → w.heap.size ≤ b) := Lib.hid (fun b hb => by
               rcases b8 with e | ⟨g, rfl, hg⟩
               · rw [e] at hb; exact X7.out b hb
               · have := B7.out.size; simp only [Value.ownBlock, Option.some.injEq, World.size_alloc] at hb hg; omega)
             clear o8 b8 g8))
        have HO9 := HOp.out w8 a8 (n1 + 1) c8 (SM ++ [by_]) B8.out (by have := HN1.out; simp; omega) (by simpa using O8.out.isB) (by have := Hn47.out; have := HN1.out; simp [roomB]; omega)
        rw [Hmore.out by_] at HO9
        have HO10 := Lib.hid HO9
        clear HO9 Hmore S9 O7 X7 B7 B9'
        refine HO10.out.mono ?_
        rintro e u3 ⟨⟨_, rfl⟩ | ⟨z9, _, _, hz9⟩, b9⟩
        rotate_left
        · cases hz9
        simp only [errV, zeroM]
        have B10 : Hid (Below w.heap.size w u3) := B8.out.trans (b9.mono B8.out.size)
        have O9 := Lib.hid (O8.out.kept (X := fun _ => False) (Fr.of_below b9) (fun _ _ x => x))
        clear b9 HO10 O8 B8
        obtain ⟨u4, hu4⟩ : ∃ V, V = u3.alloc (.cells #[.int .i64 0, .int .i64 0, .int .i64 0, .int .i64 0, .int .i64 0, .int .i64 0, .int .i64 0, .int .i64 0, .bool false, .int .i64 0, .slice none 0 0, .slice none 0 0] 30) := ⟨_, rfl⟩
        have bu4 : Below u3.heap.size u3 u4 := by rw [hu4]; exact (Below.refl _ _).alloc (Nat.le_refl _) _
        have B11 : Hid (Below w.heap.size w u4) := B10.out.trans (bu4.mono B10.out.size)
        have O10 := Lib.hid (O9.out.kept (X := fun _ => False) (Fr.of_below bu4) (fun _ _ x => x))
        try rw [List.nil_append] at O10
        clear bu4 O9 B10
        have L10 : (SM ++ [by_]).length = n1 + 1 := by have := HN1.out; simp; omega
        have hg10 : ∃ g o, a8 = some ⟨g, o, none⟩ ∧ n1 + 1 ≤ c8 ∧ c8 ≤ maxLen ∧ g < u4.heap.size ∧ (∀ j, j < c8 → (u4.cell? ⟨g, o + j, none⟩).isSome = true ∧ u4.frozen? ⟨g, o + j, none⟩ = false) ∧ ∀ i, i < n1 + 1 → u4.cell? ⟨g, o + i, none⟩ = some (.int .u8 (at8 (SM ++ [by_]) i)) := by
          rcases O10.out with ⟨e, _⟩ | ⟨g', o', cap', e, h1, h2, h3, h4, h5⟩
          · simp at e
          · rw [L10] at e h1 h4
            simp only [Value.slice.injEq] at e
            obtain ⟨rfl, _, rfl⟩ := e
            exact ⟨g', o', rfl, h1, h2, h3, h5, h4⟩
        obtain ⟨g8, o8, rfl, hc8, hm8, hg8, hf8, hr8⟩ := hg10
        have hgw : w.heap.size ≤ g8 := X8.out g8 rfl
        have hcell : u4.cell? ⟨g8, o8 + q, none⟩ = some (.int .u8 ((SM.getD q 0).toNat : Int)) := by
          rw [hr8 q (by have := Hqn.out; omega)]
          have h1 : q < SM.length := by have := Hqn.out; have := HN1.out; omega
          simp [at8, List.getD_eq_getElem?_getD, h1, List.getElem?_append_left]
        have hfro := (hf8 q (by have := Hqn.out; omega)).2
        obtain ⟨d8, hd8⟩ : ∃ d : UInt8, d = SM.getD q 0 ^^^ by_ := ⟨_, rfl⟩
        have hxor : bits .xor .u8 ((SM.getD q 0).toNat : Int) (by_.toNat : Int) = (d8.toNat : Int) := by
          rw [u8_xor_nat _ _ (UInt8.toNat_lt _) (UInt8.toNat_lt _), hd8, UInt8.toNat_xor]
        have hcut0 : cutAt (some (⟨g8, o8, none⟩ : Addr)) 0 c8 = some ⟨g8, o8, none⟩ := by simp [cutAt, Addr.add]
        have hs2 : ∀ W : World, (Instr.sliceAt 22 (.slice (some ⟨g8, o8, none⟩) (n1 + 1) c8) none (some (.int .i64 (n1 : Int))) none).run Tryz.prog W = .ok (.slice (some ⟨g8, o8, none⟩) n1 c8) W := fun W => by
          rw [run_sliceAt_h T22 (some ⟨g8, o8, none⟩) (n1 + 1) c8 (n1 : Int) (by omega) (by omega) W, hcut0]
          congr 2
        have S11 : Hid (∀ V, V = u4.setCell ⟨g8, o8 + q, none⟩ (.int .u8 (d8.toNat : Int)) → IsB V (.slice (some ⟨g8, o8, none⟩) n1 c8) (SM.set q d8)) := fun V hV => by
          rw [hV]
          have h1 := (isB_cut (OwnB.set O10.out q (by have := Hqn.out; omega) d8) 0 n1 (Nat.zero_le _) (by rw [List.length_set, L10]; omega)).1
          rw [hcut0, Nat.sub_zero, Nat.sub_zero, List.drop_zero] at h1
          have e : (List.set (SM ++ [by_]) q d8).take n1 = SM.set q d8 := by
            have hq1 : q < SM.length := by have := Hqn.out; have := HN1.out; omega
            rw [List.set_append_left _ _ hq1]
            exact List.take_left' (by rw [List.length_set]; exact HN1.out)
          rwa [e] at h1
        have B12 : Hid (Below w.heap.size w (u4.setCell ⟨g8, o8 + q, none⟩ (.int .u8 (d8.toNat : Int)))) := B11.out.setCell hgw _
        have hil : (q : Int) < (n1 : Int) := by have := Hqn.out; omega
        by_cases hby : by_ = 0
        · have hb0 : ((by_.toNat : Int) == 0) = true := by rw [hby]; rfl
          clear hs2 S11 B12 O10 X8 hcell hxor hd8 hf8 hr8
          go_wp2_with fail
          rw [← hu4]
          clear hu4
          have HNa := Lib.hid (HNum.out u4 B11.out)
          go_wp2_with fail
          refine HNa.out.mono ?_
          rintro e wn1 ⟨rfl, bn1⟩
          have Bn1 : Hid (Below w.heap.size w wn1) := B11.out.trans (bn1.mono B11.out.size)
          have HNb := Lib.hid (HNum.out wn1 Bn1.out)
          clear HNa bn1
          go_wp2_with fail
          refine HNb.out.mono ?_
          rintro e wn2 ⟨rfl, bn2⟩
          have Bn2 : Hid (Below w.heap.size w wn2) := Bn1.out.trans (bn2.mono Bn1.out.size)
          have HSn := Lib.hid (HSu.out wn2 Bn2.out)
          clear HNb bn2
          go_wp2_with fail
          refine HSn.out.mono ?_
          rintro e wn3 ⟨rfl, bn3⟩
          have Bn3 : Hid (Below w.heap.size w wn3) := Bn2.out.trans (bn3.mono Bn2.out.size)
          clear HSn bn3
          go_wp2
          go_ret
          exact ⟨rfl, Bn3.out⟩
        · have hb0 : ((by_.toNat : Int) == 0) = false := by rw [beq_eq_false_iff_ne]; intro e; exact hby (UInt8.toNat_inj.1 (by rw [UInt8.toNat_zero]; omega))
          have hne8 : d8 ≠ SM.getD q 0 := fun e => hby (by rw [hd8] at e; have h2 := congrArg (SM.getD q 0 ^^^ ·) e; simpa [← UInt8.xor_assoc] using h2)
          have HO11 := HOp.out _ (some ⟨g8, o8, none⟩) n1 c8 (SM.set q d8) B12.out (by rw [List.length_set]; exact HN1.out) (S11.out _ rfl) (by rw [List.length_set]; exact HRo.out)
          rw [Hspo.out q (by have := Hqn.out; have := HN1.out; omega) d8 hne8] at HO11
          have HO12 := Lib.hid HO11
          have B13 := B12
          rw [hu4] at hcell hfro HO12 B12
          clear HO11 S11 O10 X8 hd8 hne8 hf8 hr8 B11
          generalize (SM.getD q 0).toNat = old at *
          go_wp2_with fail
          refine HO12.out.mono ?_
          rintro e u5 ⟨⟨_, rfl⟩ | ⟨z9, _, _, hz9⟩, b12⟩
          rotate_left
          · cases hz9
          have B14 : Hid (Below w.heap.size w u5) := B12.out.trans (b12.mono B12.out.size)
          clear b12 HO12 B12 B13 hu4 hcell hfro hxor hs2 HOp
          simp only [errV, zeroM]
          obtain ⟨u6, hu6⟩ : ∃ V, V = u5.alloc (.cells #[.int .i64 0, .int .i64 0, .int .i64 0, .int .i64 0, .int .i64 0, .int .i64 0, .int .i64 0, .int .i64 0, .bool false, .int .i64 0, .slice none 0 0, .slice none 0 0] 30) := ⟨_, rfl⟩
          have B15 : Hid (Below w.heap.size w u6) := by rw [hu6]; exact B14.out.alloc B14.out.size _
          have HNz := Lib.hid (HNum.out u6 B15.out)
          go_wp2_with fail
          rw [← hu6]
          clear hu6 B14
          refine HNz.out.mono ?_
          rintro e u7 ⟨rfl, b15⟩
          have B16 : Hid (Below w.heap.size w u7) := B15.out.trans (b15.mono B15.out.size)
          clear b15 HNz B15
          have HNa := Lib.hid (HNum.out u7 B16.out)
          go_wp2_with fail
          refine HNa.out.mono ?_
          rintro e wn1 ⟨rfl, bn1⟩
          have Bn1 : Hid (Below w.heap.size w wn1) := B16.out.trans (bn1.mono B16.out.size)
          have HNb := Lib.hid (HNum.out wn1 Bn1.out)
          clear HNa bn1
          go_wp2_with fail
          refine HNb.out.mono ?_
          rintro e wn2 ⟨rfl, bn2⟩
          have Bn2 : Hid (Below w.heap.size w wn2) := Bn1.out.trans (bn2.mono Bn1.out.size)
          have HSn := Lib.hid (HSu.out wn2 Bn2.out)
          clear HNb bn2
          go_wp2_with fail
          refine HSn.out.mono ?_
          rintro e wn3 ⟨rfl, bn3⟩
          have Bn3 : Hid (Below w.heap.size w wn3) := Bn2.out.trans (bn3.mono Bn2.out.size)
          clear HSn bn3
          go_wp2
          go_ret
          exact ⟨rfl, Bn3.out⟩
      · go_simp
        go_at_call 14
        refine (C14.out _ ?_).mono ?_
        assumption
        rintro e vx ⟨⟨y2, rfl, hy2⟩, kx, bB⟩
        have IA := Lib.hid (IA.out.below bB.out)
        clear bB
        try (go_wp2_with fail)
        refine hK.out _ _ ?_ (fun hHeld => ?_)
        · (try dsimp only)
          assumption
        clear hK K
        try simp only [Act.put, List.setIfInBounds_toArray, List.set_cons_zero, List.set_cons_succ]
        refine wpAnyH_ready (rs := [10, 13]) (by kernel_rfl) (by simp) ?_
        refine AllReadyH.cons (List.getElem?_toArray.trans rfl) (fun K hK => ?_) (AllReadyH.cons (List.getElem?_toArray.trans rfl) (fun K hK => ?_) (AllReadyH.nil))
        · have hcv := run_toStr (P := Tryz.prog) T22 U9 IA.out
          go_simp
          try (go_wp2_with fail)
          refine hK.out _ _ ?_ (fun hHeld => ?_)
          · (try dsimp only)
            assumption
          clear hK K
          try simp only [Act.put, List.setIfInBounds_toArray, List.set_cons_zero, List.set_cons_succ]
          clear hcv IA
          refine wpAnyH_ready (rs := [13]) (by kernel_rfl) (by simp) ?_
          refine AllReadyH.cons (List.getElem?_toArray.trans rfl) (fun K hK => ?_) (AllReadyH.nil)
          go_simp
          go_at_call 16
          refine (C17.out _ _ ?_ hy2).mono ?_
          assumption
          rintro e vx ⟨⟨a6, n6, c6, rfl, IB⟩, kx, bB⟩
          clear bB hy2
          try (go_wp2_with fail)
          refine hK.out _ _ ?_ (fun hHeld => ?_)
          · (try dsimp only)
            assumption
          clear hK K
          try simp only [Act.put, List.setIfInBounds_toArray, List.set_cons_zero, List.set_cons_succ]
          refine wpAnyH_ready (rs := [14]) (by kernel_rfl) (by simp) ?_
          refine AllReadyH.cons (List.getElem?_toArray.trans rfl) (fun K hK => ?_) (AllReadyH.nil)
          have hcv := run_toStr (P := Tryz.prog) T22 U9 IB.out
          go_simp
          try (go_wp2_with fail)
          refine hK.out _ _ ?_ (fun hHeld => ?_)
          · (try dsimp only)
            assumption
          clear hK K
          try simp only [Act.put, List.setIfInBounds_toArray, List.set_cons_zero, List.set_cons_succ]
          clear hcv IB
          refine wpAnyH_take (i := 15) (v := ?hve215) (List.getElem?_toArray.trans rfl) (by kernel_rfl) (by kernel_rfl) (by kernel_rfl) (fun _ _ _ h => h) (Or.inl ⟨by rfl, ?hye215⟩) (by assumption) ?hre215
          case hye215 => (intro wt hSw; (try dsimp only at hSw); go_simp; try (with_reducible rfl))
          try simp only [Act.put, List.setIfInBounds_toArray, List.set_cons_zero, List.set_cons_succ]
          refine wpAnyH_take (i := 16) (v := ?hve216) (List.getElem?_toArray.trans rfl) (by kernel_rfl) (by kernel_rfl) (by kernel_rfl) (fun _ _ _ h => h) (Or.inl ⟨by rfl, ?hye216⟩) (by assumption) ?hre216
          case hye216 => (intro wt hSw; (try dsimp only at hSw); go_simp; try (with_reducible rfl))
          try simp only [Act.put, List.setIfInBounds_toArray, List.set_cons_zero, List.set_cons_succ]
          refine wpAnyH_done (by kernel_rfl) ?_ _
          refine NoPanic.normal ?_
          have I7 := Lib.hid (I6.out.below hHeld.1.out)
          have B7 := Lib.hid (fin.out vx hHeld)
          clear hHeld S0 step fin I6 B6
          obtain ⟨u, hu⟩ : ∃ u, u = PK.u64 ak := ⟨_, rfl⟩
          have hwa := wrap_u64_nat ak
          rw [← hu] at hwa
          have hn5 : 5 ≤ n1 := by have := Hsl.out; have := HN1.out; omega
          have hn47 : n1 + 1 ≤ 140737488355328 := by have := Hsl.out; have := HRm.out; have := HN1.out; simp only [roomB] at *; omega
          obtain ⟨q, hq⟩ : ∃ q, q = u % n1 := ⟨_, rfl⟩
          have hqn : q < n1 := by rw [hq]; exact Nat.mod_lt _ (by omega)
          have hwn : IntKind.u64.wrap (n1 : Int) = (n1 : Int) := by rw [IntKind.wrap_u64]; omega
          have hqe : (u : Int) % (n1 : Int) = (q : Int) := by rw [hq]; omega
          have hwq : IntKind.i64.wrap (q : Int) = (q : Int) := by rw [IntKind.wrap_i64]; omega
          have hnz : ¬ ((n1 : Int) = 0) := by omega
          have hcap : n1 ≤ c1 := by obtain ⟨_, cap', he', h1, _⟩ := I7.out; simp at he'; have := HN1.out; omega
          have hs1 : ∀ W : World, (Instr.sliceAt 22 (.slice a1 n1 c1) none (some (.int .i64 (q : Int))) none).run Tryz.prog W = .ok (.slice (cutAt a1 0 c1) q c1) W := fun W => by
            rw [run_sliceAt_h T22 a1 n1 c1 (q : Int) (by omega) (by omega) W]
            congr 2
          have ic := (isB_cut I7.out 0 q (Nat.zero_le _) (by have := HN1.out; omega)).1
          rw [Nat.sub_zero, Nat.sub_zero, List.drop_zero] at ic
          obtain ⟨ac, hac⟩ : ∃ ac, ac = cutAt a1 0 c1 := ⟨_, rfl⟩
          rw [← hac] at ic
          simp only [← hac] at hs1
          have HO7 := HOp.out vx ac q c1 (SM.take q) B7.out (by rw [List.length_take]; have := HN1.out; omega) ic (by rw [List.length_take]; have := HRo.out; omega)
          rw [Hcut.out q (by have := HN1.out; omega)] at HO7
          have HO8 := Lib.hid HO7
          have Hqn := Lib.hid hqn
          have Hn47 := Lib.hid hn47
          clear hu hq ic HO7 hac hcap Hcut Hopen
          simp only [errV] at HNum
          try simp only [Nat.cast_ofNat, Int.reduceAdd] at HNum
          go_wp2_with fail
          refine HO8.out.mono ?_
          rintro e u1 ⟨⟨_, rfl⟩ | ⟨z9, _, _, hz9⟩, b8⟩
          rotate_left
          · cases hz9
          have I8 := Lib.hid (I7.out.below b8)
          have B8 : Hid (Below w.heap.size w u1) := B7.out.trans (b8.mono B7.out.size)
          clear b8 HO8 I7 B7 hs1 hwa hqe hwn
          simp only [errV, zeroM]
          obtain ⟨u2, hu2⟩ : ∃ V, V = u1.alloc (.cells #[.int .i64 0, .int .i64 0, .int .i64 0, .int .i64 0, .int .i64 0, .int .i64 0, .int .i64 0, .int .i64 0, .bool false, .int .i64 0, .slice none 0 0, .slice none 0 0] 30) := ⟨_, rfl⟩
          have bu2 : Below u1.heap.size u1 u2 := by rw [hu2]; exact (Below.refl _ _).alloc (Nat.le_refl _) _
          have B9 : Hid (Below w.heap.size w u2) := B8.out.trans (bu2.mono B8.out.size)
          have S9 : Hid (SrcB Tryz.prog 22 u2 (.slice a1 n1 c1) SM) := srcB_of Tryz.underlying22 (I8.out.below bu2)
          rw [hu2] at S9
          have B9' := B9
          rw [hu2] at B9'
          clear bu2 I8 B8 hu2 B9 hn47
          go_wp2_with (first
            | (at_builtin; refine wpList_appN rfl (.tmp 65) (.tmp 66) rfl T22 (v := .slice none 0 0) (n := 0) (m := n1) rfl HN1.out rfl (OwnB.nil _) rfl S9.out (by have := Hn47.out; simp only [roomB]; omega) ?_; intro a7 c7 w7 o7 g7 b7; rw [Nat.zero_add] at o7 b7; have O7 := Lib.hid o7
               have X7 : Hid (∀ b, Value.ownBlock (.slice a7 n1 c7) = some b → w.heap.size ≤ b) := Lib.hid (fun b hb => by
                 rcases b7 with e | ⟨g, rfl, hg⟩
                 · rw [e] at hb; simp [Value.ownBlock] at hb
                 · have := B9'.out.size; simp only [Value.ownBlock, Option.some.injEq] at hb; omega)
               have B7 : Hid (Below w.heap.size w w7) := Lib.hid (below_of_fr B9'.out g7 (fun k hk => by simp [Value.ownBlock] at hk))
               clear o7 b7 g7)
            | (at_builtin; refine wpList_appN rfl (.tmp 67) (.tmp 69) rfl T22 (v := .slice a7 n1 c7) (n := n1) (m := 1) HN1.out rfl rfl (O7.out.alloc _) rfl (srcB_of Tryz.underlying22 (isB_one w7 by_ _)) (by have := Hn47.out; simp only [roomB]; omega) ?_; intro a8 c8 w8 o8 g8 b8; have O8 := Lib.hid o8
               have B8 : Hid (Below w.heap.size w w8) := Lib.hid (below_of_fr (B7.out.alloc B7.out.size _) g8 X7.out)
               have X8 : Hid (∀ b, Value.ownBlock (.slice a8 (n1 + 1) c8) = some b → w.heap.size ≤ b) := Lib.hid (fun b hb => by
                 rcases b8 with e | ⟨g, rfl, hg⟩
                 · rw [e] at hb; exact X7.out b hb
                 · have := B7.out.size; simp only [Value.ownBlock, Option.some.injEq, World.size_alloc] at hb hg; omega)
               clear o8 b8 g8))
          have HO9 := HOp.out w8 a8 (n1 + 1) c8 (SM ++ [by_]) B8.out (by have := HN1.out; simp; omega) (by simpa using O8.out.isB) (by have := Hn47.out; have := HN1.out; simp [roomB]; omega)
          rw [Hmore.out by_] at HO9
          have HO10 := Lib.hid HO9
          clear HO9 Hmore S9 O7 X7 B7 B9'
          refine HO10.out.mono ?_
          rintro e u3 ⟨⟨_, rfl⟩ | ⟨z9, _, _, hz9⟩, b9⟩
          rotate_left
          · cases hz9
          simp only [errV, zeroM]
          have B10 : Hid (Below w.heap.size w u3) := B8.out.trans (b9.mono B8.out.size)
          have O9 := Lib.hid (O8.out.kept (X := fun _ => False) (Fr.of_below b9) (fun _ _ x => x))
          clear b9 HO10 O8 B8
          obtain ⟨u4, hu4⟩ : ∃ V, V = u3.alloc (.cells #[.int .i64 0, .int .i64 0, .int .i64 0, .int .i64 0, .int .i64 0, .int .i64 0, .int .i64 0, .int .i64 0, .bool false, .int .i64 0, .slice none 0 0, .slice none 0 0] 30) := ⟨_, rfl⟩
          have bu4 : Below u3.heap.size u3 u4 := by rw [hu4]; exact (Below.refl _ _).alloc (Nat.le_refl _) _
          have B11 : Hid (Below w.heap.size w u4) := B10.out.trans (bu4.mono B10.out.size)
          have O10 := Lib.hid (O9.out.kept (X := fun _ => False) (Fr.of_below bu4) (fun _ _ x => x))
          try rw [List.nil_append] at O10
          clear bu4 O9 B10
          have L10 : (SM ++ [by_]).length = n1 + 1 := by have := HN1.out; simp; omega
          have hg10 : ∃ g o, a8 = some ⟨g, o, none⟩ ∧ n1 + 1 ≤ c8 ∧ c8 ≤ maxLen ∧ g < u4.heap.size ∧ (∀ j, j < c8 → (u4.cell? ⟨g, o + j, none⟩).isSome = true ∧ u4.frozen? ⟨g, o + j, none⟩ = false) ∧ ∀ i, i < n1 + 1 → u4.cell? ⟨g, o + i, none⟩ = some (.int .u8 (at8 (SM ++ [by_]) i)) := by
            rcases O10.out with ⟨e, _⟩ | ⟨g', o', cap', e, h1, h2, h3, h4, h5⟩
            · simp at e
            · rw [L10] at e h1 h4
              simp only [Value.slice.injEq] at e
              obtain ⟨rfl, _, rfl⟩ := e
              exact ⟨g', o', rfl, h1, h2, h3, h5, h4⟩
          obtain ⟨g8, o8, rfl, hc8, hm8, hg8, hf8, hr8⟩ := hg10
          have hgw : w.heap.size ≤ g8 := X8.out g8 rfl
          have hcell : u4.cell? ⟨g8, o8 + q, none⟩ = some (.int .u8 ((SM.getD q 0).toNat : Int)) := by
            rw [hr8 q (by have := Hqn.out; omega)]
            have h1 : q < SM.length := by have := Hqn.out; have := HN1.out; omega
            simp [at8, List.getD_eq_getElem?_getD, h1, List.getElem?_append_left]
          have hfro := (hf8 q (by have := Hqn.out; omega)).2
          obtain ⟨d8, hd8⟩ : ∃ d : UInt8, d = SM.getD q 0 ^^^ by_ := ⟨_, rfl⟩
          have hxor : bits .xor .u8 ((SM.getD q 0).toNat : Int) (by_.toNat : Int) = (d8.toNat : Int) := by
            rw [u8_xor_nat _ _ (UInt8.toNat_lt _) (UInt8.toNat_lt _), hd8, UInt8.toNat_xor]
          have hcut0 : cutAt (some (⟨g8, o8, none⟩ : Addr)) 0 c8 = some ⟨g8, o8, none⟩ := by simp [cutAt, Addr.add]
          have hs2 : ∀ W : World, (Instr.sliceAt 22 (.slice (some ⟨g8, o8, none⟩) (n1 + 1) c8) none (some (.int .i64 (n1 : Int))) none).run Tryz.prog W = .ok (.slice (some ⟨g8, o8, none⟩) n1 c8) W := fun W => by
            rw [run_sliceAt_h T22 (some ⟨g8, o8, none⟩) (n1 + 1) c8 (n1 : Int) (by omega) (by omega) W, hcut0]
            congr 2
          have S11 : Hid (∀ V, V = u4.setCell ⟨g8, o8 + q, none⟩ (.int .u8 (d8.toNat : Int)) → IsB V (.slice (some ⟨g8, o8, none⟩) n1 c8) (SM.set q d8)) := fun V hV => by
            rw [hV]
            have h1 := (isB_cut (OwnB.set O10.out q (by have := Hqn.out; omega) d8) 0 n1 (Nat.zero_le _) (by rw [List.length_set, L10]; omega)).1
            rw [hcut0, Nat.sub_zero, Nat.sub_zero, List.drop_zero] at h1
            have e : (List.set (SM ++ [by_]) q d8).take n1 = SM.set q d8 := by
              have hq1 : q < SM.length := by have := Hqn.out; have := HN1.out; omega
              rw [List.set_append_left _ _ hq1]
              exact List.take_left' (by rw [List.length_set]; exact HN1.out)
            rwa [e] at h1
          have B12 : Hid (Below w.heap.size w (u4.setCell ⟨g8, o8 + q, none⟩ (.int .u8 (d8.toNat : Int)))) := B11.out.setCell hgw _
          have hil : (q : Int) < (n1 : Int) := by have := Hqn.out; omega
          by_cases hby : by_ = 0
          · have hb0 : ((by_.toNat : Int) == 0) = true := by rw [hby]; rfl
            clear hs2 S11 B12 O10 X8 hcell hxor hd8 hf8 hr8
            go_wp2_with fail
            rw [← hu4]
            clear hu4
            have HNa := Lib.hid (HNum.out u4 B11.out)
            go_wp2_with fail
            refine HNa.out.mono ?_
            rintro e wn1 ⟨rfl, bn1⟩
            have Bn1 : Hid (Below w.heap.size w wn1) := B11.out.trans (bn1.mono B11.out.size)
            have HNb := Lib.hid (HNum.out wn1 Bn1.out)
            clear HNa bn1
            go_wp2_with fail
            refine HNb.out.mono ?_
            rintro e wn2 ⟨rfl, bn2⟩
            have Bn2 : Hid (Below w.heap.size w wn2) := Bn1.out.trans (bn2.mono Bn1.out.size)
            have HSn := Lib.hid (HSu.out wn2 Bn2.out)
            clear HNb bn2
            go_wp2_with fail
            refine HSn.out.mono ?_
            rintro e wn3 ⟨rfl, bn3⟩
            have Bn3 : Hid (Below w.heap.size w wn3) := Bn2.out.trans (bn3.mono Bn2.out.size)
            clear HSn bn3
            go_wp2
            go_ret
            exact ⟨rfl, Bn3.out⟩
          · have hb0 : ((by_.toNat : Int) == 0) = false := by rw [beq_eq_false_iff_ne]; intro e; exact hby (UInt8.toNat_inj.1 (by rw [UInt8.toNat_zero]; omega))
            have hne8 : d8 ≠ SM.getD q 0 := fun e => hby (by rw [hd8] at e; have h2 := congrArg (SM.getD q 0 ^^^ ·) e; simpa [← UInt8.xor_assoc] using h2)
            have HO11 := HOp.out _ (some ⟨g8, o8, none⟩) n1 c8 (SM.set q d8) B12.out (by rw [List.length_set]; exact HN1.out) (S11.out _ rfl) (by rw [List.length_set]; exact HRo.out)
            rw [Hspo.out q (by have := Hqn.out; have := HN1.out; omega) d8 hne8] at HO11
            have HO12 := Lib.hid HO11
            have B13 := B12
            rw [hu4] at hcell hfro HO12 B12
            clear HO11 S11 O10 X8 hd8 hne8 hf8 hr8 B11
            generalize (SM.getD q 0).toNat = old at *
            go_wp2_with fail
            refine HO12.out.mono ?_
            rintro e u5 ⟨⟨_, rfl⟩ | ⟨z9, _, _, hz9⟩, b12⟩
            rotate_left
            · cases hz9
            have B14 : Hid (Below w.heap.size w u5) := B12.out.trans (b12.mono B12.out.size)
            clear b12 HO12 B12 B13 hu4 hcell hfro hxor hs2 HOp
            simp only [errV, zeroM]
            obtain ⟨u6, hu6⟩ : ∃ V, V = u5.alloc (.cells #[.int .i64 0, .int .i64 0, .int .i64 0, .int .i64 0, .int .i64 0, .int .i64 0, .int .i64 0, .int .i64 0, .bool false, .int .i64 0, .slice none 0 0, .slice none 0 0] 30) := ⟨_, rfl⟩
            have B15 : Hid (Below w.heap.size w u6) := by rw [hu6]; exact B14.out.alloc B14.out.size _
            have HNz := Lib.hid (HNum.out u6 B15.out)
            go_wp2_with fail
            rw [← hu6]
            clear hu6 B14
            refine HNz.out.mono ?_
            rintro e u7 ⟨rfl, b15⟩
            have B16 : Hid (Below w.heap.size w u7) := B15.out.trans (b15.mono B15.out.size)
            clear b15 HNz B15
            have HNa := Lib.hid (HNum.out u7 B16.out)
            go_wp2_with fail
            refine HNa.out.mono ?_
            rintro e wn1 ⟨rfl, bn1⟩
            have Bn1 : Hid (Below w.heap.size w wn1) := B16.out.trans (bn1.mono B16.out.size)
            have HNb := Lib.hid (HNum.out wn1 Bn1.out)
            clear HNa bn1
            go_wp2_with fail
            refine HNb.out.mono ?_
            rintro e wn2 ⟨rfl, bn2⟩
            have Bn2 : Hid (Below w.heap.size w wn2) := Bn1.out.trans (bn2.mono Bn1.out.size)
            have HSn := Lib.hid (HSu.out wn2 Bn2.out)
            clear HNb bn2
            go_wp2_with fail
            refine HSn.out.mono ?_
            rintro e wn3 ⟨rfl, bn3⟩
            have Bn3 : Hid (Below w.heap.size w wn3) := Bn2.out.trans (bn3.mono Bn2.out.size)
            clear HSn bn3
            go_wp2
            go_ret
            exact ⟨rfl, Bn3.out⟩
        · go_simp
          go_at_call 16
          refine (C17.out _ _ ?_ hy2).mono ?_
          assumption
          rintro e vx ⟨⟨a6, n6, c6, rfl, IB⟩, kx, bB⟩
          have IA := Lib.hid (IA.out.below bB.out)
          clear bB hy2
          try (go_wp2_with fail)
          refine hK.out _ _ ?_ (fun hHeld => ?_)
          · (try dsimp only)
            assumption
          clear hK K
          try simp only [Act.put, List.setIfInBounds_toArray, List.set_cons_zero, List.set_cons_succ]
          refine wpAnyH_ready (rs := [10, 14]) (by kernel_rfl) (by simp) ?_
          refine AllReadyH.cons (List.getElem?_toArray.trans rfl) (fun K hK => ?_) (AllReadyH.cons (List.getElem?_toArray.trans rfl) (fun K hK => ?_) (AllReadyH.nil))
          · have hcv := run_toStr (P := Tryz.prog) T22 U9 IA.out
            go_simp
            try (go_wp2_with fail)
            refine hK.out _ _ ?_ (fun hHeld => ?_)
            · (try dsimp only)
              assumption
            clear hK K
            try simp only [Act.put, List.setIfInBounds_toArray, List.set_cons_zero, List.set_cons_succ]
            clear hcv IA
            refine wpAnyH_ready (rs := [14]) (by kernel_rfl) (by simp) ?_
            refine AllReadyH.cons (List.getElem?_toArray.trans rfl) (fun K hK => ?_) (AllReadyH.nil)
            have hcv := run_toStr (P := Tryz.prog) T22 U9 IB.out
            go_simp
            try (go_wp2_with fail)
            refine hK.out _ _ ?_ (fun hHeld => ?_)
            · (try dsimp only)
              assumption
            clear hK K
            try simp only [Act.put, List.setIfInBounds_toArray, List.set_cons_zero, List.set_cons_succ]
            clear hcv IB
            refine wpAnyH_take (i := 15) (v := ?hve315) (List.getElem?_toArray.trans rfl) (by kernel_rfl) (by kernel_rfl) (by kernel_rfl) (fun _ _ _ h => h) (Or.inl ⟨by rfl, ?hye315⟩) (by assumption) ?hre315
            case hye315 => (intro wt hSw; (try dsimp only at hSw); go_simp; try (with_reducible rfl))
            try simp only [Act.put, List.setIfInBounds_toArray, List.set_cons_zero, List.set_cons_succ]
            refine wpAnyH_take (i := 16) (v := ?hve316) (List.getElem?_toArray.trans rfl) (by kernel_rfl) (by kernel_rfl) (by kernel_rfl) (fun _ _ _ h => h) (Or.inl ⟨by rfl, ?hye316⟩) (by assumption) ?hre316
            case hye316 => (intro wt hSw; (try dsimp only at hSw); go_simp; try (with_reducible rfl))
            try simp only [Act.put, List.setIfInBounds_toArray, List.set_cons_zero, List.set_cons_succ]
            refine wpAnyH_done (by kernel_rfl) ?_ _
            refine NoPanic.normal ?_
            have I7 := Lib.hid (I6.out.below hHeld.1.out)
            have B7 := Lib.hid (fin.out vx hHeld)
            clear hHeld S0 step fin I6 B6
            obtain ⟨u, hu⟩ : ∃ u, u = PK.u64 ak := ⟨_, rfl⟩
            have hwa := wrap_u64_nat ak
            rw [← hu] at hwa
            have hn5 : 5 ≤ n1 := by have := Hsl.out; have := HN1.out; omega
            have hn47 : n1 + 1 ≤ 140737488355328 := by have := Hsl.out; have := HRm.out; have := HN1.out; simp only [roomB] at *; omega
            obtain ⟨q, hq⟩ : ∃ q, q = u % n1 := ⟨_, rfl⟩
            have hqn : q < n1 := by rw [hq]; exact Nat.mod_lt _ (by omega)
            have hwn : IntKind.u64.wrap (n1 : Int) = (n1 : Int) := by rw [IntKind.wrap_u64]; omega
            have hqe : (u : Int) % (n1 : Int) = (q : Int) := by rw [hq]; omega
            have hwq : IntKind.i64.wrap (q : Int) = (q : Int) := by rw [IntKind.wrap_i64]; omega
            have hnz : ¬ ((n1 : Int) = 0) := by omega
            have hcap : n1 ≤ c1 := by obtain ⟨_, cap', he', h1, _⟩ := I7.out; simp at he'; have := HN1.out; omega
            have hs1 : ∀ W : World, (Instr.sliceAt 22 (.slice a1 n1 c1) none (some (.int .i64 (q : Int))) none).run Tryz.prog W = .ok (.slice (cutAt a1 0 c1) q c1) W := fun W => by
              rw [run_sliceAt_h T22 a1 n1 c1 (q : Int) (by omega) (by omega) W]
              congr 2
            have ic := (isB_cut I7.out 0 q (Nat.zero_le _) (by have := HN1.out; omega)).1
            rw [Nat.sub_zero, Nat.sub_zero, List.drop_zero] at ic
            obtain ⟨ac, hac⟩ : ∃ ac, ac = cutAt a1 0 c1 := ⟨_, rfl⟩
            rw [← hac] at ic
            simp only [← hac] at hs1
            have HO7 := HOp.out vx ac q c1 (SM.take q) B7.out (by rw [List.length_take]; have := HN1.out; omega) ic (by rw [List.length_take]; have := HRo.out; omega)
            rw [Hcut.out q (by have := HN1.out; omega)] at HO7
            have HO8 := Lib.hid HO7
            have Hqn := Lib.hid hqn
            have Hn47 := Lib.hid hn47
            clear hu hq ic HO7 hac hcap Hcut Hopen
            simp only [errV] at HNum
            try simp only [Nat.cast_ofNat, Int.reduceAdd] at HNum
            go_wp2_with fail
            refine HO8.out.mono ?_
            rintro e u1 ⟨⟨_, rfl⟩ | ⟨z9, _, _, hz9⟩, b8⟩
            rotate_left
            · cases hz9
            have I8 := Lib.hid (I7.out.below b8)
            have B8 : Hid (Below w.heap.size w u1) := B7.out.trans (b8.mono B7.out.size)
            clear b8 HO8 I7 B7 hs1 hwa hqe hwn
            simp only [errV, zeroM]
            obtain ⟨u2, hu2⟩ : ∃ V, V = u1.alloc (.cells #[.int .i64 0, .int .i64 0, .int .i64 0, .int .i64 0, .int .i64 0, .int .i64 0, .int .i64 0, .int .i64 0, .bool false, .int .i64 0, .slice none 0 0, .slice none 0 0] 30) := ⟨_, rfl⟩
            have bu2 : Below u1.heap.size u1 u2 := by rw [hu2]; exact (Below.refl _ _).alloc (Nat.le_refl _) _
            have B9 : Hid (Below w.heap.size w u2) := B8.out.trans (bu2.mono B8.out.size)
            have S9 : Hid (SrcB Tryz.prog 22 u2 (.slice a1 n1 c1) SM) := srcB_of Tryz.underlying22 (I8.out.below bu2)
            rw [hu2] at S9
            have B9' := B9
            rw [hu2] at B9'
            clear bu2 I8 B8 hu2 B9 hn47
            go_wp2_with (first
              | (at_builtin; refine wpList_appN rfl (.tmp 65) (.tmp 66) rfl T22 (v := .slice none 0 0) (n := 0) (m := n1) rfl HN1.out rfl (OwnB.nil _) rfl S9.out (by have := Hn47.out; simp only [roomB]; omega) ?_; intro a7 c7 w7 o7 g7 b7; rw [Nat.zero_add] at o7 b7; have O7 := Lib.hid o7
                 have X7 : Hid (∀ b, Value.ownBlock (.slice a7 n1 c7) = some b → w.heap.size ≤ b) := Lib.hid (fun b hb => by
                   rcases b7 with e | ⟨g, rfl, hg⟩
                   · rw [e] at hb; simp [Value.ownBlock] at hb
                   · have := B9'.out.size; simp only [Value.ownBlock, Option.some.injEq] at hb; omega)
                 have B7 : Hid (Below w.heap.size w w7) := Lib.hid (below_of_fr B9'.out g7 (fun k hk => by simp [Value.ownBlock] at hk))
                 clear o7 b7 g7)
              | (at_builtin; refine wpList_appN rfl (.tmp 67) (.tmp 69) rfl T22 (v := .slice a7 n1 c7) (n := n1) (m := 1) HN1.out rfl rfl (O7.out.alloc _) rfl (srcB_of Tryz.underlying22 (isB_one w7 by_ _)) (by have := Hn47.out; simp only [roomB]; omega) ?_; intro a8 c8 w8 o8 g8 b8; have O8 := Lib.hid o8
                 have B8 : Hid (Below w.heap.size w w8) := Lib.hid (below_of_fr (B7.out.alloc B7.out.size _) g8 X7.out)
                 have X8 : Hid (∀ b, Value.ownBlock (.slice a8 (n1 + 1) c8) = some b → w.heap.size ≤ b) := Lib.hid (fun b hb => by
                   rcases b8 with e | ⟨g, rfl, hg⟩
                   · rw [e] at hb; exact X7.out b hb
                   · have := B7.out.size; simp only [Value.ownBlock, Option.some.injEq, World.size_alloc] at hb hg; omega)
                 clear o8 b8 g8))
            have HO9 := HOp.out w8 a8 (n1 + 1) c8 (SM ++ [by_]) B8.out (by have := HN1.out; simp; omega) (by simpa using O8.out.isB) (by have := Hn47.out; have := HN1.out; simp [roomB]; omega)
            rw [Hmore.out by_] at HO9
            have HO10 := Lib.hid HO9
            clear HO9 Hmore S9 O7 X7 B7 B9'
            refine HO10.out.mono ?_
            rintro e u3 ⟨⟨_, rfl⟩ | ⟨z9, _, _, hz9⟩, b9⟩
            rotate_left
            · cases hz9
            simp only [errV, zeroM]
            have B10 : Hid (Below w.heap.size w u3) := B8.out.trans (b9.mono B8.out.size)
            have O9 := Lib.hid (O8.out.kept (X := fun _ => False) (Fr.of_below b9) (fun _ _ x => x))
            clear b9 HO10 O8 B8
            obtain ⟨u4, hu4⟩ : ∃ V, V = u3.alloc (.cells #[.int .i64 0, .int .i64 0, .int .i64 0, .int .i64 0, .int .i64 0, .int .i64 0, .int .i64 0, .int .i64 0, .bool false, .int .i64 0, .slice none 0 0, .slice none 0 0] 30) := ⟨_, rfl⟩
            have bu4 : Below u3.heap.size u3 u4 := by rw [hu4]; exact (Below.refl _ _).alloc (Nat.le_refl _) _
            have B11 : Hid (Below w.heap.size w u4) := B10.out.trans (bu4.mono B10.out.size)
            have O10 := Lib.hid (O9.out.kept (X := fun _ => False) (Fr.of_below bu4) (fun _ _ x => x))
            try rw [List.nil_append] at O10
            clear bu4 O9 B10
            have L10 : (SM ++ [by_]).length = n1 + 1 := by have := HN1.out; simp; omega
            have hg10 : ∃ g o, a8 = some ⟨g, o, none⟩ ∧ n1 + 1 ≤ c8 ∧ c8 ≤ maxLen ∧ g < u4.heap.size ∧ (∀ j, j < c8 → (u4.cell? ⟨g, o + j, none⟩).isSome = true ∧ u4.frozen? ⟨g, o + j, none⟩ = false) ∧ ∀ i, i < n1 + 1 → u4.cell? ⟨g, o + i, none⟩ = some (.int .u8 (at8 (SM ++ [by_]) i)) := by
              rcases O10.out with ⟨e, _⟩ | ⟨g', o', cap', e, h1, h2, h3, h4, h5⟩
              · simp at e
              · rw [L10] at e h1 h4
                simp only [Value.slice.injEq] at e
                obtain ⟨rfl, _, rfl⟩ := e
                exact ⟨g', o', rfl, h1, h2, h3, h5, h4⟩
            obtain ⟨g8, o8, rfl, hc8, hm8, hg8, hf8, hr8⟩ := hg10
            have hgw : w.heap.size ≤ g8 := X8.out g8 rfl
            have hcell : u4.cell? ⟨g8, o8 + q, none⟩ = some (.int .u8 ((SM.getD q 0).toNat : Int)) := by
              rw [hr8 q (by have := Hqn.out; omega)]
              have h1 : q < SM.length := by have := Hqn.out; have := HN1.out; omega
              simp [at8, List.getD_eq_getElem?_getD, h1, List.getElem?_append_left]
            have hfro := (hf8 q (by have := Hqn.out; omega)).2
            obtain ⟨d8, hd8⟩ : ∃ d : UInt8, d = SM.getD q 0 ^^^ by_ := ⟨_, rfl⟩
            have hxor : bits .xor .u8 ((SM.getD q 0).toNat : Int) (by_.toNat : Int) = (d8.toNat : Int) := by
              rw [u8_xor_nat _ _ (UInt8.toNat_lt _) (UInt8.toNat_lt _), hd8, UInt8.toNat_xor]
            have hcut0 : cutAt (some (⟨g8, o8, none⟩ : Addr)) 0 c8 = some ⟨g8, o8, none⟩ := by simp [cutAt, Addr.add]
            have hs2 : ∀ W : World, (Instr.sliceAt 22 (.slice (some ⟨g8, o8, none⟩) (n1 + 1) c8) none (some (.int .i64 (n1 : Int))) none).run Tryz.prog W = .ok (.slice (some ⟨g8, o8, none⟩) n1 c8) W := fun W => by
              rw [run_sliceAt_h T22 (some ⟨g8, o8, none⟩) (n1 + 1) c8 (n1 : Int) (by omega) (by omega) W, hcut0]
              congr 2
            have S11 : Hid (∀ V, V = u4.setCell ⟨g8, o8 + q, none⟩ (.int .u8 (d8.toNat : Int)) → IsB V (.slice (some ⟨g8, o8, none⟩) n1 c8) (SM.set q d8)) := fun V hV => by
              rw [hV]
              have h1 := (isB_cut (OwnB.set O10.out q (by have := Hqn.out; omega) d8) 0 n1 (Nat.zero_le _) (by rw [List.length_set, L10]; omega)).1
              rw [hcut0, Nat.sub_zero, Nat.sub_zero, List.drop_zero] at h1
              have e : (List.set (SM ++ [by_]) q d8).take n1 = SM.set q d8 := by
                have hq1 : q < SM.length := by have := Hqn.out; have := HN1.out; omega
                rw [List.set_append_left _ _ hq1]
                exact List.take_left' (by rw [List.length_set]; exact HN1.out)
              rwa [e] at h1
            have B12 : Hid (Below w.heap.size w (u4.setCell ⟨g8, o8 + q, none⟩ (.int .u8 (d8.toNat : Int)))) := B11.out.setCell hgw _
            have hil : (q : Int) < (n1 : Int) := by have := Hqn.out; omega
            by_cases hby : by_ = 0
            · have hb0 : ((by_.toNat : Int) == 0) = true := by rw [hby]; rfl
              clear hs2 S11 B12 O10 X8 hcell hxor hd8 hf8 hr8
              go_wp2_with fail
              rw [← hu4]
              clear hu4
              have HNa := Lib.hid (HNum.out u4 B11.out)
              go_wp2_with fail
              refine HNa.out.mono ?_
              rintro e wn1 ⟨rfl, bn1⟩
              have Bn1 : Hid (Below w.heap.size w wn1) := B11.out.trans (bn1.mono B11.out.size)
              have HNb := Lib.hid (HNum.out wn1 Bn1.out)
              clear HNa bn1
              go_wp2_with fail
              refine HNb.out.mono ?_
              rintro e wn2 ⟨rfl, bn2⟩
              have Bn2 : Hid (Below w.heap.size w wn2) := Bn1.out.trans (bn2.mono Bn1.out.size)
              have HSn := Lib.hid (HSu.out wn2 Bn2.out)
              clear HNb bn2
              go_wp2_with fail
              refine HSn.out.mono ?_
              rintro e wn3 ⟨rfl, bn3⟩
              have Bn3 : Hid (Below w.heap.size w wn3) := Bn2.out.trans (bn3.mono Bn2.out.size)
              clear HSn bn3
              go_wp2
              go_ret
              exact ⟨rfl, Bn3.out⟩
            · have hb0 : ((by_.toNat : Int) == 0) = false := by rw [beq_eq_false_iff_ne]; intro e; exact hby (UInt8.toNat_inj.1 (by rw [UInt8.toNat_zero]; omega))
              have hne8 : d8 ≠ SM.getD q 0 := fun e => hby (by rw [hd8] at e; have h2 := congrArg (SM.getD q 0 ^^^ ·) e; simpa [← UInt8.xor_assoc] using h2)
              have HO11 := HOp.out _ (some ⟨g8, o8, none⟩) n1 c8 (SM.set q d8) B12.out (by rw [List.length_set]; exact HN1.out) (S11.out _ rfl) (by rw [List.length_set]; exact HRo.out)
              rw [Hspo.out q (by have := Hqn.out; have := HN1.out; omega) d8 hne8] at HO11
              have HO12 := Lib.hid HO11
              have B13 := B12
              rw [hu4] at hcell hfro HO12 B12
              clear HO11 S11 O10 X8 hd8 hne8 hf8 hr8 B11
              generalize (SM.getD q 0).toNat = old at *
              go_wp2_with fail
              refine HO12.out.mono ?_
              rintro e u5 ⟨⟨_, rfl⟩ | ⟨z9, _, _, hz9⟩, b12⟩
              rotate_left
              · cases hz9
              have B14 : Hid (Below w.heap.size w u5) := B12.out.trans (b12.mono B12.out.size)
              clear b12 HO12 B12 B13 hu4 hcell hfro hxor hs2 HOp
              simp only [errV, zeroM]
              obtain ⟨u6, hu6⟩ : ∃ V, V = u5.alloc (.cells #[.int .i64 0, .int .i64 0, .int .i64 0, .int .i64 0, .int .i64 0, .int .i64 0, .int .i64 0, .int .i64 0, .bool false, .int .i64 0, .slice none 0 0, .slice none 0 0] 30) := ⟨_, rfl⟩
              have B15 : Hid (Below w.heap.size w u6) := by rw [hu6]; exact B14.out.alloc B14.out.size _
              have HNz := Lib.hid (HNum.out u6 B15.out)
              go_wp2_with fail
              rw [← hu6]
              clear hu6 B14
              refine HNz.out.mono ?_
              rintro e u7 ⟨rfl, b15⟩
              have B16 : Hid (Below w.heap.size w u7) := B15.out.trans (b15.mono B15.out.size)
              clear b15 HNz B15
              have HNa := Lib.hid (HNum.out u7 B16.out)
              go_wp2_with fail
              refine HNa.out.mono ?_
              rintro e wn1 ⟨rfl, bn1⟩
              have Bn1 : Hid (Below w.heap.size w wn1) := B16.out.trans (bn1.mono B16.out.size)
              have HNb := Lib.hid (HNum.out wn1 Bn1.out)
              clear HNa bn1
              go_wp2_with fail
              refine HNb.out.mono ?_
              rintro e wn2 ⟨rfl, bn2⟩
              have Bn2 : Hid (Below w.heap.size w wn2) := Bn1.out.trans (bn2.mono Bn1.out.size)
              have HSn := Lib.hid (HSu.out wn2 Bn2.out)
              clear HNb bn2
              go_wp2_with fail
              refine HSn.out.mono ?_
              rintro e wn3 ⟨rfl, bn3⟩
              have Bn3 : Hid (Below w.heap.size w wn3) := Bn2.out.trans (bn3.mono Bn2.out.size)
              clear HSn bn3
              go_wp2
              go_ret
              exact ⟨rfl, Bn3.out⟩
          · have hcv := run_toStr (P := Tryz.prog) T22 U9 IB.out
            go_simp
            try (go_wp2_with fail)
            refine hK.out _ _ ?_ (fun hHeld => ?_)
            · (try dsimp only)
              assumption
            clear hK K
            try simp only [Act.put, List.setIfInBounds_toArray, List.set_cons_zero, List.set_cons_succ]
            clear hcv IB
            refine wpAnyH_ready (rs := [10]) (by kernel_rfl) (by simp) ?_
            refine AllReadyH.cons (List.getElem?_toArray.trans rfl) (fun K hK => ?_) (AllReadyH.nil)
            have hcv := run_toStr (P := Tryz.prog) T22 U9 IA.out
            go_simp
            try (go_wp2_with fail)
            refine hK.out _ _ ?_ (fun hHeld => ?_)
            · (try dsimp only)
              assumption
            clear hK K
            try simp only [Act.put, List.setIfInBounds_toArray, List.set_cons_zero, List.set_cons_succ]
            clear hcv IA
            refine wpAnyH_take (i := 15) (v := ?hve415) (List.getElem?_toArray.trans rfl) (by kernel_rfl) (by kernel_rfl) (by kernel_rfl) (fun _ _ _ h => h) (Or.inl ⟨by rfl, ?hye415⟩) (by assumption) ?hre415
            case hye415 => (intro wt hSw; (try dsimp only at hSw); go_simp; try (with_reducible rfl))
            try simp only [Act.put, List.setIfInBounds_toArray, List.set_cons_zero, List.set_cons_succ]
            refine wpAnyH_take (i := 16) (v := ?hve416) (List.getElem?_toArray.trans rfl) (by kernel_rfl) (by kernel_rfl) (by kernel_rfl) (fun _ _ _ h => h) (Or.inl ⟨by rfl, ?hye416⟩) (by assumption) ?hre416
            case hye416 => (intro wt hSw; (try dsimp only at hSw); go_simp; try (with_reducible rfl))
            try simp only [Act.put, List.setIfInBounds_toArray, List.set_cons_zero, List.set_cons_succ]
            refine wpAnyH_done (by kernel_rfl) ?_ _
            refine NoPanic.normal ?_
            have I7 := Lib.hid (I6.out.below hHeld.1.out)
            have B7 := Lib.hid (fin.out vx hHeld)
            clear hHeld S0 step fin I6 B6
            obtain ⟨u, hu⟩ : ∃ u, u = PK.u64 ak := ⟨_, rfl⟩
            have hwa := wrap_u64_nat ak
            rw [← hu] at hwa
            have hn5 : 5 ≤ n1 := by have := Hsl.out; have := HN1.out; omega
            have hn47 : n1 + 1 ≤ 140737488355328 := by have := Hsl.out; have := HRm.out; have := HN1.out; simp only [roomB] at *; omega
            obtain ⟨q, hq⟩ : ∃ q, q = u % n1 := ⟨_, rfl⟩
            have hqn : q < n1 := by rw [hq]; exact Nat.mod_lt _ (by omega)
            have hwn : IntKind.u64.wrap (n1 : Int) = (n1 : Int) := by rw [IntKind.wrap_u64]; omega
            have hqe : (u : Int) % (n1 : Int) = (q : Int) := by rw [hq]; omega
            have hwq : IntKind.i64.wrap (q : Int) = (q : Int) := by rw [IntKind.wrap_i64]; omega
            have hnz : ¬ ((n1 : Int) = 0) := by omega
            have hcap : n1 ≤ c1 := by obtain ⟨_, cap', he', h1, _⟩ := I7.out; simp at he'; have := HN1.out; omega
            have hs1 : ∀ W : World, (Instr.sliceAt 22 (.slice a1 n1 c1) none (some (.int .i64 (q : Int))) none).run Tryz.prog W = .ok (.slice (cutAt a1 0 c1) q c1) W := fun W => by
              rw [run_sliceAt_h T22 a1 n1 c1 (q : Int) (by omega) (by omega) W]
              congr 2
            have ic := (isB_cut I7.out 0 q (Nat.zero_le _) (by have := HN1.out; omega)).1
            rw [Nat.sub_zero, Nat.sub_zero, List.drop_zero] at ic
            obtain ⟨ac, hac⟩ : ∃ ac, ac = cutAt a1 0 c1 := ⟨_, rfl⟩
            rw [← hac] at ic
            simp only [← hac] at hs1
            have HO7 := HOp.out vx ac q c1 (SM.take q) B7.out (by rw [List.length_take]; have := HN1.out; omega) ic (by rw [List.length_take]; have := HRo.out; omega)
            rw [Hcut.out q (by have := HN1.out; omega)] at HO7
            have HO8 := Lib.hid HO7
            have Hqn := Lib.hid hqn
            have Hn47 := Lib.hid hn47
            clear hu hq ic HO7 hac hcap Hcut Hopen
            simp only [errV] at HNum
            try simp only [Nat.cast_ofNat, Int.reduceAdd] at HNum
            go_wp2_with fail
            refine HO8.out.mono ?_
            rintro e u1 ⟨⟨_, rfl⟩ | ⟨z9, _, _, hz9⟩, b8⟩
            rotate_left
            · cases hz9
            have I8 := Lib.hid (I7.out.below b8)
            have B8 : Hid (Below w.heap.size w u1) := B7.out.trans (b8.mono B7.out.size)
            clear b8 HO8 I7 B7 hs1 hwa hqe hwn
            simp only [errV, zeroM]
            obtain ⟨u2, hu2⟩ : ∃ V, V = u1.alloc (.cells #[.int .i64 0, .int .i64 0, .int .i64 0, .int .i64 0, .int .i64 0, .int .i64 0, .int .i64 0, .int .i64 0, .bool false, .int .i64 0, .slice none 0 0, .slice none 0 0] 30) := ⟨_, rfl⟩
            have bu2 : Below u1.heap.size u1 u2 := by rw [hu2]; exact (Below.refl _ _).alloc (Nat.le_refl _) _
            have B9 : Hid (Below w.heap.size w u2) := B8.out.trans (bu2.mono B8.out.size)
            have S9 : Hid (SrcB Tryz.prog 22 u2 (.slice a1 n1 c1) SM) := srcB_of Tryz.underlying22 (I8.out.below bu2)
            rw [hu2] at S9
            have B9' := B9
            rw [hu2] at B9'
            clear bu2 I8 B8 hu2 B9 hn47
            go_wp2_with (first
              | (at_builtin; refine wpList_appN rfl (.tmp 65) (.tmp 66) rfl T22 (v := .slice none 0 0) (n := 0) (m := n1) rfl HN1.out rfl (OwnB.nil _) rfl S9.out (by have := Hn47.out; simp only [roomB]; omega) ?_; intro a7 c7 w7 o7 g7 b7; rw [Nat.zero_add] at o7 b7; have O7 := Lib.hid o7
                 have X7 : Hid (∀ b, Value.ownBlock (.slice a7 n1 c7) = some b → w.heap.size ≤ b) := Lib.hid (fun b hb => by
                   rcases b7 with e | ⟨g, rfl, hg⟩
                   · rw [e] at hb; simp [Value.ownBlock] at hb
                   · have := B9'.out.size; simp only [Value.ownBlock, Option.some.injEq] at hb; omega)
                 have B7 : Hid (Below w.heap.size w w7) := Lib.hid (below_of_fr B9'.out g7 (fun k hk => by simp [Value.ownBlock] at hk))
                 clear o7 b7 g7)
              | (at_builtin; refine wpList_appN rfl (.tmp 67) (.tmp 69) rfl T22 (v := .slice a7 n1 c7) (n := n1) (m := 1) HN1.out rfl rfl (O7.out.alloc _) rfl (srcB_of Tryz.underlying22 (isB_one w7 by_ _)) (by have := Hn47.out; simp only [roomB]; omega) ?_; intro a8 c8 w8 o8 g8 b8; have O8 := Lib.hid o8
                 have B8 : Hid (Below w.heap.size w w8) := Lib.hid (below_of_fr (B7.out.alloc B7.out.size _) g8 X7.out)
                 have X8 : Hid (∀ b, Value.ownBlock (.slice a8 (n1 + 1) c8) = some b → w.heap.size ≤ b) := Lib.hid (fun b hb => by
                   rcases b8 with e | ⟨g, rfl, hg⟩
                   · rw [e] at hb; exact X7.out b hb
                   · have := B7.out.size; simp only [Value.ownBlock, Option.some.injEq, World.size_alloc] at hb hg; omega)
                 clear o8 b8 g8))
            have HO9 := HOp.out w8 a8 (n1 + 1) c8 (SM ++ [by_]) B8.out (by have := HN1.out; simp; omega) (by simpa using O8.out.isB) (by have := Hn47.out; have := HN1.out; simp [roomB]; omega)
            rw [Hmore.out by_] at HO9
            have HO10 := Lib.hid HO9
            clear HO9 Hmore S9 O7 X7 B7 B9'
            refine HO10.out.mono ?_
            rintro e u3 ⟨⟨_, rfl⟩ | ⟨z9, _, _, hz9⟩, b9⟩
            rotate_left
            · cases hz9
            simp only [errV, zeroM]
            have B10 : Hid (Below w.heap.size w u3) := B8.out.trans (b9.mono B8.out.size)
            have O9 := Lib.hid (O8.out.kept (X := fun _ => False) (Fr.of_below b9) (fun _ _ x => x))
            clear b9 HO10 O8 B8
            obtain ⟨u4, hu4⟩ : ∃ V, V = u3.alloc (.cells #[.int .i64 0, .int .i64 0, .int .i64 0, .int .i64 0, .int .i64 0, .int .i64 0, .int .i64 0, .int .i64 0, .bool false, .int .i64 0, .slice none 0 0, .slice none 0 0] 30) := ⟨_, rfl⟩
            have bu4 : Below u3.heap.size u3 u4 := by rw [hu4]; exact (Below.refl _ _).alloc (Nat.le_refl _) _
            have B11 : Hid (Below w.heap.size w u4) := B10.out.trans (bu4.mono B10.out.size)
            have O10 := Lib.hid (O9.out.kept (X := fun _ => False) (Fr.of_below bu4) (fun _ _ x => x))
            try rw [List.nil_append] at O10
            clear bu4 O9 B10
            have L10 : (SM ++ [by_]).length = n1 + 1 := by have := HN1.out; simp; omega
            have hg10 : ∃ g o, a8 = some ⟨g, o, none⟩ ∧ n1 + 1 ≤ c8 ∧ c8 ≤ maxLen ∧ g < u4.heap.size ∧ (∀ j, j < c8 → (u4.cell? ⟨g, o + j, none⟩).isSome = true ∧ u4.frozen? ⟨g, o + j, none⟩ = false) ∧ ∀ i, i < n1 + 1 → u4.cell? ⟨g, o + i, none⟩ = some (.int .u8 (at8 (SM ++ [by_]) i)) := by
              rcases O10.out with ⟨e, _⟩ | ⟨g', o', cap', e, h1, h2, h3, h4, h5⟩
              · simp at e
              · rw [L10] at e h1 h4
                simp only [Value.slice.injEq] at e
                obtain ⟨rfl, _, rfl⟩ := e
                exact ⟨g', o', rfl, h1, h2, h3, h5, h4⟩
            obtain ⟨g8, o8, rfl, hc8, hm8, hg8, hf8, hr8⟩ := hg10
            have hgw : w.heap.size ≤ g8 := X8.out g8 rfl
            have hcell : u4.cell? ⟨g8, o8 + q, none⟩ = some (.int .u8 ((SM.getD q 0).toNat : Int)) := by
              rw [hr8 q (by have := Hqn.out; omega)]
              have h1 : q < SM.length := by have := Hqn.out; have := HN1.out; omega
              simp [at8, List.getD_eq_getElem?_getD, h1, List.getElem?_append_left]
            have hfro := (hf8 q (by have := Hqn.out; omega)).2
            obtain ⟨d8, hd8⟩ : ∃ d : UInt8, d = SM.getD q 0 ^^^ by_ := ⟨_, rfl⟩
            have hxor : bits .xor .u8 ((SM.getD q 0).toNat : Int) (by_.toNat : Int) = (d8.toNat : Int) := by
              rw [u8_xor_nat _ _ (UInt8.toNat_lt _) (UInt8.toNat_lt _), hd8, UInt8.toNat_xor]
            have hcut0 : cutAt (some (⟨g8, o8, none⟩ : Addr)) 0 c8 = some ⟨g8, o8, none⟩ := by simp [cutAt, Addr.add]
            have hs2 : ∀ W : World, (Instr.sliceAt 22 (.slice (some ⟨g8, o8, none⟩) (n1 + 1) c8) none (some (.int .i64 (n1 : Int))) none).run Tryz.prog W = .ok (.slice (some ⟨g8, o8, none⟩) n1 c8) W := fun W => by
              rw [run_sliceAt_h T22 (some ⟨g8, o8, none⟩) (n1 + 1) c8 (n1 : Int) (by omega) (by omega) W, hcut0]
              congr 2
            have S11 : Hid (∀ V, V = u4.setCell ⟨g8, o8 + q, none⟩ (.int .u8 (d8.toNat : Int)) → IsB V (.slice (some ⟨g8, o8, none⟩) n1 c8) (SM.set q d8)) := fun V hV => by
              rw [hV]
              have h1 := (isB_cut (OwnB.set O10.out q (by have := Hqn.out; omega) d8) 0 n1 (Nat.zero_le _) (by rw [List.length_set, L10]; omega)).1
              rw [hcut0, Nat.sub_zero, Nat.sub_zero, List.drop_zero] at h1
              have e : (List.set (SM ++ [by_]) q d8).take n1 = SM.set q d8 := by
                have hq1 : q < SM.length := by have := Hqn.out; have := HN1.out; omega
                rw [List.set_append_left _ _ hq1]
                exact List.take_left' (by rw [List.length_set]; exact HN1.out)
              rwa [e] at h1
            have B12 : Hid (Below w.heap.size w (u4.setCell ⟨g8, o8 + q, none⟩ (.int .u8 (d8.toNat : Int)))) := B11.out.setCell hgw _
            have hil : (q : Int) < (n1 : Int) := by have := Hqn.out; omega
            by_cases hby : by_ = 0
            · have hb0 : ((by_.toNat : Int) == 0) = true := by rw [hby]; rfl
              clear hs2 S11 B12 O10 X8 hcell hxor hd8 hf8 hr8
              go_wp2_with fail
              rw [← hu4]
              clear hu4
              have HNa := Lib.hid (HNum.out u4 B11.out)
              go_wp2_with fail
              refine HNa.out.mono ?_
              rintro e wn1 ⟨rfl, bn1⟩
              have Bn1 : Hid (Below w.heap.size w wn1) := B11.out.trans (bn1.mono B11.out.size)
              have HNb := Lib.hid (HNum.out wn1 Bn1.out)
              clear HNa bn1
              go_wp2_with fail
              refine HNb.out.mono ?_
              rintro e wn2 ⟨rfl, bn2⟩
              have Bn2 : Hid (Below w.heap.size w wn2) := Bn1.out.trans (bn2.mono Bn1.out.size)
              have HSn := Lib.hid (HSu.out wn2 Bn2.out)
              clear HNb bn2
              go_wp2_with fail
              refine HSn.out.mono ?_
              rintro e wn3 ⟨rfl, bn3⟩
              have Bn3 : Hid (Below w.heap.size w wn3) := Bn2.out.trans (bn3.mono Bn2.out.size)
              clear HSn bn3
              go_wp2
              go_ret
              exact ⟨rfl, Bn3.out⟩
            · have hb0 : ((by_.toNat : Int) == 0) = false := by rw [beq_eq_false_iff_ne]; intro e; exact hby (UInt8.toNat_inj.1 (by rw [UInt8.toNat_zero]; omega))
              have hne8 : d8 ≠ SM.getD q 0 := fun e => hby (by rw [hd8] at e; have h2 := congrArg (SM.getD q 0 ^^^ ·) e; simpa [← UInt8.xor_assoc] using h2)
              have HO11 := HOp.out _ (some ⟨g8, o8, none⟩) n1 c8 (SM.set q d8) B12.out (by rw [List.length_set]; exact HN1.out) (S11.out _ rfl) (by rw [List.length_set]; exact HRo.out)
              rw [Hspo.out q (by have := Hqn.out; have := HN1.out; omega) d8 hne8] at HO11
              have HO12 := Lib.hid HO11
              have B13 := B12
              rw [hu4] at hcell hfro HO12 B12
              clear HO11 S11 O10 X8 hd8 hne8 hf8 hr8 B11
              generalize (SM.getD q 0).toNat = old at *
              go_wp2_with fail
              refine HO12.out.mono ?_
              rintro e u5 ⟨⟨_, rfl⟩ | ⟨z9, _, _, hz9⟩, b12⟩
              rotate_left
              · cases hz9
              have B14 : Hid (Below w.heap.size w u5) := B12.out.trans (b12.mono B12.out.size)
              clear b12 HO12 B12 B13 hu4 hcell hfro hxor hs2 HOp
              simp only [errV, zeroM]
              obtain ⟨u6, hu6⟩ : ∃ V, V = u5.alloc (.cells #[.int .i64 0, .int .i64 0, .int .i64 0, .int .i64 0, .int .i64 0, .int .i64 0, .int .i64 0, .int .i64 0, .bool false, .int .i64 0, .slice none 0 0, .slice none 0 0] 30) := ⟨_, rfl⟩
              have B15 : Hid (Below w.heap.size w u6) := by rw [hu6]; exact B14.out.alloc B14.out.size _
              have HNz := Lib.hid (HNum.out u6 B15.out)
              go_wp2_with fail
              rw [← hu6]
              clear hu6 B14
              refine HNz.out.mono ?_
              rintro e u7 ⟨rfl, b15⟩
              have B16 : Hid (Below w.heap.size w u7) := B15.out.trans (b15.mono B15.out.size)
              clear b15 HNz B15
              have HNa := Lib.hid (HNum.out u7 B16.out)
              go_wp2_with fail
              refine HNa.out.mono ?_
              rintro e wn1 ⟨rfl, bn1⟩
              have Bn1 : Hid (Below w.heap.size w wn1) := B16.out.trans (bn1.mono B16.out.size)
              have HNb := Lib.hid (HNum.out wn1 Bn1.out)
              clear HNa bn1
              go_wp2_with fail
              refine HNb.out.mono ?_
              rintro e wn2 ⟨rfl, bn2⟩
              have Bn2 : Hid (Below w.heap.size w wn2) := Bn1.out.trans (bn2.mono Bn1.out.size)
              have HSn := Lib.hid (HSu.out wn2 Bn2.out)
              clear HNb bn2
              go_wp2_with fail
              refine HSn.out.mono ?_
              rintro e wn3 ⟨rfl, bn3⟩
              have Bn3 : Hid (Below w.heap.size w wn3) := Bn2.out.trans (bn3.mono Bn2.out.size)
              clear HSn bn3
              go_wp2
              go_ret
              exact ⟨rfl, Bn3.out⟩
    · rw [decide_eq_false hmay] at HM
      clear hmay HOp HNum HG HSe HEn HRm HEe
      go_enter Tryz.func5, Tryz.ntmps5
      go_wp2_with fail
      rw [← hWa]
      clear hWa
      refine HL1.out.mono ?_
      rintro e w1 ⟨rfl, b1⟩
      have g1 := (b1.block _ (Array.getElem?_eq_some_iff.1 gA.out).1).trans gA.out
      have B1 : Hid (Below w.heap.size w w1) := hBa.out.trans (b1.mono hBa.out.size)
      have HM1 := Lib.hid (HM.out w1 B1.out)
      clear HL1 b1 HM gA p0 p1 p2 p3 p4 p5 p6 p7 p8 p9 pa pb
      obtain ⟨⟨p0, p1, p2, p3, p4, p5, p6, p7, p8, p9, pa, pb⟩, _⟩ := cells12 g1
      clear g1
      go_wp2_with fail
      refine HM1.out.mono ?_
      rintro e w2 ⟨rfl, b2⟩
      have B2 : Hid (Below w.heap.size w w2) := B1.out.trans (b2.mono B1.out.size)
      have HS1 := Lib.hid (HSu.out w2 B2.out)
      clear HM1 b2 HSu p0 p1 p2 p3 p4 p5 p6 p7 p8 p9 pa pb
      go_wp2_with fail
      refine HS1.out.mono ?_
      rintro e w3 ⟨rfl, b3⟩
      have B3 : Hid (Below w.heap.size w w3) := B2.out.trans (b3.mono B2.out.size)
      clear HS1 b3
      go_wp2
      go_ret
      exact ⟨rfl, B3.out⟩
end Go.Proofs.YtbgockggbpmhnaaGreatDoor
namespace Go.Proofs.YtbgockggbpmhnaaGreatDoor.msgSpoilt
open Go Go.ChangeShapes Go.WideShapes Go.ChangeAt Go.RowKit

set_option maxRecDepth 100000 in
theorem contract (H : Type) (enc : TypeId × Value → H) (W : World) (base : Nat) (args : Array Value) (ds gs : List (DataW H)) (before : List MemPlace)
    (hval : ∀ (j : Nat) t v, Tryz.f5.params[j]? = some t → args[j]? = some v → Value.okWide Tryz.prog W .any base t v)
    (hW : DataW.Whole enc Tryz.prog Tryz.f5.params.toList Rows.msgSpoiltSpec.vars false W args.toList ds gs before)
    (hz : (DataW.weightsEach Tryz.prog (Tryz.f5.params.toList ++ (OpenSpec.ofChange Rows.msgSpoiltSpec).bare.plain.varTypes Tryz.prog) (ds ++ gs)).all (· ≤ reachBytes) = true) (hL : laidMetH Tryz.prog Rows.msgSpoiltRow.laid W) :
    Calls Tryz.prog 5 args W fun e W' => ∃ v, e = .returned v ∧ Rows.msgSpoiltSpec.post enc Tryz.prog Tryz.f5 false true false false W args v W' := by
  have hW' := hW
  obtain ⟨p, q, hA0, hV, rfl, hfz, hnd⟩ := hW
  have hA : DataW.TrodAll enc Tryz.prog W 0 (fun _ => true) true Tryz.f5.params.toList args.toList ds p := hA0
  rw [Tryz.params5] at hA hval hz
  obtain ⟨v0, vs0, d0, ds0, p0, q0, hargs, rfl, rfl, h0, r0⟩ := trodAll_cons hA
  obtain ⟨v1, vs1, d1, ds1, p1, q1, rfl, rfl, rfl, h1, r1⟩ := trodAll_cons r0
  obtain ⟨v2, vs2, d2, ds2, p2, q2, rfl, rfl, rfl, h2, r2⟩ := trodAll_cons r1
  obtain ⟨rfl, rfl, rfl⟩ := trodAll_nil r2
  obtain rfl : args = #[v0, v1, v2] := by cases args; simp_all
  obtain ⟨rfl, rfl⟩ := trodVars_none hV
  have k0 := h0
  have lt0 : ∀ x ∈ p0, x.block < W.heap.size := by obtain ⟨m, hm⟩ := k0; exact DataW.trod_lt m _ _ _ hm
  have k1 := h1
  have lt1 : ∀ x ∈ p1, x.block < W.heap.size := by obtain ⟨m, hm⟩ := k1; exact DataW.trod_lt m _ _ _ hm
  have k2 := h2
  have lt2 : ∀ x ∈ p2, x.block < W.heap.size := by obtain ⟨m, hm⟩ := k2; exact DataW.trod_lt m _ _ _ hm
  obtain ⟨x, rfl, hfit, hwx⟩ := open_msgW (hval 0 25 v0 rfl rfl) h0
  obtain ⟨hdn, hes⟩ := hwx reachBytes (List.all_eq_true.2 fun x hx => List.all_eq_true.1 hz _ (DataW.weights_mem_each (j := 0) rfl rfl x hx))
  have hR : reachBytes ≤ roomB := by decide
  have hd : x.dn ≤ roomB := Nat.le_trans hdn hR
  have hb : ∀ y ∈ x.es, y.n ≤ roomB := fun y hy => Nat.le_trans (hes y hy) hR
  clear hA0
  obtain ⟨ak, rfl, rfl, rfl, wa⟩ := open_int Tryz.underlying3 (hval 1 3 v1 rfl rfl) h1
  obtain ⟨bk, rfl, rfl, rfl, wb⟩ := open_int Tryz.underlying5 (hval 2 5 v2 rfl rfl) h2
  have hbk : ∃ c : UInt8, bk = (c.toNat : Int) := by
    have h := bounds_u8 wb
    exact ⟨UInt8.ofNat bk.toNat, by rw [UInt8.toNat_ofNat']; omega⟩
  obtain ⟨by_, rfl⟩ := hbk
  refine (msgSpoilt_any x ak by_ W (env_of_laid hL) hfit hd hb).mono fun e W' ⟨he, bel⟩ => ?_
  subst he
  exact ⟨_, rfl, _, _, _, [], _, [], hW', trodAll_mk1 (shut_bool Tryz.underlying4 _), (trodAll_cons_mk (Below.trod laidOut (by kernel_rfl) (of_decide_eq_true (by kernel_rfl)) k0 bel lt0) (trodAll_cons_mk (shut_int Tryz.underlying3 wa) (trodAll_cons_mk (shut_int Tryz.underlying5 wb) trodAll_mk0))), rfl, bel.frame _, fun h => by cases h⟩

theorem reads (os : Os) {H : Type} (enc : TypeId × Value → H) : (DataW.whole enc Tryz.prog ((laidWorld os).forCall (fun _ _ => 0) ⟨#[], #[.agg #[.int .i64 0, .int .i64 0, .int .i64 0, .int .i64 0, .int .i64 0, .int .i64 0, .int .i64 0, .int .i64 0, .bool false, .int .i64 0, .slice none 0 0, .slice none 0 0], .int .i64 0, .int .u8 0], []⟩).memory Tryz.f5.params.toList Rows.msgSpoiltSpec.vars false #[Value.agg #[.int .i64 0, .int .i64 0, .int .i64 0, .int .i64 0, .int .i64 0, .int .i64 0, .int .i64 0, .int .i64 0, .bool false, .int .i64 0, .slice none 0 0, .slice none 0 0], .int .i64 0, .int .u8 0].toList 8).isSome = true := by
  kernel_rfl

set_option maxRecDepth 100000 in
theorem lifted (os : Os) (started : os.Started) (H : Type) (enc : TypeId × Value → H) (F : Stop.Interp) :
    ReturnsInHanded {} Tryz.checked os 5 .any ((OpenSpec.ofChange Rows.msgSpoiltSpec).preRow enc Tryz.prog Tryz.f5 Rows.msgSpoiltRow.domain false Rows.msgSpoiltRow.laid) (((OpenSpec.ofChange Rows.msgSpoiltSpec).at F).post enc Tryz.prog Tryz.f5 false true false false) := by
  obtain ⟨x, hx⟩ := Option.isSome_iff_exists.1 (reads os enc)
  refine returnsInHanded_of_row (C := Tryz.checked) (s := OpenSpec.ofChange Rows.msgSpoiltSpec) own started (by kernel_rfl) Tryz.func5
    (witness_row_at (enc := enc) (C := Tryz.checked) false (laidWorld os) #[.agg #[.int .i64 0, .int .i64 0, .int .i64 0, .int .i64 0, .int .i64 0, .int .i64 0, .int .i64 0, .int .i64 0, .bool false, .int .i64 0, .slice none 0 0, .slice none 0 0], .int .i64 0, .int .u8 0] rfl (by kernel_rfl) (by kernel_rfl) (by kernel_rfl)
      (OpenSpec.preRow_of_cond 8 hx rfl (fun k hk => by cases hk) (by kernel_rfl) (laidWorld_met os _))) ?_
  intro W base args ds gs before hval hW _ _ hz hL _ _
  exact contract H enc W base args ds gs before hval hW hz hL

theorem said : Rows.MsgSpoiltSaid :=
  OpenClaim.holds_of_cond 5 Tryz.f5 rfl rfl rfl rfl rfl rfl rfl ⟨rfl, rfl, rfl, rfl, rfl⟩ rfl rfl rfl rfl rfl (by kernel_rfl) Tryz.func5 (by kernel_rfl)
    (of_decide_eq_true (by kernel_rfl)) (by unfold Func.isWrapper; first | (rw [if_pos (by decide +kernel)]; kernel_rfl) | (rw [if_neg (by decide +kernel)]; exact ⟨rfl, rfl⟩))
    (fun os started H enc _ F => by rw [OpenClaim.pre_eq_preRow]; exact lifted os started H enc F)

/-- No parameter wants a stand-in; the program's own looks are as the card says. -/
theorem plain (f : FuncId) (fn : Func) (hf : Tryz.pinned.checked.prog.funcNamed "tollbar/tollbarlaw11.MsgSpoilt" = some f) (hfn : Tryz.pinned.checked.prog.funcs[f]? = some fn) :
    true = Tryz.pinned.checked.prog.looks [] ∧ ∀ (j : Nat) t, fn.params[j]? = some t → Tryz.pinned.checked.prog.wantsStandIn t = false := by
  obtain rfl : f = 5 := Option.some.inj ((show Tryz.prog.funcNamed "tollbar/tollbarlaw11.MsgSpoilt" = some 5 by kernel_rfl).symm.trans hf) |>.symm
  obtain rfl : fn = Tryz.f5 := (Option.some.inj (Tryz.func5.symm.trans hfn)).symm
  refine ⟨by kernel_rfl, fun j t ht => ?_⟩
  rw [Tryz.params5] at ht
  have hm := Array.mem_of_getElem? ht
  simp at hm
  rcases hm with rfl | rfl | rfl
  · exact (show Tryz.prog.wantsStandIn 25 = false by kernel_rfl)
  · exact (show Tryz.prog.wantsStandIn 3 = false by kernel_rfl)
  · exact (show Tryz.prog.wantsStandIn 5 = false by kernel_rfl)

/-- THE CARD. -/
theorem card : Rows.MsgSpoiltCardSaid :=
  Claim7.holds_tied_plain_at .later [] _ _ _ _ said (fun _ h => by cases h) (by kernel_rfl) (fun _ h => by cases h) msgSpoilt_row_tie rfl ⟨rfl, rfl⟩ (by kernel_rfl) rfl plain (by kernel_rfl)
#print axioms card
end Go.Proofs.YtbgockggbpmhnaaGreatDoor.msgSpoilt
