/-
  In one text (a claim holds 60 files at most): seal.Open; what came in (bytes, things, a message); msg.Seal, msg.Open, sure; the document's Decode and Encode of a message; both Decodes in one form; the room that a message's bytes take.
  Conditions: none but those that the theorems' lines name.
-/
import Derived.Test.YtbgockggbpmhnaaGreatDoorSeal2
import Derived.Test.YtbgockggbpmhnaaGreatDoorEnv
import Derived.Test.YtbgockggbpmhnaaGreatDoorPure3
import Derived.Lib.SmallJoins
import Derived.SizedLaws
import Derived.Deep.Slices
import Derived.Deep.Fields
import Derived.ChangeSame
import Derived.Test.YtbgockggbpmhnaaGreatDoorDec
import Derived.Test.YtbgockggbpmhnaaGreatDoorEnc
import Derived.Test.YtbgockggbpmhnaaGreatDoorGive3
import Derived.Test.YtbgockggbpmhnaaGreatDoorRefC
import Derived.Test.YtbgockggbpmhnaaGreatDoorEntR2
import Derived.Test.YtbgockggbpmhnaaGreatDoorCrc
namespace Go.Proofs.YtbgockggbpmhnaaGreatDoor
open Go Go.RowKit

/-- What Open hands back. -/
def OpenR (er : Nat → Value) (w w' : World) (e : Ending) (l : List UInt8) : Prop :=
  ((PK.openE l ≠ 0 ∧ e = .returned (.tuple #[.int .u8 0, .slice none 0 0, er (PK.openE l)])) ∨ (PK.openE l = 0 ∧ ∃ a n c, e = .returned (.tuple #[.int .u8 (at8 l 0), .slice a n c, er 0]) ∧ (PK.openD l).length = n ∧ IsB w' (.slice a n c) (PK.openD l))) ∧ Below w.heap.size w w'
theorem eq_four (a b c d e f g h : Int) (W : World) : (Op.equalIn 10000 137 (.agg #[.int .u8 a, .int .u8 b, .int .u8 c, .int .u8 d]) (.agg #[.int .u8 e, .int .u8 f, .int .u8 g, .int .u8 h])).run Tryz.prog W = .ok (a == e && (b == f && (c == g && d == h))) W := by
  have hu : Tryz.prog.underlying 137 = some (.array 4 5) := Tryz.underlying137
  obtain ⟨i, hi, _⟩ := T22.parts
  have hc : Tryz.prog.cellsOf 5 = 1 := by kernel_rfl
  rw [run_equalIn_array W 9999 _ _ hu hi, hc]
  have hr : List.range 4 = [0, 1, 2, 3] := rfl
  have h8 : Tryz.prog.underlying 5 = some (.int .u8) := Tryz.underlying5
  rw [hr]
  have he : ∀ x y, (Op.equalIn 9999 5 (.int .u8 x) (.int .u8 y)).run Tryz.prog W = .ok (x == y) W := fun x y => run_equalIn_int W 9998 5 .u8 .u8 x y h8
  have hp : ∀ (x0 x1 x2 x3 : Int), (part 5 #[.int .u8 x0, .int .u8 x1, .int .u8 x2, .int .u8 x3] 0).run Tryz.prog W = .ok (.int .u8 x0) W ∧ (part 5 #[.int .u8 x0, .int .u8 x1, .int .u8 x2, .int .u8 x3] 1).run Tryz.prog W = .ok (.int .u8 x1) W ∧ (part 5 #[.int .u8 x0, .int .u8 x1, .int .u8 x2, .int .u8 x3] 2).run Tryz.prog W = .ok (.int .u8 x2) W ∧ (part 5 #[.int .u8 x0, .int .u8 x1, .int .u8 x2, .int .u8 x3] 3).run Tryz.prog W = .ok (.int .u8 x3) W := by
    intro x0 x1 x2 x3
    simp [part]
  obtain ⟨p0, p1, p2, p3⟩ := hp a b c d
  obtain ⟨q0, q1, q2, q3⟩ := hp e f g h
  simp only [Op.eqItems, Sem.run_bind, Nat.mul_one, p0, q0, he, Result.andThen_ok]
  cases h1 : a == e <;> cases h2 : b == f <;> cases h3 : c == g <;> cases h4 : d == h <;> simp [p1, p2, p3, q1, q2, q3, he, h2, h3, h4]
theorem tail_eq (s : Nat) (t : List UInt8) (ht : t.length = 4) : (at8 (PK.tailP s) 0 == at8 t 0 && (at8 (PK.tailP s) 1 == at8 t 1 && (at8 (PK.tailP s) 2 == at8 t 2 && at8 (PK.tailP s) 3 == at8 t 3))) = decide (PK.tailP s = t) := by
  match t, ht with
  | [a, b, c, d], _ =>
    have key : ∀ (x y : UInt8), ((x.toNat : Int) == (y.toNat : Int)) = decide (x = y) := by
      intro x y
      by_cases h : x = y
      · subst h; simp
      · rw [decide_eq_false h, beq_eq_false_iff_ne]
        exact fun e => h (at8_inj e)
    show ((((UInt8.ofNat (s % 256)).toNat : Int) == (a.toNat : Int)) && ((((UInt8.ofNat (s / 256 % 256)).toNat : Int) == (b.toNat : Int)) && ((((UInt8.ofNat (s / 65536 % 256)).toNat : Int) == (c.toNat : Int)) && (((UInt8.ofNat (s / 16777216 % 256)).toNat : Int) == (d.toNat : Int))))) = _
    rw [key, key, key, key]
    simp [PK.tailP]

set_option maxRecDepth 100000 in
set_option maxHeartbeats 4000000 in
theorem sopen_any (a : Option Addr) (n c : Nat) (l : List UInt8) (w : World) (hl : l.length = n) (hv : IsB w (.slice a n c) l) (hl47 : l.length ≤ roomB) :
    Calls Tryz.prog 54 #[.slice a n c] w fun e w' => OpenR errV w w' e l := by
  have hw : IntKind.i64.wrap ((n : Int) - 4) = (n : Int) - 4 := by simp only [roomB] at hl47; rw [IntKind.wrap_i64]; omega
  by_cases h5 : n < 5
  · have h : (n : Int) - 4 < 1 := by omega
    have he : PK.openE l = 12 := by unfold PK.openE; rw [if_pos (by omega)]
    have HR : Hid (OpenR errV w w (.returned (.tuple #[.int .u8 0, .slice none 0 0, .iface 60 (.int .i64 12)])) l) := Lib.hid ⟨.inl ⟨by rw [he]; decide, by rw [he]; rfl⟩, Below.refl _ _⟩
    clear h5 hl hv hl47 he
    go_enter Tryz.func54, Tryz.ntmps54
    go_wp2
    go_ret3
    exact HR.out
  · have h : ¬ ((n : Int) - 4 < 1) := by omega
    obtain ⟨m, rfl⟩ : ∃ m, n = m + 4 := ⟨n - 4, by omega⟩
    obtain ⟨b, o, rfl, hc0⟩ := hv.at hl 0 (by omega)
    have hcap : m + 4 ≤ c := by obtain ⟨_, cap', he', h1, _⟩ := hv; simp at he'; omega
    have hm4 : ((m + 4 : Nat) : Int) - 4 = (m : Int) := by omega
    have hm1 : ¬ m = 0 := by omega
    have h1 : ∀ W : World, (Instr.sliceAt 22 (.slice (some ⟨b, o, none⟩) (m + 4) c) none (some (.int .i64 (((m + 4 : Nat) : Int) - 4))) none).run Tryz.prog W = .ok (.slice (some ⟨b, o, none⟩) m c) W := by
      intro W
      rw [hm4, run_sliceAt_h T22 (some ⟨b, o, none⟩) (m + 4) c (m : Int) (by omega) (by omega) W]
      congr 2
      unfold cutAt
      split <;> simp [Addr.add]
    have h2 : ∀ W : World, (Instr.sliceAt 22 (.slice (some ⟨b, o, none⟩) (m + 4) c) (some (.int .i64 (((m + 4 : Nat) : Int) - 4))) none none).run Tryz.prog W = .ok (.slice (some ⟨b, o + m, none⟩) 4 (c - m)) W := by
      intro W
      rw [hm4, run_sliceAt_l T22 (some ⟨b, o, none⟩) (m + 4) c (m : Int) (by omega) (by omega) W]
      have e1 : (m : Int).toNat = m := by omega
      rw [e1]
      have e2 : cutAt (some ⟨b, o, none⟩) m c = some ⟨b, o + m, none⟩ := by unfold cutAt; rw [if_neg (by omega)]; simp [Addr.add, hm1]
      rw [e2]
      congr 2
      omega
    have h3 : ∀ W : World, (Instr.arrayAt 137 (.slice (some ⟨b, o + m, none⟩) 4 (c - m))).run Tryz.prog W = .ok (.pointer (some ⟨b, o + m, none⟩)) W := fun W => run_arrayAt W 137 _ 4 _ 4 (c - m) Tryz.underlying137 (Nat.le_refl _)
    have h4 : ∀ W : World, (Instr.sliceAt 22 (.slice (some ⟨b, o, none⟩) (m + 4) c) (some (.int .i64 1)) (some (.int .i64 (((m + 4 : Nat) : Int) - 4))) none).run Tryz.prog W = .ok (.slice (some ⟨b, o + 1, none⟩) (m - 1) (c - 1)) W := by
      intro W
      rw [hm4, run_sliceAt_lh T22 (some ⟨b, o, none⟩) (m + 4) c 1 (m : Int) (by omega) (by omega) (by omega) W]
      have e2 : cutAt (some ⟨b, o, none⟩) 1 c = some ⟨b, o + 1, none⟩ := by unfold cutAt; rw [if_neg (by omega)]; simp [Addr.add]
      have e1 : (m : Int).toNat = m := by omega
      rw [show (1 : Int).toNat = 1 from rfl, e1, e2]
    have Hrest : Hid (IsB w (.slice (some ⟨b, o, none⟩) m c) (l.take m) ∧ IsB w (.slice (some ⟨b, o + 1, none⟩) (m - 1) (c - 1)) (PK.openD l) ∧ (PK.openD l).length = m - 1) := by
      have i1 := (isB_cut hv 0 m (by omega) (by omega)).1
      have i2 := (isB_cut hv 1 m (by omega) (by omega)).1
      have c1 : cutAt (some ⟨b, o, none⟩) 0 c = some ⟨b, o, none⟩ := by unfold cutAt; split <;> simp [Addr.add]
      have c2 : cutAt (some ⟨b, o, none⟩) 1 c = some ⟨b, o + 1, none⟩ := by unfold cutAt; rw [if_neg (by omega)]; simp [Addr.add]
      rw [c1] at i1
      rw [c2] at i2
      have e : PK.openD l = (l.take m).drop 1 := by unfold PK.openD; rw [hl]; rfl
      rw [e]
      exact ⟨i1, i2, by simp; omega⟩
    have hcells : ∀ j, j < 4 → w.cell? ⟨b, o + m + j, none⟩ = some (.int .u8 (at8 (l.drop m) j)) := by
      intro j hj
      obtain ⟨b', o', e, h⟩ := hv.at hl (m + j) (by omega)
      simp only [Option.some.injEq, Addr.mk.injEq] at e
      obtain ⟨rfl, rfl, _⟩ := e
      rw [Nat.add_assoc, h, at8_drop]; rfl
    have d0 : w.cell? ⟨b, o + m, none⟩ = some (.int .u8 (at8 (l.drop m) 0)) := hcells 0 (by omega)
    have d1 := hcells 1 (by omega)
    have d2 := hcells 2 (by omega)
    have d3 := hcells 3 (by omega)
    have hf0 : w.cell? ⟨b, o, none⟩ = some (.int .u8 (at8 l 0)) := hc0
    have hopen : PK.openE l = if PK.tailP (PK.crcP (l.take m)) ≠ l.drop m then 11 else if at8 l 0 = 0 then 1 else if 1048577 < m then 2 else 0 := by
      unfold PK.openE
      rw [hl, if_neg h5, show m + 4 - 4 = m from rfl]
      have e0 : (l.head? = some 0) ↔ at8 l 0 = 0 := by
        cases l with
        | nil => simp at hl
        | cons x r =>
          simp only [List.head?_cons, Option.some.injEq]
          exact ⟨fun e => by rw [e]; rfl, fun e => at8_inj e⟩
      simp only [e0]
    have Hopen := Lib.hid hopen
    have Htail := Lib.hid (tail_eq (PK.crcP (l.take m)) (l.drop m) (by simp; omega))
    have hltm : (l.take m).length = m := by simp; omega
    have hm47 : m - 1 ≤ roomB := by omega
    have Hltm := Lib.hid hltm
    have Hm47 := Lib.hid hm47
    have Hm63 : ((m : Int)) ≤ 9223372036854775807 := by simp only [roomB] at hl47; omega
    have Hbl : Hid (b < w.heap.size) := World.block_lt_of_cell? _ _ hf0
    rw [hm4] at hw h
    simp only [hm4] at h1 h2 h4
    have HSum := Lib.hid (fun (W : World) (hb : Below w.heap.size w W) => sum_any (some ⟨b, o, none⟩) m c (l.take m) W Hltm.out (Hrest.out.1.below hb))
    have HFour := Lib.hid (fun (W : World) => four_any (PK.crcP (l.take m)) W (PK.crcP_lt _))
    have Heq := fun (W : World) => eq_four (at8 (PK.tailP (PK.crcP (l.take m))) 0) (at8 (PK.tailP (PK.crcP (l.take m))) 1) (at8 (PK.tailP (PK.crcP (l.take m))) 2) (at8 (PK.tailP (PK.crcP (l.take m))) 3) (at8 (l.drop m) 0) (at8 (l.drop m) 1) (at8 (l.drop m) 2) (at8 (l.drop m) 3) W
    simp only [Htail.out] at Heq
    have HClone := Lib.hid (fun (W : World) (hb : Below w.heap.size w W) => clone_any _ _ W (Hrest.out.2.1.below hb) (by rw [Hrest.out.2.2]; exact Hm47.out))
    generalize hoe : PK.openE l = oe at *
    generalize hod : PK.openD l = od at *
    generalize hT : PK.tailP (PK.crcP (l.take m)) = T at *
    generalize hD : l.drop m = D at *
    generalize hA : at8 l 0 = A0 at *
    have Hlen := Lib.hid Hrest.out.2.2
    unfold four at HFour
    generalize PK.crcP (l.take m) = s at *
    generalize l.take m = lm at *
    clear hv hl47 hl h5 hcap hm1 hc0 hcells hopen Htail hltm hm47 Hrest Hltm Hm47 hT hD
    generalize hx0 : at8 T 0 = t0 at *
    generalize hx1 : at8 T 1 = t1 at *
    generalize hx2 : at8 T 2 = t2 at *
    generalize hx3 : at8 T 3 = t3 at *
    generalize hy0 : at8 D 0 = y0 at *
    generalize hy1 : at8 D 1 = y1 at *
    generalize hy2 : at8 D 2 = y2 at *
    generalize hy3 : at8 D 3 = y3 at *
    clear hx0 hx1 hx2 hx3 hy0 hy1 hy2 hy3
    generalize hb : decide (T = D) = bb at *
    have hcont : Hid (∀ W, Below w.heap.size w W → (Hid (Below w.heap.size w W) ∧ W.cell? ⟨b, o + m, none⟩ = some (.int .u8 y0) ∧ W.cell? ⟨b, o + m + 1, none⟩ = some (.int .u8 y1) ∧ W.cell? ⟨b, o + m + 2, none⟩ = some (.int .u8 y2) ∧ W.cell? ⟨b, o + m + 3, none⟩ = some (.int .u8 y3) ∧ W.cell? ⟨b, o, none⟩ = some (.int .u8 A0))) := by
      intro W hW
      have hk := hW.block b Hbl.out
      exact ⟨Lib.hid hW, (World.cell?_of_block hk).trans d0, (World.cell?_of_block hk).trans d1, (World.cell?_of_block hk).trans d2, (World.cell?_of_block hk).trans d3, (World.cell?_of_block hk).trans hf0⟩
    have CS : Hid (∀ W, (Hid (Below w.heap.size w W) ∧ W.cell? ⟨b, o + m, none⟩ = some (.int .u8 y0) ∧ W.cell? ⟨b, o + m + 1, none⟩ = some (.int .u8 y1) ∧ W.cell? ⟨b, o + m + 2, none⟩ = some (.int .u8 y2) ∧ W.cell? ⟨b, o + m + 3, none⟩ = some (.int .u8 y3) ∧ W.cell? ⟨b, o, none⟩ = some (.int .u8 A0)) → Calls Tryz.prog 80 #[.slice (some ⟨b, o, none⟩) m c] W fun e w' => e = .returned (.int .u32 s) ∧ (Hid (Below w.heap.size w w') ∧ w'.cell? ⟨b, o + m, none⟩ = some (.int .u8 y0) ∧ w'.cell? ⟨b, o + m + 1, none⟩ = some (.int .u8 y1) ∧ w'.cell? ⟨b, o + m + 2, none⟩ = some (.int .u8 y2) ∧ w'.cell? ⟨b, o + m + 3, none⟩ = some (.int .u8 y3) ∧ w'.cell? ⟨b, o, none⟩ = some (.int .u8 A0))) := fun W h => (HSum.out W h.1.out).mono fun e w' ⟨e1, e2⟩ => ⟨e1, e2 ▸ h⟩
    have CF : Hid (∀ W, (Hid (Below w.heap.size w W) ∧ W.cell? ⟨b, o + m, none⟩ = some (.int .u8 y0) ∧ W.cell? ⟨b, o + m + 1, none⟩ = some (.int .u8 y1) ∧ W.cell? ⟨b, o + m + 2, none⟩ = some (.int .u8 y2) ∧ W.cell? ⟨b, o + m + 3, none⟩ = some (.int .u8 y3) ∧ W.cell? ⟨b, o, none⟩ = some (.int .u8 A0)) → Calls Tryz.prog 79 #[.int .u32 s] W fun e w' => e = .returned (.agg #[.int .u8 t0, .int .u8 t1, .int .u8 t2, .int .u8 t3]) ∧ (Hid (Below w.heap.size w w') ∧ w'.cell? ⟨b, o + m, none⟩ = some (.int .u8 y0) ∧ w'.cell? ⟨b, o + m + 1, none⟩ = some (.int .u8 y1) ∧ w'.cell? ⟨b, o + m + 2, none⟩ = some (.int .u8 y2) ∧ w'.cell? ⟨b, o + m + 3, none⟩ = some (.int .u8 y3) ∧ w'.cell? ⟨b, o, none⟩ = some (.int .u8 A0))) := fun W h => (HFour.out W).mono fun e w' ⟨e1, e2⟩ => ⟨e1, hcont.out w' (h.1.out.trans (e2.mono h.1.out.size))⟩
    have CC : Hid (∀ W, (Hid (Below w.heap.size w W) ∧ W.cell? ⟨b, o + m, none⟩ = some (.int .u8 y0) ∧ W.cell? ⟨b, o + m + 1, none⟩ = some (.int .u8 y1) ∧ W.cell? ⟨b, o + m + 2, none⟩ = some (.int .u8 y2) ∧ W.cell? ⟨b, o + m + 3, none⟩ = some (.int .u8 y3) ∧ W.cell? ⟨b, o, none⟩ = some (.int .u8 A0)) → Calls Tryz.prog 72 #[.slice (some ⟨b, o + 1, none⟩) (m - 1) (c - 1)] W fun e w' => (∃ a' c', e = .returned (.slice a' (m - 1) c') ∧ Hid (IsB w' (.slice a' (m - 1) c') od)) ∧ (Hid (Below w.heap.size w w') ∧ w'.cell? ⟨b, o + m, none⟩ = some (.int .u8 y0) ∧ w'.cell? ⟨b, o + m + 1, none⟩ = some (.int .u8 y1) ∧ w'.cell? ⟨b, o + m + 2, none⟩ = some (.int .u8 y2) ∧ w'.cell? ⟨b, o + m + 3, none⟩ = some (.int .u8 y3) ∧ w'.cell? ⟨b, o, none⟩ = some (.int .u8 A0))) := fun W h => (HClone.out W h.1.out).mono fun e w' ⟨⟨a', c', e1, e2, _⟩, e3⟩ => by
      rw [Hlen.out] at e1 e2
      exact ⟨⟨a', c', e1, Lib.hid e2.isB⟩, hcont.out w' (h.1.out.trans (e3.mono h.1.out.size))⟩
    have S0 := hcont.out w.drew (Below.refl _ _).drew
    clear HSum HFour HClone
    have hi1 : (0 : Int) < ((m + 4 : Nat) : Int) := by omega
    have hi2 : (0 : Int) < (m : Int) + 4 := by omega
    have HDw : Hid (∀ W, (Hid (Below w.heap.size w W) ∧ W.cell? ⟨b, o + m, none⟩ = some (.int .u8 y0) ∧ W.cell? ⟨b, o + m + 1, none⟩ = some (.int .u8 y1) ∧ W.cell? ⟨b, o + m + 2, none⟩ = some (.int .u8 y2) ∧ W.cell? ⟨b, o + m + 3, none⟩ = some (.int .u8 y3) ∧ W.cell? ⟨b, o, none⟩ = some (.int .u8 A0)) → (Hid (Below w.heap.size w W.drew) ∧ W.drew.cell? ⟨b, o + m, none⟩ = some (.int .u8 y0) ∧ W.drew.cell? ⟨b, o + m + 1, none⟩ = some (.int .u8 y1) ∧ W.drew.cell? ⟨b, o + m + 2, none⟩ = some (.int .u8 y2) ∧ W.drew.cell? ⟨b, o + m + 3, none⟩ = some (.int .u8 y3) ∧ W.drew.cell? ⟨b, o, none⟩ = some (.int .u8 A0))) := Lib.hid (fun W h => hcont.out W.drew h.1.out.drew)
    clear hf0 d0 d1 d2 d3 hcont Hbl
    by_cases hTD : T = D
    · have hbb : bb = true := by rw [← hb]; exact decide_eq_true hTD
      subst hbb
      by_cases hA0 : A0 = 0
      · have he : oe = 1 := by rw [Hopen.out, if_neg (by simpa using hTD), if_pos hA0]
        have HR : Hid (∀ W, (Hid (Below w.heap.size w W) ∧ W.cell? ⟨b, o + m, none⟩ = some (.int .u8 y0) ∧ W.cell? ⟨b, o + m + 1, none⟩ = some (.int .u8 y1) ∧ W.cell? ⟨b, o + m + 2, none⟩ = some (.int .u8 y2) ∧ W.cell? ⟨b, o + m + 3, none⟩ = some (.int .u8 y3) ∧ W.cell? ⟨b, o, none⟩ = some (.int .u8 A0)) → OpenR errV w W (.returned (.tuple #[.int .u8 0, .slice none 0 0, .iface 60 (.int .i64 1)])) l) := Lib.hid (fun W h => ⟨.inl ⟨by rw [hoe, he]; decide, by rw [hoe, he]; rfl⟩, h.1.out⟩)
        clear CC Hopen h4 hTD hb he
        have hA1 : (A0 == 0) = true := by simp [hA0]
        go_enter Tryz.func54, Tryz.ntmps54
        go_wp2
        go_region_held3 (fun W => (Hid (Below w.heap.size w W) ∧ W.cell? ⟨b, o + m, none⟩ = some (.int .u8 y0) ∧ W.cell? ⟨b, o + m + 1, none⟩ = some (.int .u8 y1) ∧ W.cell? ⟨b, o + m + 2, none⟩ = some (.int .u8 y2) ∧ W.cell? ⟨b, o + m + 3, none⟩ = some (.int .u8 y3) ∧ W.cell? ⟨b, o, none⟩ = some (.int .u8 A0))) (assumption)
          (first
            | (go_at_call 80; refine (CS.out _ ?_).mono ?_; assumption; rintro e w' ⟨rfl, k1⟩)
            | (go_at_call 79; refine (CF.out _ ?_).mono ?_; assumption; rintro e w' ⟨rfl, k2⟩))
        all_goals go_wp2
        all_goals go_ret3
        all_goals exact HR.out _ (by assumption)
      · have hA1 : ¬ (A0 = 0) := hA0
        by_cases hbig : 1048577 < m
        · have hb2 : (1048576 : Int) < (m : Int) - 1 := by omega
          have hw2 : IntKind.i64.wrap ((m : Int) - 1) = (m : Int) - 1 := by rw [IntKind.wrap_i64]; omega
          have he : oe = 2 := by rw [Hopen.out, if_neg (by simpa using hTD), if_neg hA0, if_pos hbig]
          have HR : Hid (∀ W, (Hid (Below w.heap.size w W) ∧ W.cell? ⟨b, o + m, none⟩ = some (.int .u8 y0) ∧ W.cell? ⟨b, o + m + 1, none⟩ = some (.int .u8 y1) ∧ W.cell? ⟨b, o + m + 2, none⟩ = some (.int .u8 y2) ∧ W.cell? ⟨b, o + m + 3, none⟩ = some (.int .u8 y3) ∧ W.cell? ⟨b, o, none⟩ = some (.int .u8 A0)) → OpenR errV w W (.returned (.tuple #[.int .u8 0, .slice none 0 0, .iface 60 (.int .i64 2)])) l) := Lib.hid (fun W h => ⟨.inl ⟨by rw [hoe, he]; decide, by rw [hoe, he]; rfl⟩, h.1.out⟩)
          clear CC Hopen h4 hTD hb he hbig
          go_enter Tryz.func54, Tryz.ntmps54
          go_wp2
          go_region_held3 (fun W => (Hid (Below w.heap.size w W) ∧ W.cell? ⟨b, o + m, none⟩ = some (.int .u8 y0) ∧ W.cell? ⟨b, o + m + 1, none⟩ = some (.int .u8 y1) ∧ W.cell? ⟨b, o + m + 2, none⟩ = some (.int .u8 y2) ∧ W.cell? ⟨b, o + m + 3, none⟩ = some (.int .u8 y3) ∧ W.cell? ⟨b, o, none⟩ = some (.int .u8 A0))) (assumption)
            (first
              | (go_at_call 80; refine (CS.out _ ?_).mono ?_; assumption; rintro e w' ⟨rfl, k1⟩)
              | (go_at_call 79; refine (CF.out _ ?_).mono ?_; assumption; rintro e w' ⟨rfl, k2⟩))
          all_goals go_wp2
          all_goals go_ret3
          all_goals exact HR.out _ (by assumption)
        · have hb2 : ¬ ((1048576 : Int) < (m : Int) - 1) := by omega
          have hw2 : IntKind.i64.wrap ((m : Int) - 1) = (m : Int) - 1 := by rw [IntKind.wrap_i64]; omega
          have he : oe = 0 := by rw [Hopen.out, if_neg (by simpa using hTD), if_neg hA0, if_neg hbig]
          have HR : Hid (∀ W a' c', Hid (IsB W (.slice a' (m - 1) c') od) → (Hid (Below w.heap.size w W) ∧ W.cell? ⟨b, o + m, none⟩ = some (.int .u8 y0) ∧ W.cell? ⟨b, o + m + 1, none⟩ = some (.int .u8 y1) ∧ W.cell? ⟨b, o + m + 2, none⟩ = some (.int .u8 y2) ∧ W.cell? ⟨b, o + m + 3, none⟩ = some (.int .u8 y3) ∧ W.cell? ⟨b, o, none⟩ = some (.int .u8 A0)) → OpenR errV w W (.returned (.tuple #[.int .u8 A0, .slice a' (m - 1) c', .nilIface])) l) := Lib.hid (fun W a' c' h0 h => ⟨.inr ⟨by rw [hoe, he], a', _, c', by rw [hA]; rfl, by rw [hod]; exact Hlen.out, by rw [hod]; exact h0.out⟩, h.1.out⟩)
          clear Hopen hTD hb he hbig
          go_enter Tryz.func54, Tryz.ntmps54
          go_wp2
          go_region_held3 (fun W => (Hid (Below w.heap.size w W) ∧ W.cell? ⟨b, o + m, none⟩ = some (.int .u8 y0) ∧ W.cell? ⟨b, o + m + 1, none⟩ = some (.int .u8 y1) ∧ W.cell? ⟨b, o + m + 2, none⟩ = some (.int .u8 y2) ∧ W.cell? ⟨b, o + m + 3, none⟩ = some (.int .u8 y3) ∧ W.cell? ⟨b, o, none⟩ = some (.int .u8 A0))) (assumption)
            (first
              | (go_at_call 80; refine (CS.out _ ?_).mono ?_; assumption; rintro e w' ⟨rfl, k1⟩)
              | (go_at_call 79; refine (CF.out _ ?_).mono ?_; assumption; rintro e w' ⟨rfl, k2⟩))
          all_goals go_wp2
          all_goals (have S1 := HDw.out _ (by assumption))
          all_goals (go_region_held3 (fun W => (Hid (Below w.heap.size w W) ∧ W.cell? ⟨b, o + m, none⟩ = some (.int .u8 y0) ∧ W.cell? ⟨b, o + m + 1, none⟩ = some (.int .u8 y1) ∧ W.cell? ⟨b, o + m + 2, none⟩ = some (.int .u8 y2) ∧ W.cell? ⟨b, o + m + 3, none⟩ = some (.int .u8 y3) ∧ W.cell? ⟨b, o, none⟩ = some (.int .u8 A0))) (assumption)
            (first
              | (go_at_call 72; refine (CC.out _ ?_).mono ?_; assumption; rintro e w2 ⟨⟨a2, c2, rfl, k4⟩, k3⟩)))
          all_goals go_wp2
          all_goals go_ret3
          all_goals exact HR.out _ _ _ (by assumption) (by assumption)
    · have hbb : bb = false := by rw [← hb]; exact decide_eq_false hTD
      subst hbb
      have he : oe = 11 := by rw [Hopen.out, if_pos hTD]
      have HR : Hid (∀ W, (Hid (Below w.heap.size w W) ∧ W.cell? ⟨b, o + m, none⟩ = some (.int .u8 y0) ∧ W.cell? ⟨b, o + m + 1, none⟩ = some (.int .u8 y1) ∧ W.cell? ⟨b, o + m + 2, none⟩ = some (.int .u8 y2) ∧ W.cell? ⟨b, o + m + 3, none⟩ = some (.int .u8 y3) ∧ W.cell? ⟨b, o, none⟩ = some (.int .u8 A0)) → OpenR errV w W (.returned (.tuple #[.int .u8 0, .slice none 0 0, .iface 60 (.int .i64 11)])) l) := Lib.hid (fun W h => ⟨.inl ⟨by rw [hoe, he]; decide, by rw [hoe, he]; rfl⟩, h.1.out⟩)
      clear CC Hopen h4 hTD hb he
      go_enter Tryz.func54, Tryz.ntmps54
      go_wp2
      go_region_held3 (fun W => (Hid (Below w.heap.size w W) ∧ W.cell? ⟨b, o + m, none⟩ = some (.int .u8 y0) ∧ W.cell? ⟨b, o + m + 1, none⟩ = some (.int .u8 y1) ∧ W.cell? ⟨b, o + m + 2, none⟩ = some (.int .u8 y2) ∧ W.cell? ⟨b, o + m + 3, none⟩ = some (.int .u8 y3) ∧ W.cell? ⟨b, o, none⟩ = some (.int .u8 A0))) (assumption)
        (first
          | (go_at_call 80; refine (CS.out _ ?_).mono ?_; assumption; rintro e w' ⟨rfl, k1⟩)
          | (go_at_call 79; refine (CF.out _ ?_).mono ?_; assumption; rintro e w' ⟨rfl, k2⟩))
      all_goals go_wp2
      all_goals go_ret3
      all_goals exact HR.out _ (by assumption)
end Go.Proofs.YtbgockggbpmhnaaGreatDoor

namespace Go.Proofs.YtbgockggbpmhnaaGreatDoor
open Go Go.ChangeShapes Go.WideShapes Go.ChangeAt Go.RowKit Go.Joins

theorem lits_length (k : IntKind) (zs : List Int) {H : Type} : (lits (H := H) k zs).length = zs.length := by simp [lits]
/-- A slice of bytes that came in: its bytes; its length is at most its bulk, and at most its weight. -/
theorem open_bytes {H : Type} {enc : TypeId × Value → H} {W : World} {base n : Nat} {sp : Nat → Bool} {held : Bool} {v : Value} {y : DataW H × List MemPlace} (h : DataW.trod enc Tryz.prog W base sp held n 22 [v] = some y) :
    ∃ a m c l, v = .slice a m c ∧ l.length = m ∧ IsB W (.slice a m c) l ∧ m ≤ Rows.uptoBulk y.1 ∧ ∀ B, (y.1.weights Tryz.prog 22).all (· ≤ B) = true → m ≤ B := by
  have hlen := fun (k : IntKind) (zs : List Int) => lits_length (H := H) k zs
  have hall : ∀ l : List (DataW H), l.length ≤ Rows.uptoBulkAll l := by
    intro l
    induction l with
    | nil => simp [Rows.uptoBulkAll]
    | cons x r ih =>
      have h1 : 1 ≤ Rows.uptoBulk x := by
        cases x with
        | lit l => cases l <;> simp [Rows.uptoBulk]
        | nil => simp [Rows.uptoBulk]
        | ptr d => simp [Rows.uptoBulk]
        | slice elems spare => simp [Rows.uptoBulk]
        | agg parts => simp [Rows.uptoBulk]
        | iface t d => simp [Rows.uptoBulk]
        | map entries => simp [Rows.uptoBulk]
        | held h => simp [Rows.uptoBulk]
      simp only [Rows.uptoBulkAll, List.length_cons]
      omega
  rcases open_ints Tryz.underlying22 Tryz.underlying5 c_u8 h with ⟨hcs, _⟩ | ⟨x, len, cap, zs, hcs, _, hl, hm, hz, rfl, hcell, hwz⟩
  · simp at hcs
    subst hcs
    exact ⟨none, 0, 0, [], rfl, rfl, IsB.nil W, by omega, fun _ _ => by omega⟩
  · simp at hcs
    subst hcs
    have hlz : len ≤ zs.length := by rw [hz]; split <;> omega
    have hopen : ∃ l, l.length = len ∧ IsB W (.slice (some x) len cap) l := by
      -- the bytes alone, whatever room is behind them
      have hlen' : (bytesFrom (zs.take len)).length = len := by simp [bytesFrom]; omega
      refine ⟨bytesFrom (zs.take len), hlen', some x, cap, by rw [hlen'], by omega, hm, (fun h => by cases h), ?_⟩
      by_cases h0 : len = 0
      · exact .inl (List.eq_nil_of_length_eq_zero (by omega))
      · have hc := hcell 0 (by omega)
        obtain ⟨b, off, spot⟩ := x
        have hspot : spot = none := by simpa [Addr.add] using World.cell?_spot hc
        subst hspot
        refine .inr ⟨b, off, rfl, fun i hi => ?_⟩
        have hi' : i < zs.length := by omega
        have := hcell i hi'
        have hadd : (⟨b, off, none⟩ : Addr).add i = ⟨b, off + i, none⟩ := by unfold Addr.add; split <;> simp_all
        rw [hadd] at this
        rw [this]
        have hmem : zs[i] ∈ zs := List.getElem_mem hi'
        have hwf := hwz _ hmem
        obtain ⟨z0, z1⟩ := bounds_u8 hwf
        have hg : zs.getD i 0 = zs[i] := by simp [List.getD_eq_getElem?_getD, hi']
        rw [hg, at8_get _ _ hi]
        have hbt : ((bytesFrom (zs.take len))[i]'hi).toNat = zs[i].toNat := by
          have : zs[i].toNat < 256 := by omega
          simp [bytesFrom, UInt8.toNat_ofNat', Nat.mod_eq_of_lt this]
        rw [hbt, Int.toNat_of_nonneg z0]
    obtain ⟨l, e, hI⟩ := hopen
    refine ⟨_, _, _, l, rfl, e, hI, ?_, fun B hB => ?_⟩
    · have := hall (lits (H := H) .u8 (zs.take len))
      simp only [Rows.uptoBulk]
      rw [hlen] at this
      simp at this
      omega
    · have hb : Tryz.prog.bytesOf 5 = 1 := by kernel_rfl
      simp [DataW.weights, Tryz.underlying22, hlen, hb] at hB
      omega

end Go.Proofs.YtbgockggbpmhnaaGreatDoor

namespace Go.Proofs.YtbgockggbpmhnaaGreatDoor
open Go Go.ChangeShapes Go.WideShapes Go.ChangeAt Go.RowKit Go.Joins Go.Deep

section
variable {H : Type} {enc : TypeId × Value → H} {P : Program} {w : World} {base : Nat} {spare : Nat → Bool} {held : Bool}
theorem open_slice_fields {t e : TypeId} {fs : Array Field} {fuel : Nat} {cs : List Value} {x : DataW H × List MemPlace} (ht : P.underlying t = some (.slice e)) (he : P.underlying e = some (.struct fs))
    (hone : oneCellFields P fs = true) (hC : P.cellsOf e = fs.size) (h : DataW.trod enc P w base spare held fuel t cs = some x) :
    (cs = [.slice none 0 0] ∧ x = (.nil, [])) ∨
    ∃ (a : Addr) (len cap m : Nat) (D : Nat → DataW H) (Pl : Nat → List MemPlace), cs = [.slice (some a) len cap] ∧ base ≤ a.block ∧ len ≤ cap ∧ cap ≤ maxLen ∧ m = (if spare a.block then cap else len) ∧
      x = (.slice ((List.range len).map D) ((List.range (m - len)).map fun j => D (len + j)), MemPlace.row a (m * fs.size) ++ (List.range m).flatMap Pl) ∧
      ∀ i, i < m → ∃ (ys : List (DataW H × List MemPlace)) (n : Nat), D i = .agg (ys.map (·.1)) ∧ Pl i = ys.flatMap (·.2) ∧ ys.length = fs.size ∧
        ∀ (j : Nat) (f : Field), fs[j]? = some f → ∃ (v : Value) (y : DataW H × List MemPlace), w.cell? (a.add (i * fs.size + j)) = some v ∧ ys[j]? = some y ∧ DataW.trod enc P w base spare held n f.type [v] = some y := by
  rcases open_slice ht h with h0 | ⟨a, len, cap, m, n, D, Pl, hcs, hb, hl, hm, hmm, hx, hi⟩
  · exact .inl h0
  · refine .inr ⟨a, len, cap, m, D, Pl, hcs, hb, hl, hm, hmm, by rw [hC] at hx; exact hx, fun i him => ?_⟩
    obtain ⟨cs', hc, ht'⟩ := hi i him
    rw [hC] at hc
    obtain ⟨ys, n', hn', hy, hlen, hyl, hf⟩ := DataW.trod_struct he ht'
    obtain ⟨_, hcl, hat⟩ := World.cells?_some hc
    simp only [Prod.mk.injEq] at hy
    refine ⟨ys, n', hy.1, hy.2, hyl, fun j f hj => ?_⟩
    obtain ⟨ho, hk⟩ := hone_of hone j f hj
    have hjl : j < fs.size := (Array.getElem?_eq_some_iff.1 hj).1
    have hcell := hat j hjl
    have hv : cs'[j]? = some (cs'[j]'(by omega)) := List.getElem?_eq_getElem (by omega)
    have h1 := hf j f hj
    rw [ho, hk] at h1
    have hone' : (cs'.drop j).take 1 = [cs'[j]'(by omega)] := by
      rw [List.drop_eq_getElem_cons (by omega)]
      rfl
    rw [hone'] at h1
    have hys : ys[j]? = some (ys[j]'(by omega)) := List.getElem?_eq_getElem (by omega)
    refine ⟨_, _, ?_, hys, h1.trans hys⟩
    rw [← Go.Deep.add_add, hcell, hv]
end

/-- What is at each place, chosen. -/
theorem list_choice {α : Type} {p : Nat → α → Prop} : ∀ (n : Nat), (∀ i, i < n → ∃ x, p i x) → ∃ xs : List α, xs.length = n ∧ ∀ (i : Nat) (x : α), xs[i]? = some x → p i x
  | 0, _ => ⟨[], rfl, fun i x h => by simp at h⟩
  | n + 1, h => by
    obtain ⟨xs, h1, h2⟩ := list_choice n (fun i hi => h i (by omega))
    obtain ⟨x, hx⟩ := h n (by omega)
    refine ⟨xs ++ [x], by simp [h1], fun i y hy => ?_⟩
    by_cases hi : i < n
    · rw [List.getElem?_append_left (by omega)] at hy; exact h2 i y hy
    · rw [List.getElem?_append_right (by omega)] at hy
      have e : i - xs.length = 0 := by
        rcases Nat.eq_zero_or_pos (i - xs.length) with e | e
        · exact e
        · rw [List.getElem?_eq_none (by simp; omega)] at hy; cases hy
      rw [e] at hy
      simp at hy
      subst hy
      obtain rfl : i = n := by omega
      exact hx


end Go.Proofs.YtbgockggbpmhnaaGreatDoor

namespace Go.Proofs.YtbgockggbpmhnaaGreatDoor
open Go Go.RowKit

theorem EsS.keptZ {V V' : World} {v : Value} {xs : List RE} {R : Nat} {t : TypeId} (h : EsS V v xs) (f : Fr (fun k => k = R) V V') (hz : V.heap[R]? = some (.cells #[.int .i64 0, .int .i64 0, .int .i64 0, .int .i64 0, .int .i64 0, .int .i64 0, .int .i64 0, .int .i64 0, .bool false, .int .i64 0, .slice none 0 0, .slice none 0 0] t)) : EsS V' v xs := by
  by_cases h0 : xs = []
  · subst h0
    obtain ⟨a, cap, rfl, h1, h2, _, _⟩ := h
    exact ⟨a, cap, rfl, h1, h2, .inl rfl, fun x hx => by simp at hx⟩
  · refine h.kept f (fun q hq j n => by subst hq; exact no8_12 hz (by simp) j n) (fun b hb e => ?_)
    subst e
    obtain ⟨a, cap, rfl, h1, h2, h3, _⟩ := h
    rcases h3 with h3 | ⟨b', o, rfl, hc⟩
    · exact h0 h3
    · simp [Value.ownBlock] at hb
      subst hb
      obtain ⟨x, hx⟩ : ∃ x, xs[0]? = some x := ⟨_, List.getElem?_eq_getElem (List.length_pos_iff.2 h0)⟩
      obtain ⟨c0, c1, _, c3⟩ := hc 0 x hx
      simp only [World.cell?, hz] at c0 c1 c3
      have ho : o = 0 ∨ o = 1 ∨ o = 2 ∨ o = 3 ∨ o = 4 ∨ o = 5 ∨ o = 6 ∨ o = 7 ∨ o = 8 ∨ 9 ≤ o := by omega
      rcases ho with rfl | rfl | rfl | rfl | rfl | rfl | rfl | rfl | rfl | ho
      · simp at c3
      · simp at c3
      · simp at c3
      · simp at c3
      · simp at c3
      · simp at c3
      · simp at c3
      · simp at c1
      · simp at c0
      · rw [Array.getElem?_eq_none (by simp; omega)] at c3; cases c3
set_option maxRecDepth 100000 in
set_option maxHeartbeats 4000000 in
theorem mseal_any (x : RM) (w : World) (hE : Env w) (hf : x.Fit w) (hroom : (PK.encM x.msg).length + 1000 ≤ roomB) :
    Calls Tryz.prog 22 #[x.val] w fun e w' => RW w w' e (PK.sealM x.msg) := by
  have HEn := Lib.hid (fun (V : World) (b : Below w.heap.size w V) => encM_any x V (hE.below b) (hf.below b) hroom)
  have HSe := Lib.hid (fun (V : World) (a : Option Addr) (n c : Nat) (hl : (PK.encM x.msg).length = n) (hv : IsB V (.slice a n c) (PK.encM x.msg)) => seal_any a n c (PK.encM x.msg) V hl hv)
  have Hs : Hid (PK.sealM x.msg = if 1048576 < (PK.encM x.msg).length then [] else PK.sealP 109 (PK.encM x.msg)) := Lib.hid rfl
  generalize PK.sealM x.msg = R at *
  generalize PK.encM x.msg = L at *
  obtain ⟨kd, fr, to, tm, ix, lt, cm, ro, ok, off, da, dn, dc, d, ea, en, ec, es⟩ := x
  simp only [RM.val] at HEn ⊢
  clear hE hf hroom
  go_enter Tryz.func22, Tryz.ntmps22
  go_wp2_with fail
  have Ba : Below w.heap.size w (w.alloc (.cells #[.int .i64 kd, .int .i64 fr, .int .i64 to, .int .i64 tm, .int .i64 ix, .int .i64 lt, .int .i64 cm, .int .i64 ro, .bool ok, .int .i64 off, .slice da dn dc, .slice ea en ec] 30)) := (Below.refl _ _).alloc (Nat.le_refl _) _
  refine (HEn.out _ Ba).mono ?_
  rintro e w1 ⟨⟨a1, n1, c1, rfl, hn1, o1, _⟩, b1⟩
  have B1 : Hid (Below w.heap.size w w1) := Ba.trans (b1.mono Ba.size)
  have HS1 := Lib.hid (HSe.out w1 a1 n1 c1 hn1 o1.isB)
  clear Ba HEn HSe o1 b1 hn1
  go_wp2_with fail
  refine HS1.out.mono ?_
  rintro e w2 ⟨⟨hlt, rfl⟩ | ⟨hlt, a2, n2, c2, rfl, h2⟩, b2⟩
  · have B2 : Hid (Below w.heap.size w w2) := B1.out.trans (b2.mono B1.out.size)
    have HR : Hid (R = []) := Lib.hid (by rw [Hs.out, if_pos hlt])
    clear hlt b2 HS1 Hs
    simp only [errV]
    go_wp2
    go_ret
    exact ⟨⟨none, 0, 0, rfl, by rw [HR.out]; rfl, by rw [HR.out]; exact OwnB.nil _, fun b hb => by simp [Value.ownBlock] at hb⟩, B2.out⟩
  · have B2 : Hid (Below w.heap.size w w2) := B1.out.trans (b2.mono B1.out.size)
    have HR : Hid (R = PK.sealP 109 L) := Lib.hid (by rw [Hs.out, if_neg hlt])
    clear hlt b2 HS1 Hs
    simp only [errV]
    go_wp2
    go_ret
    exact ⟨⟨a2, n2, c2, rfl, by rw [HR.out]; exact h2.out.1, by rw [HR.out]; exact h2.out.2.1, fun b hb => Nat.le_trans B1.out.size (h2.out.2.2 b hb)⟩, B2.out⟩

theorem openM_eq (l : List UInt8) : PK.openM l = if PK.openE l ≠ 0 ∨ at8 l 0 ≠ 109 then none else PK.decM (PK.openD l) := by
  unfold PK.openM
  by_cases h : PK.openE l = 0
  · have hl : ¬ l.length < 5 := fun h5 => by
      unfold PK.openE at h
      rw [if_pos h5] at h
      cases h
    have e : (l.head? ≠ some 109) ↔ at8 l 0 ≠ 109 := by
      cases l with
      | nil => simp at hl
      | cons c r =>
        simp only [List.head?_cons, ne_eq, Option.some.injEq]
        exact not_congr ⟨fun e => by rw [e]; rfl, fun e => at8_inj e⟩
    simp only [e]
  · rw [if_pos (.inl h), if_pos (.inl h)]
set_option maxRecDepth 100000 in
set_option maxHeartbeats 8000000 in
theorem mopen_any (a : Option Addr) (n c : Nat) (l : List UInt8) (w : World) (hE : Env w) (hl : l.length = n) (hv : IsB w (.slice a n c) l) (hl47 : l.length ≤ roomB) :
    Calls Tryz.prog 20 #[.slice a n c] w fun e w' => DecMR errV w w' e (PK.openM l) := by
  have HO := Lib.hid (fun (V : World) (b : Below w.heap.size w V) => sopen_any a n c l V hl (hv.below b) hl47)
  have hod : (PK.openD l).length ≤ roomB := by unfold PK.openD; simp; omega
  have HD : Hid (∀ (V : World), Below w.heap.size w V → ∀ (a : Option Addr) (n c : Nat), (PK.openD l).length = n → IsB V (.slice a n c) (PK.openD l) → Calls Tryz.prog 11 #[.slice a n c] V fun e w' => DecMR errV V w' e (PK.decM (PK.openD l))) := fun V b a n c hn h => by
    subst hn
    exact decM_any a c (PK.openD l) V (hE.below b) h hod
  have hres := openM_eq l
  have HRs := Lib.hid hres
  generalize PK.openM l = RES at *
  generalize PK.decM (PK.openD l) = RD at *
  obtain ⟨Wa, hWa⟩ : ∃ W, W = w.alloc (.cells #[.int .i64 0, .int .i64 0, .int .i64 0, .int .i64 0, .int .i64 0, .int .i64 0, .int .i64 0, .int .i64 0, .bool false, .int .i64 0, .slice none 0 0, .slice none 0 0] 30) := ⟨_, rfl⟩
  have gA : Hid (Wa.heap[w.heap.size]? = some (.cells #[.int .i64 0, .int .i64 0, .int .i64 0, .int .i64 0, .int .i64 0, .int .i64 0, .int .i64 0, .int .i64 0, .bool false, .int .i64 0, .slice none 0 0, .slice none 0 0] 30)) := Lib.hid (by rw [hWa]; exact heap_alloc_new _ _)
  have bA : Hid (Below w.heap.size w Wa) := Lib.hid (by rw [hWa]; exact (Below.refl _ _).alloc (Nat.le_refl _) _)
  have HO1 := Lib.hid (HO.out Wa bA.out)
  clear hE hl hv hl47 hod hres HO
  go_enter Tryz.func20, Tryz.ntmps20
  go_wp2_with fail
  rw [← hWa]
  clear hWa
  refine HO1.out.mono ?_
  rintro e w1 ⟨⟨h0, rfl⟩ | ⟨h0, a2, n2, c2, rfl, hn2, i2⟩, b1⟩
  · have BW : Hid (Below w.heap.size w w1) := bA.out.trans (b1.mono bA.out.size)
    have GR : Hid (w1.heap[w.heap.size]? = some (.cells #[.int .i64 0, .int .i64 0, .int .i64 0, .int .i64 0, .int .i64 0, .int .i64 0, .int .i64 0, .int .i64 0, .bool false, .int .i64 0, .slice none 0 0, .slice none 0 0] 30)) := Lib.hid ((b1.block _ (Array.getElem?_eq_some_iff.1 gA.out).1).trans gA.out)
    have HRes : Hid (RES = none) := Lib.hid (by rw [HRs.out, if_pos (.inl h0)])
    obtain ⟨q, hq⟩ : ∃ q, PK.openE l = q + 1 := ⟨PK.openE l - 1, by omega⟩
    rw [hq]
    obtain ⟨⟨z0, z1, z2, z3, z4, z5, z6, z7, z8, z9, za, zb⟩, zf⟩ := cells12 GR.out
    clear h0 b1 gA bA HO1 HD HRs hq
    simp only [errV]
    go_wp2
    clear z0 z1 z2 z3 z4 z5 z6 z7 z8 z9 za zb zf
    have FBd := Lib.hid (cells12 (stored12 GR.out (.int .i64 0) (.int .i64 0) (.int .i64 0) (.int .i64 0) (.int .i64 0) (.int .i64 0) (.int .i64 0) (.int .i64 0) (.bool false) (.int .i64 0) (.slice none 0 0) (.slice none 0 0)))
    have fR := set12_fr w1 w.heap.size (.int .i64 0) (.int .i64 0) (.int .i64 0) (.int .i64 0) (.int .i64 0) (.int .i64 0) (.int .i64 0) (.int .i64 0) (.bool false) (.int .i64 0) (.slice none 0 0) (.slice none 0 0)
    have no8R : ∀ q, q = w.heap.size → ∀ j n, w1.cell? ⟨q, j, none⟩ ≠ some (.int .u8 n) := fun q hq j n => by subst hq; exact no8_12 GR.out (by simp) j n
    have BBd : Hid (Below w.heap.size w (set12 w1 w.heap.size (.int .i64 0) (.int .i64 0) (.int .i64 0) (.int .i64 0) (.int .i64 0) (.int .i64 0) (.int .i64 0) (.int .i64 0) (.bool false) (.int .i64 0) (.slice none 0 0) (.slice none 0 0))) := Lib.hid (Fr.belowM BW.out fR (Nat.le_refl _) (Array.getElem?_eq_some_iff.1 GR.out).1)
    clear fR no8R GR BW
    generalize hWf : (((((((((((w1.setCell ⟨w.heap.size, 0, none⟩ (.int .i64 0)).setCell ⟨w.heap.size, 1, none⟩ (.int .i64 0)).setCell ⟨w.heap.size, 2, none⟩ (.int .i64 0)).setCell ⟨w.heap.size, 3, none⟩ (.int .i64 0)).setCell ⟨w.heap.size, 4, none⟩ (.int .i64 0)).setCell ⟨w.heap.size, 5, none⟩ (.int .i64 0)).setCell ⟨w.heap.size, 6, none⟩ (.int .i64 0)).setCell ⟨w.heap.size, 7, none⟩ (.int .i64 0)).setCell ⟨w.heap.size, 8, none⟩ (.bool false)).setCell ⟨w.heap.size, 9, none⟩ (.int .i64 0)).setCell ⟨w.heap.size, 10, none⟩ (.slice none 0 0)).setCell ⟨w.heap.size, 11, none⟩ (.slice none 0 0) = W' at *
    have hWf' : W' = set12 w1 w.heap.size (.int .i64 0) (.int .i64 0) (.int .i64 0) (.int .i64 0) (.int .i64 0) (.int .i64 0) (.int .i64 0) (.int .i64 0) (.bool false) (.int .i64 0) (.slice none 0 0) (.slice none 0 0) := hWf.symm
    rw [← hWf'] at FBd BBd
    obtain ⟨⟨e0, e1, e2, e3, e4, e5, e6, e7, e8, e9, ea', eb⟩, _⟩ := FBd.out
    refine bodyPost_ret (v := .tuple #[zeroM, .iface 60 (.int .i64 3)]) (by simp [results, Tryz.results20, go_sem, e0, e1, e2, e3, e4, e5, e6, e7, e8, e9, ea', eb, zeroM]) rfl ?_
    exact ⟨.inl ⟨HRes.out, rfl⟩, BBd.out⟩
  · have BW : Hid (Below w.heap.size w w1) := bA.out.trans (b1.mono bA.out.size)
    have GR : Hid (w1.heap[w.heap.size]? = some (.cells #[.int .i64 0, .int .i64 0, .int .i64 0, .int .i64 0, .int .i64 0, .int .i64 0, .int .i64 0, .int .i64 0, .bool false, .int .i64 0, .slice none 0 0, .slice none 0 0] 30)) := Lib.hid ((b1.block _ (Array.getElem?_eq_some_iff.1 gA.out).1).trans gA.out)
    have hr := HRs.out
    by_cases hk : at8 l 0 = 109
    · rw [if_neg (by rw [h0]; simp [hk])] at hr
      have Hr := Lib.hid hr
      have HD1 := Lib.hid (HD.out w1 BW.out a2 n2 c2 hn2 i2)
      have hk2 : (at8 l 0 != 109) = false := by rw [hk]; rfl
      clear h0 b1 gA bA HO1 HD HRs hr hn2 i2 hk
      generalize at8 l 0 = k0 at *
      simp only [errV]
      go_wp2_with fail
      refine HD1.out.mono ?_
      rintro e w2 ⟨⟨hn, rfl⟩ | ⟨y, rfl, hfy, hy⟩, b2⟩
      · have BW : Hid (Below w.heap.size w w2) := BW.out.trans (b2.mono BW.out.size)
        have GR : Hid (w2.heap[w.heap.size]? = some (.cells #[.int .i64 0, .int .i64 0, .int .i64 0, .int .i64 0, .int .i64 0, .int .i64 0, .int .i64 0, .int .i64 0, .bool false, .int .i64 0, .slice none 0 0, .slice none 0 0] 30)) := Lib.hid ((b2.block _ (Array.getElem?_eq_some_iff.1 GR.out).1).trans GR.out)
        have HRes : Hid (RES = none) := Lib.hid (by rw [Hr.out, hn])
        obtain ⟨⟨z0, z1, z2, z3, z4, z5, z6, z7, z8, z9, za, zb⟩, zf⟩ := cells12 GR.out
        clear hn b2 HD1 Hr
        simp only [errV, zeroM]
        go_wp2
        clear z0 z1 z2 z3 z4 z5 z6 z7 z8 z9 za zb zf
        have FBd := Lib.hid (cells12 (stored12 GR.out (.int .i64 0) (.int .i64 0) (.int .i64 0) (.int .i64 0) (.int .i64 0) (.int .i64 0) (.int .i64 0) (.int .i64 0) (.bool false) (.int .i64 0) (.slice none 0 0) (.slice none 0 0)))
        have fR := set12_fr w2 w.heap.size (.int .i64 0) (.int .i64 0) (.int .i64 0) (.int .i64 0) (.int .i64 0) (.int .i64 0) (.int .i64 0) (.int .i64 0) (.bool false) (.int .i64 0) (.slice none 0 0) (.slice none 0 0)
        have no8R : ∀ q, q = w.heap.size → ∀ j n, w2.cell? ⟨q, j, none⟩ ≠ some (.int .u8 n) := fun q hq j n => by subst hq; exact no8_12 GR.out (by simp) j n
        have BBd : Hid (Below w.heap.size w (set12 w2 w.heap.size (.int .i64 0) (.int .i64 0) (.int .i64 0) (.int .i64 0) (.int .i64 0) (.int .i64 0) (.int .i64 0) (.int .i64 0) (.bool false) (.int .i64 0) (.slice none 0 0) (.slice none 0 0))) := Lib.hid (Fr.belowM BW.out fR (Nat.le_refl _) (Array.getElem?_eq_some_iff.1 GR.out).1)
        clear fR no8R GR BW
        generalize hWf : (((((((((((w2.setCell ⟨w.heap.size, 0, none⟩ (.int .i64 0)).setCell ⟨w.heap.size, 1, none⟩ (.int .i64 0)).setCell ⟨w.heap.size, 2, none⟩ (.int .i64 0)).setCell ⟨w.heap.size, 3, none⟩ (.int .i64 0)).setCell ⟨w.heap.size, 4, none⟩ (.int .i64 0)).setCell ⟨w.heap.size, 5, none⟩ (.int .i64 0)).setCell ⟨w.heap.size, 6, none⟩ (.int .i64 0)).setCell ⟨w.heap.size, 7, none⟩ (.int .i64 0)).setCell ⟨w.heap.size, 8, none⟩ (.bool false)).setCell ⟨w.heap.size, 9, none⟩ (.int .i64 0)).setCell ⟨w.heap.size, 10, none⟩ (.slice none 0 0)).setCell ⟨w.heap.size, 11, none⟩ (.slice none 0 0) = W' at *
        have hWf' : W' = set12 w2 w.heap.size (.int .i64 0) (.int .i64 0) (.int .i64 0) (.int .i64 0) (.int .i64 0) (.int .i64 0) (.int .i64 0) (.int .i64 0) (.bool false) (.int .i64 0) (.slice none 0 0) (.slice none 0 0) := hWf.symm
        rw [← hWf'] at FBd BBd
        obtain ⟨⟨e0, e1, e2, e3, e4, e5, e6, e7, e8, e9, ea', eb⟩, _⟩ := FBd.out
        refine bodyPost_ret (v := .tuple #[zeroM, .iface 60 (.int .i64 3)]) (by simp [results, Tryz.results20, go_sem, e0, e1, e2, e3, e4, e5, e6, e7, e8, e9, ea', eb, zeroM]) rfl ?_
        exact ⟨.inl ⟨HRes.out, rfl⟩, BBd.out⟩
      · have hw1 : w.heap.size < w1.heap.size := (Array.getElem?_eq_some_iff.1 GR.out).1
        have BW : Hid (Below w.heap.size w w2) := BW.out.trans (b2.mono BW.out.size)
        have gr := (b2.block _ hw1).trans GR.out
        obtain ⟨kd, fr, to, tm, ix, lt, cm, ro, ok, off, da, dn, dc, d, ea, en, ec, es⟩ := y
        have GR : Hid (w2.heap[w.heap.size]? = some (.cells #[.int .i64 0, .int .i64 0, .int .i64 0, .int .i64 0, .int .i64 0, .int .i64 0, .int .i64 0, .int .i64 0, .bool false, .int .i64 0, .slice none 0 0, .slice none 0 0] 30)) := Lib.hid gr
        have HRes : Hid (RES = some (RM.msg ⟨kd, fr, to, tm, ix, lt, cm, ro, ok, off, da, dn, dc, d, ea, en, ec, es⟩)) := Lib.hid (by rw [Hr.out, hy])
        obtain ⟨hfl, hfb, hfe⟩ := hfy
        simp only at hfl hfb hfe
        have HDN := Lib.hid hfl
        have DD0 := Lib.hid hfb
        have EE0 := Lib.hid hfe
        obtain ⟨⟨z0, z1, z2, z3, z4, z5, z6, z7, z8, z9, za, zb⟩, zf⟩ := cells12 GR.out
        clear hy b2 HD1 Hr hfl hfb hfe gr hw1
        simp only [errV, RM.val]
        go_wp2
        clear z0 z1 z2 z3 z4 z5 z6 z7 z8 z9 za zb zf
        have FBd := Lib.hid (cells12 (stored12 GR.out (.int .i64 kd) (.int .i64 fr) (.int .i64 to) (.int .i64 tm) (.int .i64 ix) (.int .i64 lt) (.int .i64 cm) (.int .i64 ro) (.bool ok) (.int .i64 off) (.slice da dn dc) (.slice ea en ec)))
        have fR := set12_fr w2 w.heap.size (.int .i64 kd) (.int .i64 fr) (.int .i64 to) (.int .i64 tm) (.int .i64 ix) (.int .i64 lt) (.int .i64 cm) (.int .i64 ro) (.bool ok) (.int .i64 off) (.slice da dn dc) (.slice ea en ec)
        have no8R : ∀ q, q = w.heap.size → ∀ j n, w2.cell? ⟨q, j, none⟩ ≠ some (.int .u8 n) := fun q hq j n => by subst hq; exact no8_12 GR.out (by simp) j n
        have BBd : Hid (Below w.heap.size w (set12 w2 w.heap.size (.int .i64 kd) (.int .i64 fr) (.int .i64 to) (.int .i64 tm) (.int .i64 ix) (.int .i64 lt) (.int .i64 cm) (.int .i64 ro) (.bool ok) (.int .i64 off) (.slice da dn dc) (.slice ea en ec))) := Lib.hid (Fr.belowM BW.out fR (Nat.le_refl _) (Array.getElem?_eq_some_iff.1 GR.out).1)
        have DD : Hid (IsB (set12 w2 w.heap.size (.int .i64 kd) (.int .i64 fr) (.int .i64 to) (.int .i64 tm) (.int .i64 ix) (.int .i64 lt) (.int .i64 cm) (.int .i64 ro) (.bool ok) (.int .i64 off) (.slice da dn dc) (.slice ea en ec)) (.slice da dn dc) d) := Lib.hid (DD0.out.kept8 fR no8R)
        have EE : Hid (EsS (set12 w2 w.heap.size (.int .i64 kd) (.int .i64 fr) (.int .i64 to) (.int .i64 tm) (.int .i64 ix) (.int .i64 lt) (.int .i64 cm) (.int .i64 ro) (.bool ok) (.int .i64 off) (.slice da dn dc) (.slice ea en ec)) (.slice ea en ec) es) := Lib.hid (EE0.out.keptZ fR GR.out)
        clear fR no8R GR BW
        generalize hWf : (((((((((((w2.setCell ⟨w.heap.size, 0, none⟩ (.int .i64 kd)).setCell ⟨w.heap.size, 1, none⟩ (.int .i64 fr)).setCell ⟨w.heap.size, 2, none⟩ (.int .i64 to)).setCell ⟨w.heap.size, 3, none⟩ (.int .i64 tm)).setCell ⟨w.heap.size, 4, none⟩ (.int .i64 ix)).setCell ⟨w.heap.size, 5, none⟩ (.int .i64 lt)).setCell ⟨w.heap.size, 6, none⟩ (.int .i64 cm)).setCell ⟨w.heap.size, 7, none⟩ (.int .i64 ro)).setCell ⟨w.heap.size, 8, none⟩ (.bool ok)).setCell ⟨w.heap.size, 9, none⟩ (.int .i64 off)).setCell ⟨w.heap.size, 10, none⟩ (.slice da dn dc)).setCell ⟨w.heap.size, 11, none⟩ (.slice ea en ec) = W' at *
        have hWf' : W' = set12 w2 w.heap.size (.int .i64 kd) (.int .i64 fr) (.int .i64 to) (.int .i64 tm) (.int .i64 ix) (.int .i64 lt) (.int .i64 cm) (.int .i64 ro) (.bool ok) (.int .i64 off) (.slice da dn dc) (.slice ea en ec) := hWf.symm
        rw [← hWf'] at FBd BBd DD EE
        obtain ⟨⟨e0, e1, e2, e3, e4, e5, e6, e7, e8, e9, ea', eb⟩, _⟩ := FBd.out
        refine bodyPost_ret (v := .tuple #[.agg #[.int .i64 kd, .int .i64 fr, .int .i64 to, .int .i64 tm, .int .i64 ix, .int .i64 lt, .int .i64 cm, .int .i64 ro, .bool ok, .int .i64 off, .slice da dn dc, .slice ea en ec], .nilIface]) (by simp [results, Tryz.results20, go_sem, e0, e1, e2, e3, e4, e5, e6, e7, e8, e9, ea', eb]) rfl ?_
        exact ⟨.inr ⟨⟨kd, fr, to, tm, ix, lt, cm, ro, ok, off, da, dn, dc, d, ea, en, ec, es⟩, rfl, ⟨HDN.out, DD.out, EE.out⟩, HRes.out⟩, BBd.out⟩
    · rw [if_pos (.inr hk)] at hr
      have HRes := Lib.hid hr
      have hk2 : (at8 l 0 != 109) = true := by rw [bne_iff_ne]; exact hk
      obtain ⟨⟨z0, z1, z2, z3, z4, z5, z6, z7, z8, z9, za, zb⟩, zf⟩ := cells12 GR.out
      clear h0 b1 gA bA HO1 HD HRs hr hn2 i2 hk
      generalize at8 l 0 = k0 at *
      simp only [errV]
      go_wp2
      clear z0 z1 z2 z3 z4 z5 z6 z7 z8 z9 za zb zf
      have FBd := Lib.hid (cells12 (stored12 GR.out (.int .i64 0) (.int .i64 0) (.int .i64 0) (.int .i64 0) (.int .i64 0) (.int .i64 0) (.int .i64 0) (.int .i64 0) (.bool false) (.int .i64 0) (.slice none 0 0) (.slice none 0 0)))
      have fR := set12_fr w1 w.heap.size (.int .i64 0) (.int .i64 0) (.int .i64 0) (.int .i64 0) (.int .i64 0) (.int .i64 0) (.int .i64 0) (.int .i64 0) (.bool false) (.int .i64 0) (.slice none 0 0) (.slice none 0 0)
      have no8R : ∀ q, q = w.heap.size → ∀ j n, w1.cell? ⟨q, j, none⟩ ≠ some (.int .u8 n) := fun q hq j n => by subst hq; exact no8_12 GR.out (by simp) j n
      have BBd : Hid (Below w.heap.size w (set12 w1 w.heap.size (.int .i64 0) (.int .i64 0) (.int .i64 0) (.int .i64 0) (.int .i64 0) (.int .i64 0) (.int .i64 0) (.int .i64 0) (.bool false) (.int .i64 0) (.slice none 0 0) (.slice none 0 0))) := Lib.hid (Fr.belowM BW.out fR (Nat.le_refl _) (Array.getElem?_eq_some_iff.1 GR.out).1)
      clear fR no8R GR BW
      generalize hWf : (((((((((((w1.setCell ⟨w.heap.size, 0, none⟩ (.int .i64 0)).setCell ⟨w.heap.size, 1, none⟩ (.int .i64 0)).setCell ⟨w.heap.size, 2, none⟩ (.int .i64 0)).setCell ⟨w.heap.size, 3, none⟩ (.int .i64 0)).setCell ⟨w.heap.size, 4, none⟩ (.int .i64 0)).setCell ⟨w.heap.size, 5, none⟩ (.int .i64 0)).setCell ⟨w.heap.size, 6, none⟩ (.int .i64 0)).setCell ⟨w.heap.size, 7, none⟩ (.int .i64 0)).setCell ⟨w.heap.size, 8, none⟩ (.bool false)).setCell ⟨w.heap.size, 9, none⟩ (.int .i64 0)).setCell ⟨w.heap.size, 10, none⟩ (.slice none 0 0)).setCell ⟨w.heap.size, 11, none⟩ (.slice none 0 0) = W' at *
      have hWf' : W' = set12 w1 w.heap.size (.int .i64 0) (.int .i64 0) (.int .i64 0) (.int .i64 0) (.int .i64 0) (.int .i64 0) (.int .i64 0) (.int .i64 0) (.bool false) (.int .i64 0) (.slice none 0 0) (.slice none 0 0) := hWf.symm
      rw [← hWf'] at FBd BBd
      obtain ⟨⟨e0, e1, e2, e3, e4, e5, e6, e7, e8, e9, ea', eb⟩, _⟩ := FBd.out
      refine bodyPost_ret (v := .tuple #[zeroM, .iface 60 (.int .i64 3)]) (by simp [results, Tryz.results20, go_sem, e0, e1, e2, e3, e4, e5, e6, e7, e8, e9, ea', eb, zeroM]) rfl ?_
      exact ⟨.inl ⟨HRes.out, rfl⟩, BBd.out⟩
end Go.Proofs.YtbgockggbpmhnaaGreatDoor

namespace Go.Proofs.YtbgockggbpmhnaaGreatDoor
open Go Go.RowKit

def m0 : PK.Msg := ⟨1, 1, 2, 3, 0, 0, 0, 0, false, 0, [], []⟩
theorem m0_may : PK.mayM m0 := by decide
set_option maxRecDepth 100000 in
set_option maxHeartbeats 4000000 in
theorem sure_any (w : World) (hE : Env w) :
    Calls Tryz.prog 10 #[] w fun e w' => e = .returned (.bool true) ∧ Below w.heap.size w w' := by
  have hsm := PK.encM_small m0 m0_may
  have hopen := PK.openM_sealM m0 m0_may
  have hsl : (PK.sealM m0).length ≤ roomB := by rw [PK.sealM_may m0 m0_may, PK.seal_len]; simp only [roomB]; omega
  have HS : Hid (∀ V, Below w.heap.size w V → Calls Tryz.prog 22 #[.agg #[.int .i64 1, .int .i64 1, .int .i64 2, .int .i64 3, .int .i64 0, .int .i64 0, .int .i64 0, .int .i64 0, .bool false, .int .i64 0, .slice none 0 0, .slice none 0 0]] V fun e w' => RW V w' e (PK.sealM m0)) := fun V b =>
    mseal_any ⟨1, 1, 2, 3, 0, 0, 0, 0, false, 0, none, 0, 0, [], none, 0, 0, []⟩ V (hE.below b) ⟨rfl, IsB.nil _, EsS.nil _⟩ (by show (PK.encM m0).length + 1000 ≤ roomB; simp only [roomB]; omega)
  have HO : Hid (∀ (V : World) (a : Option Addr) (n c : Nat), Below w.heap.size w V → (PK.sealM m0).length = n → IsB V (.slice a n c) (PK.sealM m0) → Calls Tryz.prog 20 #[.slice a n c] V fun e w' => DecMR errV V w' e (some m0)) := fun V a n c b hn hi => by
    have := mopen_any a n c (PK.sealM m0) V (hE.below b) hn hi hsl
    rw [hopen] at this
    exact this
  have hzm : ¬ PK.mayM (RM.msg ⟨0, 0, 0, 0, 0, 0, 0, 0, false, 0, none, 0, 0, [], none, 0, 0, []⟩) := by decide
  have HC : Hid (∀ V, Calls Tryz.prog 13 #[.agg #[.int .i64 0, .int .i64 0, .int .i64 0, .int .i64 0, .int .i64 0, .int .i64 0, .int .i64 0, .int .i64 0, .bool false, .int .i64 0, .slice none 0 0, .slice none 0 0]] V fun e w' => e = .returned (errV 1) ∧ Below V.heap.size V w') := fun V => by
    have := check_any ⟨0, 0, 0, 0, 0, 0, 0, 0, false, 0, none, 0, 0, [], none, 0, 0, []⟩ V ⟨rfl, IsB.nil _, EsS.nil _⟩
    rw [if_neg hzm] at this
    exact this
  have HNum : Hid (∀ V, Below w.heap.size w V → Calls Tryz.prog 18 #[errV 1] V fun e w' => e = .returned (.int .i64 1) ∧ Below V.heap.size V w') := fun V b => num_any 1 V (hE.below b)
  generalize PK.sealM m0 = SM at *
  clear hsm hopen hsl hzm hE
  go_enter Tryz.func10, Tryz.ntmps10
  go_wp2_with fail
  have Ba : Below w.heap.size w (w.alloc (.cells #[.int .i64 1, .int .i64 1, .int .i64 2, .int .i64 3, .int .i64 0, .int .i64 0, .int .i64 0, .int .i64 0, .bool false, .int .i64 0, .slice none 0 0, .slice none 0 0] 30)) := (Below.refl _ _).alloc (Nat.le_refl _) _
  refine (HS.out _ Ba).mono ?_
  rintro e w1 ⟨⟨a1, n1, c1, rfl, hn1, o1, _⟩, b1⟩
  have B1 : Hid (Below w.heap.size w w1) := Ba.trans (b1.mono Ba.size)
  have HO1 := Lib.hid (HO.out w1 a1 n1 c1 B1.out hn1 o1.isB)
  clear Ba HS HO o1 b1 hn1
  go_wp2_with fail
  refine HO1.out.mono ?_
  rintro e w2 ⟨⟨h, _⟩ | ⟨y, rfl, _, hy⟩, b2⟩
  · cases h
  · obtain ⟨kd, fr, to, tm, ix, lt, cm, ro, ok, off, da, dn, dc, d, ea, en, ec, es⟩ := y
    have hm := Option.some.inj hy
    have h1 : (1 : Int) = kd := congrArg PK.Msg.kd hm
    have h2 : (1 : Int) = fr := congrArg PK.Msg.fr hm
    have h3 : (2 : Int) = to := congrArg PK.Msg.to hm
    have h4 : (3 : Int) = tm := congrArg PK.Msg.tm hm
    subst h1 h2 h3 h4
    have B2 : Hid (Below w.heap.size w w2) := B1.out.trans (b2.mono B1.out.size)
    clear hm hy b2 HO1
    simp only [RM.val, errV]
    have HC1 := HC.out
    go_wp2_with fail
    have B3 : Below w.heap.size w (w2.alloc (.cells #[.int .i64 1, .int .i64 1, .int .i64 2, .int .i64 3, .int .i64 ix, .int .i64 lt, .int .i64 cm, .int .i64 ro, .bool ok, .int .i64 off, .slice da dn dc, .slice ea en ec] 30)) := B2.out.alloc B2.out.size _
    refine (HC.out _).mono ?_
    rintro e w3 ⟨rfl, b3⟩
    have B4 : Hid (Below w.heap.size w w3) := B3.trans (b3.mono B3.size)
    have HN := Lib.hid (HNum.out w3 B4.out)
    clear B3 b3 HC HC1 HNum
    go_wp2_with fail
    refine HN.out.mono ?_
    rintro e w4 ⟨rfl, b4⟩
    have B5 : Hid (Below w.heap.size w w4) := B4.out.trans (b4.mono B4.out.size)
    clear b4 HN
    go_wp2
    go_ret
    exact ⟨rfl, B5.out⟩
end Go.Proofs.YtbgockggbpmhnaaGreatDoor

namespace Go.Proofs.YtbgockggbpmhnaaGreatDoor
open Go Go.ChangeShapes Go.WideShapes Go.ChangeAt Go.RowKit Go.Joins Go.Deep

section
variable {H : Type} {enc : TypeId × Value → H} {P : Program} {w : World} {base : Nat} {spare : Nat → Bool} {held : Bool}
/-- A struct of twelve one-cell fields. -/
theorem open_agg12 {r : Reach} {b0 : Nat} {t : TypeId} {f0 f1 f2 f3 f4 f5 f6 f7 f8 f9 f10 f11 : Field} {v : Value} {d : DataW H} {p : List MemPlace} (hs : P.underlying t = some (.struct #[f0, f1, f2, f3, f4, f5, f6, f7, f8, f9, f10, f11])) (hone : oneCellFields P #[f0, f1, f2, f3, f4, f5, f6, f7, f8, f9, f10, f11] = true) (hC : P.cellsOf t = 12)
    (hv : Value.okWide P w r b0 t v) (h : DataW.Trod enc P w base spare held t v d p) :
    ∃ (v0 v1 v2 v3 v4 v5 v6 v7 v8 v9 v10 v11 : Value) (y0 y1 y2 y3 y4 y5 y6 y7 y8 y9 y10 y11 : DataW H × List MemPlace) (n : Nat), v = .agg #[v0, v1, v2, v3, v4, v5, v6, v7, v8, v9, v10, v11] ∧ d = .agg [y0.1, y1.1, y2.1, y3.1, y4.1, y5.1, y6.1, y7.1, y8.1, y9.1, y10.1, y11.1] ∧
      DataW.trod enc P w base spare held n f0.type [v0] = some y0 ∧ DataW.trod enc P w base spare held n f1.type [v1] = some y1 ∧ DataW.trod enc P w base spare held n f2.type [v2] = some y2 ∧ DataW.trod enc P w base spare held n f3.type [v3] = some y3 ∧ DataW.trod enc P w base spare held n f4.type [v4] = some y4 ∧ DataW.trod enc P w base spare held n f5.type [v5] = some y5 ∧ DataW.trod enc P w base spare held n f6.type [v6] = some y6 ∧ DataW.trod enc P w base spare held n f7.type [v7] = some y7 ∧ DataW.trod enc P w base spare held n f8.type [v8] = some y8 ∧ DataW.trod enc P w base spare held n f9.type [v9] = some y9 ∧ DataW.trod enc P w base spare held n f10.type [v10] = some y10 ∧ DataW.trod enc P w base spare held n f11.type [v11] = some y11 := by
  obtain ⟨cs, rfl, hsz⟩ := okWide_struct hs hv
  obtain ⟨l⟩ := cs
  match l, hsz.trans hC with
  | [c0, c1, c2, c3, c4, c5, c6, c7, c8, c9, c10, c11], _ =>
    obtain ⟨fuel, hf⟩ := h
    obtain ⟨xs, n, _, hx, _, hlen, hg⟩ := DataW.trod_struct hs hf
    obtain ⟨o0, k0⟩ := hone_of hone 0 f0 rfl
    obtain ⟨o1, k1⟩ := hone_of hone 1 f1 rfl
    obtain ⟨o2, k2⟩ := hone_of hone 2 f2 rfl
    obtain ⟨o3, k3⟩ := hone_of hone 3 f3 rfl
    obtain ⟨o4, k4⟩ := hone_of hone 4 f4 rfl
    obtain ⟨o5, k5⟩ := hone_of hone 5 f5 rfl
    obtain ⟨o6, k6⟩ := hone_of hone 6 f6 rfl
    obtain ⟨o7, k7⟩ := hone_of hone 7 f7 rfl
    obtain ⟨o8, k8⟩ := hone_of hone 8 f8 rfl
    obtain ⟨o9, k9⟩ := hone_of hone 9 f9 rfl
    obtain ⟨o10, k10⟩ := hone_of hone 10 f10 rfl
    obtain ⟨o11, k11⟩ := hone_of hone 11 f11 rfl
    match xs, hlen with
    | [y0, y1, y2, y3, y4, y5, y6, y7, y8, y9, y10, y11], _ =>
      simp only [Prod.mk.injEq] at hx
      exact ⟨c0, c1, c2, c3, c4, c5, c6, c7, c8, c9, c10, c11, y0, y1, y2, y3, y4, y5, y6, y7, y8, y9, y10, y11, n, rfl, by simpa using hx.1, by simpa [Value.cells, o0, k0] using hg 0 f0 rfl, by simpa [Value.cells, o1, k1] using hg 1 f1 rfl, by simpa [Value.cells, o2, k2] using hg 2 f2 rfl, by simpa [Value.cells, o3, k3] using hg 3 f3 rfl, by simpa [Value.cells, o4, k4] using hg 4 f4 rfl, by simpa [Value.cells, o5, k5] using hg 5 f5 rfl, by simpa [Value.cells, o6, k6] using hg 6 f6 rfl, by simpa [Value.cells, o7, k7] using hg 7 f7 rfl, by simpa [Value.cells, o8, k8] using hg 8 f8 rfl, by simpa [Value.cells, o9, k9] using hg 9 f9 rfl, by simpa [Value.cells, o10, k10] using hg 10 f10 rfl, by simpa [Value.cells, o11, k11] using hg 11 f11 rfl⟩
theorem bulk_mem {d : DataW H} : ∀ {ds : List (DataW H)}, d ∈ ds → Rows.uptoBulk d ≤ Rows.uptoBulkAll ds
  | [], h => by simp at h
  | e :: r, h => by
    simp only [Rows.uptoBulkAll]
    rcases List.mem_cons.1 h with rfl | h
    · omega
    · have := bulk_mem h; omega
end
theorem cEn : Tryz.prog.cellsOf 71 = 4 := by kernel_rfl
theorem cMs : Tryz.prog.cellsOf 25 = 12 := by kernel_rfl
set_option maxRecDepth 100000 in
/-- A slice of entries that came in. -/
theorem open_entries {H : Type} {enc : TypeId × Value → H} {W : World} {base k : Nat} {sp : Nat → Bool} {held : Bool} {v : Value} {y : DataW H × List MemPlace}
    (hf : DataW.trod enc Tryz.prog W base sp held k 23 [v] = some y) : ∃ a n c xs, v = .slice a n c ∧ EsS W (.slice a n c) xs ∧ ∀ x ∈ xs, x.n ≤ Rows.uptoBulk y.1 := by
  rcases open_slice_fields Tryz.underlying23 Tryz.underlying71 (by kernel_rfl) cEn hf with ⟨hcs, _⟩ | ⟨x, len, cap, m, D, Pl, hcs, _, hl, hm, hmm, hx, hi⟩
  · simp at hcs
    subst hcs
    exact ⟨none, 0, 0, [], rfl, EsS.nil W, fun x hx => by simp at hx⟩
  · simp at hcs
    subst hcs
    have hlm : len ≤ m := by rw [hmm]; split <;> omega
    have each : ∀ i, i < len → ∃ y : RE, y.Fit W ∧ W.cell? (x.add (i * 4)) = some (.int .i64 y.i) ∧ W.cell? (x.add (i * 4 + 1)) = some (.int .i64 y.t) ∧ W.cell? (x.add (i * 4 + 2)) = some (.int .i64 y.k) ∧ W.cell? (x.add (i * 4 + 3)) = some (.slice y.a y.n y.c) ∧ y.n ≤ Rows.uptoBulk (D i) := by
      intro i hil
      obtain ⟨ys, n, hD, _, hyl, hg⟩ := hi i (by omega)
      obtain ⟨v0, y0, c0, e0, t0⟩ := hg 0 _ rfl
      obtain ⟨v1, y1, c1, e1, t1⟩ := hg 1 _ rfl
      obtain ⟨v2, y2, c2, e2, t2⟩ := hg 2 _ rfl
      obtain ⟨v3, y3, c3, e3, t3⟩ := hg 3 _ rfl
      obtain ⟨n0, f0, _, _⟩ := DataW.trod_int Tryz.underlying3 t0
      obtain ⟨n1, f1, _, _⟩ := DataW.trod_int Tryz.underlying3 t1
      obtain ⟨n2, f2, _, _⟩ := DataW.trod_int Tryz.underlying3 t2
      obtain ⟨a, m, c, b, rfl, hb, hI, hu, _⟩ := open_bytes t3
      simp at f0 f1 f2
      subst f0 f1 f2
      refine ⟨⟨n0, n1, n2, a, m, c, b⟩, ⟨hb, hI⟩, c0, c1, c2, c3, ?_⟩
      rw [hD]
      match ys, hyl, e0, e1, e2, e3 with
      | [z0, z1, z2, z3], _, e0, e1, e2, e3 =>
        simp at e0 e1 e2 e3
        subst e0 e1 e2 e3
        simp only [Rows.uptoBulk, List.map, Rows.uptoBulkAll]
        omega
    obtain ⟨xs, hxl, hxs⟩ := list_choice len each
    subst hx
    refine ⟨_, len, cap, xs, rfl, ⟨_, cap, by rw [hxl], by omega, hm, ?_, fun y hy => ?_⟩, fun y hy => ?_⟩
    · by_cases h0 : len = 0
      · exact .inl (List.eq_nil_of_length_eq_zero (by omega))
      · have hc := (each 0 (by omega)).choose_spec.2.1
        obtain ⟨b, off, spot⟩ := x
        have hspot : spot = none := by simpa [Addr.add] using World.cell?_spot hc
        subst hspot
        have hadd : ∀ i, (⟨b, off, none⟩ : Addr).add i = ⟨b, off + i, none⟩ := fun i => by unfold Addr.add; split <;> simp_all
        refine .inr ⟨b, off, rfl, fun i y hy => ?_⟩
        obtain ⟨_, c0, c1, c2, c3, _⟩ := hxs i y hy
        rw [hadd] at c0 c1 c2 c3
        rw [← Nat.add_assoc] at c1 c2 c3
        exact ⟨c0, c1, c2, c3⟩
    · obtain ⟨i, hi, rfl⟩ := List.getElem_of_mem hy
      exact (hxs i _ (List.getElem?_eq_getElem hi)).1
    · obtain ⟨i, hi, rfl⟩ := List.getElem_of_mem hy
      have h1 := (hxs i _ (List.getElem?_eq_getElem hi)).2.2.2.2.2
      have h2 : D i ∈ (List.range len).map D := List.mem_map.2 ⟨i, List.mem_range.2 (by omega), rfl⟩
      have h3 := bulk_mem h2
      simp only [Rows.uptoBulk]
      omega
set_option maxRecDepth 100000 in
/-- A message that came in. -/
theorem open_msg {H : Type} {enc : TypeId × Value → H} {W : World} {base b0 : Nat} {sp : Nat → Bool} {held : Bool} {v : Value} {d : DataW H} {p : List MemPlace} (ho : Value.okWide Tryz.prog W .any b0 25 v)
    (h : DataW.Trod enc Tryz.prog W base sp held 25 v d p) : ∃ x : RM, v = x.val ∧ x.Fit W ∧ x.dn ≤ Rows.uptoBulk d ∧ ∀ y ∈ x.es, y.n ≤ Rows.uptoBulk d := by
  obtain ⟨v0, v1, v2, v3, v4, v5, v6, v7, v8, v9, v10, v11, y0, y1, y2, y3, y4, y5, y6, y7, y8, y9, y10, y11, k, rfl, rfl, t0, t1, t2, t3, t4, t5, t6, t7, t8, t9, t10, t11⟩ := open_agg12 Tryz.underlying25 (by kernel_rfl) cMs ho h
  obtain ⟨n0, e0, _, _⟩ := DataW.trod_int Tryz.underlying3 t0
  obtain ⟨n1, e1, _, _⟩ := DataW.trod_int Tryz.underlying3 t1
  obtain ⟨n2, e2, _, _⟩ := DataW.trod_int Tryz.underlying3 t2
  obtain ⟨n3, e3, _, _⟩ := DataW.trod_int Tryz.underlying3 t3
  obtain ⟨n4, e4, _, _⟩ := DataW.trod_int Tryz.underlying3 t4
  obtain ⟨n5, e5, _, _⟩ := DataW.trod_int Tryz.underlying3 t5
  obtain ⟨n6, e6, _, _⟩ := DataW.trod_int Tryz.underlying3 t6
  obtain ⟨n7, e7, _, _⟩ := DataW.trod_int Tryz.underlying3 t7
  obtain ⟨n9, e9, _, _⟩ := DataW.trod_int Tryz.underlying3 t9
  obtain ⟨bb, e8, _⟩ := DataW.trod_bool Tryz.underlying4 t8
  obtain ⟨a, m, c, b, rfl, hb, hI, hu, _⟩ := open_bytes t10
  obtain ⟨ea, en, ec, xs, rfl, hes, hxu⟩ := open_entries t11
  simp at e0 e1 e2 e3 e4 e5 e6 e7 e9 e8
  subst e0 e1 e2 e3 e4 e5 e6 e7 e9 e8
  refine ⟨⟨n0, n1, n2, n3, n4, n5, n6, n7, bb, n9, a, m, c, b, ea, en, ec, xs⟩, rfl, ⟨hb, hI, hes⟩, ?_, fun y hy => ?_⟩
  · simp only [Rows.uptoBulk, Rows.uptoBulkAll]; omega
  · have := hxu y hy
    simp only [Rows.uptoBulk, Rows.uptoBulkAll]; omega
end Go.Proofs.YtbgockggbpmhnaaGreatDoor

namespace Go.Proofs.YtbgockggbpmhnaaGreatDoor
open Go Go.RowKit

/-- A reader and a value. -/
def RVl (w w' : World) (v : Ending) (x : Value) (l : List UInt8) (k : Nat) : Prop :=
  (∃ a n c, v = .returned (.tuple #[.agg #[.slice a n c, .int .i64 (k : Nat)], x]) ∧ l.length = n ∧ IsB w' (.slice a n c) l) ∧ Below w.heap.size w w'
theorem RVl.of {w w' : World} {v : Ending} {x : Value} {l : List UInt8} {k : Nat} (h : RValR w w' v x l k) : RVl w w' v x l k := by
  obtain ⟨⟨a, c, h1, h2⟩, b⟩ := h
  exact ⟨⟨a, _, c, h1, rfl, h2⟩, b⟩
set_option maxRecDepth 100000 in
set_option maxHeartbeats 4000000 in
theorem rnumber_any (a : Option Addr) (n c k : Nat) (l : List UInt8) (w : World) (hn : l.length = n) (hv : IsB w (.slice a n c) l) :
    Calls Tryz.prog 33 #[.agg #[.slice a n c, .int .i64 (k : Nat)]] w fun v w' => RVl w w' v (.int .i64 ((PK.uintP 1099511627776 l k).1 : Nat)) (PK.uintP 1099511627776 l k).2.1 (PK.uintP 1099511627776 l k).2.2 := by
  subst hn
  have HU := Lib.hid (fun W (h : IsB W (.slice a l.length c) l) => rreadUint_any a c k 1099511627776 l W h)
  have hle := PK.uint_le 1099511627776 l k
  have Hv := Lib.hid hv
  generalize PK.uintP 1099511627776 l k = R at *
  obtain ⟨x, l1, k1⟩ := R
  simp only at hle HU ⊢
  have hw : IntKind.i64.wrap (x : Int) = (x : Int) := by rw [IntKind.wrap_i64]; omega
  clear hle hv
  go_enter Tryz.func33, Tryz.ntmps33
  go_wp2_with fail
  refine (HU.out _ ((Hv.out.alloc _).alloc _)).mono ?_
  rintro v w1 ⟨⟨a1, c1, rfl, i1⟩, b1⟩
  obtain ⟨g1, g2, bb⟩ := own2 b1
  obtain ⟨d0, d1, z0, z1⟩ := cells2 g1
  obtain ⟨p0, p1, q0, q1⟩ := cells2 g2
  have hM1 : w.heap.size + 1 < w1.heap.size := (Array.getElem?_eq_some_iff.1 g2).1
  obtain ⟨W, hW⟩ : ∃ W, W = put2 (put2 w1 w.heap.size a1 l1.length c1 k1) (w.heap.size + 1) a1 l1.length c1 k1 := ⟨_, rfl⟩
  have fW : Fr (fun j => j = w.heap.size ∨ j = w.heap.size + 1) w1 W := by
    rw [hW]
    exact (put2_fr _ _ _ (.inl rfl) _ _ _ _).trans (put2_fr _ _ _ (.inr rfl) _ _ _ _)
  have eW : W.heap[w.heap.size + 1]? = some (.cells #[.slice a1 l1.length c1, .int .i64 k1] 63) := by
    rw [hW]
    exact stored2 ((stored2_other _ _ (by omega)).trans g2) _ _
  have iW : IsB W (.slice a1 l1.length c1) l1 := by
    by_cases hl : l1 = []
    · subst hl; exact i1.empty
    · refine i1.kept fW (fun b hb e => ?_)
      rcases e with e | e
      · exact i1.apart2 g1 (by simp) (by simp) hl (by rw [hb, e])
      · exact i1.apart2 g2 (by simp) (by simp) hl (by rw [hb, e])
  have bW : Below w.heap.size w W := bb.trans ⟨fW.os, fW.tape, fW.output, fW.size, fun q hq => fW.block q (by omega) (by omega)⟩
  have Fin : Hid (RVl w W (.returned (.tuple #[.agg #[.slice a1 l1.length c1, .int .i64 k1], .int .i64 x])) (.int .i64 x) l1 k1) := ⟨⟨a1, _, c1, rfl, rfl, iW⟩, bW⟩
  have EW := Lib.hid (cells2 eW)
  have HWs : Hid (W = (((w1.setCell ⟨w.heap.size, 0, none⟩ (.slice a1 l1.length c1)).setCell ⟨w.heap.size, 1, none⟩ (.int .i64 k1)).setCell ⟨w.heap.size + 1, 0, none⟩ (.slice a1 l1.length c1)).setCell ⟨w.heap.size + 1, 1, none⟩ (.int .i64 k1)) := hW
  clear b1 HU hW fW eW iW bW bb i1 g1 g2 hM1
  go_wp2
  rw [← HWs.out]
  obtain ⟨e0, e1, _⟩ := EW.out
  refine bodyPost_ret (v := .tuple #[.agg #[.slice a1 l1.length c1, .int .i64 k1], .int .i64 x]) (by simp [results, Tryz.results33, go_sem, e0, e1]) rfl ?_
  exact Fin.out
end Go.Proofs.YtbgockggbpmhnaaGreatDoor

namespace Go.Proofs.YtbgockggbpmhnaaGreatDoor
open Go Go.RowKit

/-- Decode's memory: the results' box (blank), the message under way (block M), the reader (block R). -/
structure DcS (w V : World) (M R : Nat) (cs : Array Value) (a : Option Addr) (n c : Nat) (l : List UInt8) (k : Nat) : Prop where
  be : Below w.heap.size w V
  rb : V.heap[w.heap.size]? = some (.cells #[.int .i64 0, .int .i64 0, .int .i64 0, .int .i64 0, .int .i64 0, .int .i64 0, .int .i64 0, .int .i64 0, .bool false, .int .i64 0, .slice none 0 0, .slice none 0 0] 25)
  mb : V.heap[M]? = some (.cells cs 25)
  rd : V.heap[R]? = some (.cells #[.slice a n c, .int .i64 k] 63)
  is : IsB V (.slice a n c) l
  hn : l.length = n
  oM : w.heap.size < M
  oR : w.heap.size < R
  ne : M ≠ R
  h8 : ∀ (j : Nat) (n : Int), cs[j]? ≠ some (.int .u8 n)
theorem DcS.noM {w V : World} {M R : Nat} {cs : Array Value} {a : Option Addr} {n c : Nat} {l : List UInt8} {k : Nat} (h : DcS w V M R cs a n c l k) (j : Nat) (m : Int) : V.cell? ⟨M, j, none⟩ ≠ some (.int .u8 m) := by
  intro e
  simp only [World.cell?, h.mb] at e
  exact h.h8 j m e
theorem DcS.noR {w V : World} {M R : Nat} {cs : Array Value} {a : Option Addr} {n c : Nat} {l : List UInt8} {k : Nat} (h : DcS w V M R cs a n c l k) (j : Nat) (m : Int) : V.cell? ⟨R, j, none⟩ ≠ some (.int .u8 m) := by
  intro e
  simp only [World.cell?, h.rd] at e
  rcases j with _ | _ | j
  · simp at e
  · simp at e
  · simp at e
theorem DcS.ltM {w V : World} {M R : Nat} {cs : Array Value} {a : Option Addr} {n c : Nat} {l : List UInt8} {k : Nat} (h : DcS w V M R cs a n c l k) : M < V.heap.size := (Array.getElem?_eq_some_iff.1 h.mb).1
theorem DcS.ltR {w V : World} {M R : Nat} {cs : Array Value} {a : Option Addr} {n c : Nat} {l : List UInt8} {k : Nat} (h : DcS w V M R cs a n c l k) : R < V.heap.size := (Array.getElem?_eq_some_iff.1 h.rd).1
theorem DcS.fr {X : Nat → Prop} {w V V' : World} {M R : Nat} {cs : Array Value} {a : Option Addr} {n c : Nat} {l : List UInt8} {k : Nat} (h : DcS w V M R cs a n c l k) (f : Fr X V V') (hx : ∀ q, X q → w.heap.size < q ∧ q ≠ M ∧ q ≠ R)
    (h8 : ∀ q, X q → ∀ j m, V.cell? ⟨q, j, none⟩ ≠ some (.int .u8 m)) : DcS w V' M R cs a n c l k :=
  ⟨h.be.trans ⟨f.os, f.tape, f.output, f.size, fun q hq => f.block q (Nat.lt_of_lt_of_le hq h.be.size) (fun x => by have := hx q x; omega)⟩,
   f.heap h.rb (fun x => by have := (hx _ x).1; omega), f.heap h.mb (fun x => (hx _ x).2.1 rfl), f.heap h.rd (fun x => (hx _ x).2.2 rfl), h.is.kept8 f h8, h.hn, h.oM, h.oR, h.ne, h.h8⟩
theorem DcS.below {w V V' : World} {M R : Nat} {cs : Array Value} {a : Option Addr} {n c : Nat} {l : List UInt8} {k : Nat} (h : DcS w V M R cs a n c l k) (f : Below V.heap.size V V') : DcS w V' M R cs a n c l k :=
  h.fr (X := fun _ => False) (Fr.of_below f) (fun _ x => x.elim) (fun _ x => x.elim)
/-- A cell of the message turns. -/
theorem DcS.putM {w V : World} {M R : Nat} {cs : Array Value} {a : Option Addr} {n c : Nat} {l : List UInt8} {k : Nat} (h : DcS w V M R cs a n c l k) (i : Nat) (v : Value) (hv : ∀ m, v ≠ .int .u8 m) (cs' : Array Value) (hs : cs.setIfInBounds i v = cs') :
    DcS w (V.setCell ⟨M, i, none⟩ v) M R cs' a n c l k := by
  have f : Fr (fun j => j = M) V (V.setCell ⟨M, i, none⟩ v) := Fr.setCell (X := fun j => j = M) (Fr.refl _ _) (fun _ => rfl) _
  have hM := h.oM
  have hR := h.oR
  have hne := h.ne
  refine ⟨h.be.trans ⟨f.os, f.tape, f.output, f.size, fun q hq => f.block q (Nat.lt_of_lt_of_le hq h.be.size) (by omega)⟩, f.heap h.rb (by omega), ?_, f.heap h.rd (by omega), h.is.kept8 f (fun q hq => by subst hq; exact h.noM), h.hn, hM, hR, hne, ?_⟩
  · rw [← hs]
    simp only [World.setCell, Array.getElem?_modify, if_true, h.mb, Option.map_some]
    simp
  · rw [← hs]
    intro j m e
    rw [Array.getElem?_setIfInBounds] at e
    split at e
    · split at e
      · exact hv m (Option.some.inj e)
      · cases e
    · exact h.h8 j m e
/-- The reader turns. -/
theorem DcS.putR {w V : World} {M R : Nat} {cs : Array Value} {a : Option Addr} {n c : Nat} {l : List UInt8} {k : Nat} (h : DcS w V M R cs a n c l k) {a' : Option Addr} {n' c' k' : Nat} {l' : List UInt8} (hi : IsB V (.slice a' n' c') l') (hn : l'.length = n') :
    DcS w (put2 V R a' n' c' k') M R cs a' n' c' l' k' := by
  have f : Fr (fun j => j = R) V (put2 V R a' n' c' k') := put2_fr (fun j => j = R) V R rfl a' n' c' k'
  have hM := h.oM
  have hR := h.oR
  have hne := h.ne
  refine ⟨h.be.trans ⟨f.os, f.tape, f.output, f.size, fun q hq => f.block q (Nat.lt_of_lt_of_le hq h.be.size) (by omega)⟩, f.heap h.rb (by omega), f.heap h.mb (by omega), stored2 h.rd _ _, hi.kept8 f (fun q hq => by subst hq; exact h.noR), hn, hM, hR, hne, h.h8⟩
/-- Both turn. -/
theorem DcS.put {w V : World} {M R : Nat} {cs : Array Value} {a : Option Addr} {n c : Nat} {l : List UInt8} {k : Nat} (h : DcS w V M R cs a n c l k) {a' : Option Addr} {n' c' k' : Nat} {l' : List UInt8} (hi : IsB V (.slice a' n' c') l') (hn : l'.length = n')
    (i : Nat) (v : Value) (hv : ∀ m, v ≠ .int .u8 m) (cs' : Array Value) (hs : cs.setIfInBounds i v = cs') :
    DcS w ((put2 V R a' n' c' k').setCell ⟨M, i, none⟩ v) M R cs' a' n' c' l' k' := (h.putR hi hn).putM i v hv cs' hs
/-- Bytes read on while both turn. -/
theorem DcS.bytes {w V : World} {M R : Nat} {cs : Array Value} {a : Option Addr} {n c : Nat} {l : List UInt8} {k : Nat} (h : DcS w V M R cs a n c l k) (a' : Option Addr) (n' c' k' i : Nat) (v : Value) {x : Value} {m : List UInt8} (hm : IsB V x m) : IsB ((put2 V R a' n' c' k').setCell ⟨M, i, none⟩ v) x m := by
  have f : Fr (fun j => j = R ∨ j = M) V ((put2 V R a' n' c' k').setCell ⟨M, i, none⟩ v) := Fr.setCell (X := fun j => j = R ∨ j = M) (put2_fr _ V R (.inl rfl) a' n' c' k') (fun _ => .inr rfl) v
  exact hm.kept8 f (fun q hq => by
    rcases hq with rfl | rfl
    · exact h.noR
    · exact h.noM)
theorem DcS.bytesR {w V : World} {M R : Nat} {cs : Array Value} {a : Option Addr} {n c : Nat} {l : List UInt8} {k : Nat} (h : DcS w V M R cs a n c l k) (a' : Option Addr) (n' c' k' : Nat) {x : Value} {m : List UInt8} (hm : IsB V x m) : IsB (put2 V R a' n' c' k') x m :=
  hm.kept8 (put2_fr (fun j => j = R) V R rfl a' n' c' k') (fun q hq => by subst hq; exact h.noR)
theorem DecR.uni {w w' : World} {v : Ending} {r : Option PK.Ent} (h : DecR w w' v r intV) : ∃ (y : RE) (f : Nat), v = .returned (.tuple #[.agg #[.int .i64 y.i, .int .i64 y.t, .int .i64 y.k, .slice y.a y.n y.c], .int .i64 f]) ∧ y.Fit w' ∧ ((f = 0 ∧ r = some y.ent) ∨ (f = 3 ∧ r = none)) ∧ Below w.heap.size w w' := by
  obtain ⟨h, b⟩ := h
  cases r with
  | none => exact ⟨⟨0, 0, 0, none, 0, 0, []⟩, 3, h, ⟨rfl, IsB.nil _⟩, .inr ⟨rfl, rfl⟩, b⟩
  | some e =>
    obtain ⟨i, t, k, d⟩ := e
    obtain ⟨a, n, c, h, hi⟩ := h
    have hn : d.length = n := by obtain ⟨_, _, e, _⟩ := hi; simp at e; exact e.2.1.symm
    exact ⟨⟨i, t, k, a, n, c, d⟩, 0, h, ⟨hn, hi⟩, .inl ⟨rfl, rfl⟩, b⟩

set_option maxRecDepth 100000 in
set_option maxHeartbeats 16000000 in
theorem rdecM_any (a : Option Addr) (c : Nat) (l : List UInt8) (w : World) (hv : IsB w (.slice a l.length c) l) (hl47 : l.length ≤ roomB) :
    Calls Tryz.prog 12 #[.slice a l.length c] w fun v w' => DecMR intV w w' v (PK.decM l) := by
  obtain ⟨v1, l1, k1, hp1⟩ : ∃ v l' k, PK.uintP 1099511627776 l 0 = (v, l', k) := ⟨_, _, _, rfl⟩
  obtain ⟨v2, l2, k2, hp2⟩ : ∃ v l' k, PK.uintP 1099511627776 l1 k1 = (v, l', k) := ⟨_, _, _, rfl⟩
  obtain ⟨v3, l3, k3, hp3⟩ : ∃ v l' k, PK.uintP 1099511627776 l2 k2 = (v, l', k) := ⟨_, _, _, rfl⟩
  obtain ⟨v4, l4, k4, hp4⟩ : ∃ v l' k, PK.uintP 1099511627776 l3 k3 = (v, l', k) := ⟨_, _, _, rfl⟩
  obtain ⟨v5, l5, k5, hp5⟩ : ∃ v l' k, PK.uintP 1099511627776 l4 k4 = (v, l', k) := ⟨_, _, _, rfl⟩
  obtain ⟨v6, l6, k6, hp6⟩ : ∃ v l' k, PK.uintP 1099511627776 l5 k5 = (v, l', k) := ⟨_, _, _, rfl⟩
  obtain ⟨v7, l7, k7, hp7⟩ : ∃ v l' k, PK.uintP 1099511627776 l6 k6 = (v, l', k) := ⟨_, _, _, rfl⟩
  obtain ⟨v8, l8, k8, hp8⟩ : ∃ v l' k, PK.uintP 1099511627776 l7 k7 = (v, l', k) := ⟨_, _, _, rfl⟩
  obtain ⟨b9, l9, k9, hp9⟩ : ∃ v l' k, PK.boolP l8 k8 = (v, l', k) := ⟨_, _, _, rfl⟩
  obtain ⟨va, la, ka, hpa⟩ : ∃ v l' k, PK.uintP 1099511627776 l9 k9 = (v, l', k) := ⟨_, _, _, rfl⟩
  obtain ⟨d, lb, kb, hpb⟩ : ∃ v l' k, PK.runP 98 4096 la ka = (v, l', k) := ⟨_, _, _, rfl⟩
  obtain ⟨n, lc, kc, hpc⟩ : ∃ v l' k, PK.countP 64 lb kb = (v, l', k) := ⟨_, _, _, rfl⟩
  have hlen : lc.length ≤ roomB ∧ la.length ≤ roomB := by
    have bool_rest : ∀ (l : List UInt8) (k : Nat), (PK.boolP l k).2.1.length ≤ l.length := fun l k => by
      unfold PK.boolP
      split
      · exact Nat.le_refl _
      · split
        · exact Nat.le_refl _
        · simp
    have run_rest : ∀ (l : List UInt8) (k : Nat), (PK.runP 98 4096 l k).2.1.length ≤ l.length := fun l k => by
      unfold PK.runP
      split
      · exact Nat.le_refl _
      · split
        · exact Nat.le_refl _
        · split
          · exact Nat.le_refl _
          · split
            · exact Nat.le_refl _
            · simp
    have count_rest : ∀ (l : List UInt8) (k : Nat), (PK.countP 64 l k).2.1.length ≤ l.length := fun l k => by
      unfold PK.countP
      have := PK.uint_rest (64 : Int).toNat l k
      split
      · exact Nat.le_refl _
      · split
        · exact Nat.le_refl _
        · exact this
    have e1 := PK.uint_rest 1099511627776 l 0
    rw [hp1] at e1
    have e2 := PK.uint_rest 1099511627776 l1 k1
    rw [hp2] at e2
    have e3 := PK.uint_rest 1099511627776 l2 k2
    rw [hp3] at e3
    have e4 := PK.uint_rest 1099511627776 l3 k3
    rw [hp4] at e4
    have e5 := PK.uint_rest 1099511627776 l4 k4
    rw [hp5] at e5
    have e6 := PK.uint_rest 1099511627776 l5 k5
    rw [hp6] at e6
    have e7 := PK.uint_rest 1099511627776 l6 k6
    rw [hp7] at e7
    have e8 := PK.uint_rest 1099511627776 l7 k7
    rw [hp8] at e8
    have e9 := bool_rest l8 k8
    rw [hp9] at e9
    have ea := PK.uint_rest 1099511627776 l9 k9
    rw [hpa] at ea
    have eb := run_rest la ka
    rw [hpb] at eb
    have ec := count_rest lb kb
    rw [hpc] at ec
    simp only at e1 e2 e3 e4 e5 e6 e7 e8 e9 ea eb ec
    omega
  have hn64 : n ≤ 64 := by
    rcases PK.count_cases lb kb with ⟨e, _, h⟩ | ⟨n', e, _, _, h1, _, h⟩
    · rw [hpc] at h; have := congrArg Prod.fst h; simp only at this; omega
    · rw [hpc] at h
      split at h
      · have := congrArg Prod.fst h; simp only at this; omega
      · have := congrArg Prod.fst h; simp only at this; omega
  have hdec : PK.decM l = match PK.readEs n lc kc with
      | none => none
      | some r => if PK.doneP r.2.1 r.2.2 ≠ 0 ∨ ¬ PK.mayM ⟨v1, v2, v3, v4, v5, v6, v7, v8, b9, va, d, r.1⟩ then none else some ⟨v1, v2, v3, v4, v5, v6, v7, v8, b9, va, d, r.1⟩ := by
    unfold PK.decM PK.readH
    simp only [hp1, hp2, hp3, hp4, hp5, hp6, hp7, hp8, hp9, hpa, hpb, hpc]
    cases PK.readEs n lc kc with
    | none => rfl
    | some r => rfl
  have HDEC := Lib.hid hdec
  have H1 : Hid (∀ (W : World) (a : Option Addr) (n c : Nat), l.length = n → IsB W (.slice a n c) l → Calls Tryz.prog 33 #[.agg #[.slice a n c, .int .i64 (0 : Nat)]] W fun v w' => RVl W w' v (.int .i64 v1) l1 k1) := fun W a n c hn h => by
    have := rnumber_any a n c 0 l W hn h
    simp only [hp1] at this
    exact this
  have H2 : Hid (∀ (W : World) (a : Option Addr) (n c : Nat), l1.length = n → IsB W (.slice a n c) l1 → Calls Tryz.prog 33 #[.agg #[.slice a n c, .int .i64 (k1 : Nat)]] W fun v w' => RVl W w' v (.int .i64 v2) l2 k2) := fun W a n c hn h => by
    have := rnumber_any a n c k1 l1 W hn h
    simp only [hp2] at this
    exact this
  have H3 : Hid (∀ (W : World) (a : Option Addr) (n c : Nat), l2.length = n → IsB W (.slice a n c) l2 → Calls Tryz.prog 33 #[.agg #[.slice a n c, .int .i64 (k2 : Nat)]] W fun v w' => RVl W w' v (.int .i64 v3) l3 k3) := fun W a n c hn h => by
    have := rnumber_any a n c k2 l2 W hn h
    simp only [hp3] at this
    exact this
  have H4 : Hid (∀ (W : World) (a : Option Addr) (n c : Nat), l3.length = n → IsB W (.slice a n c) l3 → Calls Tryz.prog 33 #[.agg #[.slice a n c, .int .i64 (k3 : Nat)]] W fun v w' => RVl W w' v (.int .i64 v4) l4 k4) := fun W a n c hn h => by
    have := rnumber_any a n c k3 l3 W hn h
    simp only [hp4] at this
    exact this
  have H5 : Hid (∀ (W : World) (a : Option Addr) (n c : Nat), l4.length = n → IsB W (.slice a n c) l4 → Calls Tryz.prog 33 #[.agg #[.slice a n c, .int .i64 (k4 : Nat)]] W fun v w' => RVl W w' v (.int .i64 v5) l5 k5) := fun W a n c hn h => by
    have := rnumber_any a n c k4 l4 W hn h
    simp only [hp5] at this
    exact this
  have H6 : Hid (∀ (W : World) (a : Option Addr) (n c : Nat), l5.length = n → IsB W (.slice a n c) l5 → Calls Tryz.prog 33 #[.agg #[.slice a n c, .int .i64 (k5 : Nat)]] W fun v w' => RVl W w' v (.int .i64 v6) l6 k6) := fun W a n c hn h => by
    have := rnumber_any a n c k5 l5 W hn h
    simp only [hp6] at this
    exact this
  have H7 : Hid (∀ (W : World) (a : Option Addr) (n c : Nat), l6.length = n → IsB W (.slice a n c) l6 → Calls Tryz.prog 33 #[.agg #[.slice a n c, .int .i64 (k6 : Nat)]] W fun v w' => RVl W w' v (.int .i64 v7) l7 k7) := fun W a n c hn h => by
    have := rnumber_any a n c k6 l6 W hn h
    simp only [hp7] at this
    exact this
  have H8 : Hid (∀ (W : World) (a : Option Addr) (n c : Nat), l7.length = n → IsB W (.slice a n c) l7 → Calls Tryz.prog 33 #[.agg #[.slice a n c, .int .i64 (k7 : Nat)]] W fun v w' => RVl W w' v (.int .i64 v8) l8 k8) := fun W a n c hn h => by
    have := rnumber_any a n c k7 l7 W hn h
    simp only [hp8] at this
    exact this
  have H9 : Hid (∀ (W : World) (a : Option Addr) (n c : Nat), l8.length = n → IsB W (.slice a n c) l8 → Calls Tryz.prog 34 #[.agg #[.slice a n c, .int .i64 (k8 : Nat)]] W fun v w' => RVl W w' v (.bool b9) l9 k9) := fun W a n c hn h => by
    subst hn
    have := (rreadBool_any a c k8 l8 W h).mono fun _ _ q => RVl.of q
    simp only [hp9] at this
    exact this
  have Ha : Hid (∀ (W : World) (a : Option Addr) (n c : Nat), l9.length = n → IsB W (.slice a n c) l9 → Calls Tryz.prog 33 #[.agg #[.slice a n c, .int .i64 (k9 : Nat)]] W fun v w' => RVl W w' v (.int .i64 va) la ka) := fun W a n c hn h => by
    have := rnumber_any a n c k9 l9 W hn h
    simp only [hpa] at this
    exact this
  have Hb : Hid (∀ (W : World) (a : Option Addr) (n c : Nat), la.length = n → IsB W (.slice a n c) la → Calls Tryz.prog 35 #[.agg #[.slice a n c, .int .i64 (ka : Nat)], .int .i64 4096] W fun v w' => (∃ a1 n1 c1 a2 n2 c2, v = .returned (.tuple #[.agg #[.slice a1 n1 c1, .int .i64 (kb : Nat)], .slice a2 n2 c2]) ∧ lb.length = n1 ∧ IsB w' (.slice a1 n1 c1) lb ∧ d.length = n2 ∧ IsB w' (.slice a2 n2 c2) d) ∧ Below W.heap.size W w') := fun W a n c hn h => by
    subst hn
    have := rreadBytes_any a c ka la 4096 W h (by decide) (by decide) hlen.2
    rw [hpb] at this
    exact this.mono fun v w' ⟨⟨a1, c1, a2, c2, e1, e2, e3⟩, b⟩ => ⟨⟨a1, _, c1, a2, _, c2, e1, rfl, e2, rfl, e3⟩, b⟩
  have Hc : Hid (∀ (W : World) (a : Option Addr) (n' c : Nat), lb.length = n' → IsB W (.slice a n' c) lb → Calls Tryz.prog 36 #[.agg #[.slice a n' c, .int .i64 (kb : Nat)], .int .i64 64] W fun v w' => RVl W w' v (.int .i64 n) lc kc) := fun W a n' c hn h => by
    subst hn
    have := (rreadCount_any a c kb lb W h).mono fun _ _ q => RVl.of q
    simp only [hpc] at this
    exact this
  have HLC := Lib.hid hlen.1
  have HV := Lib.hid hv
  have HN64 := Lib.hid hn64
  clear hv hl47 hdec hlen hn64 hp1 hp2 hp3 hp4 hp5 hp6 hp7 hp8 hp9 hpa hpb hpc
  generalize PK.decM l = RES at *
  go_enter Tryz.func12, Tryz.ntmps12
  go_wp2_with fail
  obtain ⟨W0, hW0⟩ : ∃ W, W = ((w.alloc (.cells #[.int .i64 0, .int .i64 0, .int .i64 0, .int .i64 0, .int .i64 0, .int .i64 0, .int .i64 0, .int .i64 0, .bool false, .int .i64 0, .slice none 0 0, .slice none 0 0] 25)).alloc (.cells #[.int .i64 0, .int .i64 0, .int .i64 0, .int .i64 0, .int .i64 0, .int .i64 0, .int .i64 0, .int .i64 0, .bool false, .int .i64 0, .slice none 0 0, .slice none 0 0] 25)).alloc (.cells #[.slice a l.length c, .int .i64 0] 63) := ⟨_, rfl⟩
  have bW0 : Below W0.heap.size (((w.alloc (.cells #[.int .i64 0, .int .i64 0, .int .i64 0, .int .i64 0, .int .i64 0, .int .i64 0, .int .i64 0, .int .i64 0, .bool false, .int .i64 0, .slice none 0 0, .slice none 0 0] 25)).alloc (.cells #[.int .i64 0, .int .i64 0, .int .i64 0, .int .i64 0, .int .i64 0, .int .i64 0, .int .i64 0, .int .i64 0, .bool false, .int .i64 0, .slice none 0 0, .slice none 0 0] 25)).alloc (.cells #[.slice a l.length c, .int .i64 0] 63)) W0 := by rw [hW0]; exact Below.refl _ _
  have T0 : Hid (DcS w W0 (w.heap.size + 1) (w.heap.size + 1 + 1) #[.int .i64 0, .int .i64 0, .int .i64 0, .int .i64 0, .int .i64 0, .int .i64 0, .int .i64 0, .int .i64 0, .bool false, .int .i64 0, .slice none 0 0, .slice none 0 0] a l.length c l 0) := by
    have b1 := (((Below.refl w.heap.size w).alloc (Nat.le_refl _) (.cells #[.int .i64 0, .int .i64 0, .int .i64 0, .int .i64 0, .int .i64 0, .int .i64 0, .int .i64 0, .int .i64 0, .bool false, .int .i64 0, .slice none 0 0, .slice none 0 0] 25)).alloc (by simp) (.cells #[.int .i64 0, .int .i64 0, .int .i64 0, .int .i64 0, .int .i64 0, .int .i64 0, .int .i64 0, .int .i64 0, .bool false, .int .i64 0, .slice none 0 0, .slice none 0 0] 25)).alloc (by simp <;> omega) (.cells #[.slice a l.length c, .int .i64 0] 63)
    rw [hW0]
    refine ⟨b1, ?_, ?_, ?_, HV.out.below b1, rfl, by omega, by omega, by omega, ?_⟩
    · rw [Below.heap_alloc _ _ _ (by simp <;> omega), Below.heap_alloc _ _ _ (by simp)]
      exact heap_alloc_new _ _
    · rw [Below.heap_alloc _ _ _ (by simp)]
      have := heap_alloc_new (w.alloc (.cells #[.int .i64 0, .int .i64 0, .int .i64 0, .int .i64 0, .int .i64 0, .int .i64 0, .int .i64 0, .int .i64 0, .bool false, .int .i64 0, .slice none 0 0, .slice none 0 0] 25)) (.cells #[.int .i64 0, .int .i64 0, .int .i64 0, .int .i64 0, .int .i64 0, .int .i64 0, .int .i64 0, .int .i64 0, .bool false, .int .i64 0, .slice none 0 0, .slice none 0 0] 25)
      simpa using this
    · have := heap_alloc_new ((w.alloc (.cells #[.int .i64 0, .int .i64 0, .int .i64 0, .int .i64 0, .int .i64 0, .int .i64 0, .int .i64 0, .int .i64 0, .bool false, .int .i64 0, .slice none 0 0, .slice none 0 0] 25)).alloc (.cells #[.int .i64 0, .int .i64 0, .int .i64 0, .int .i64 0, .int .i64 0, .int .i64 0, .int .i64 0, .int .i64 0, .bool false, .int .i64 0, .slice none 0 0, .slice none 0 0] 25)) (.cells #[.slice a l.length c, .int .i64 0] 63)
      simpa using this
    · intro j n e
      have := Array.mem_of_getElem? e
      simp at this
  rw [← hW0]
  clear hW0 bW0 HV
  refine (H1.out W0 _ _ _ T0.out.hn T0.out.is).mono ?_
  rintro e w1 ⟨⟨a1, n1, c1, rfl, hn1, i1⟩, q1⟩
  have T1 := T0.out.below q1
  obtain ⟨x0, x1, xf0, xf1⟩ := cells2 T1.rd
  obtain ⟨⟨p0, p1, p2, p3, p4, p5, p6, p7, p8, p9, pa, pb⟩, pf⟩ := cells12 T1.mb
  have U1 : Hid (DcS w (((w1.setCell ⟨w.heap.size + 1 + 1, 0, none⟩ (.slice a1 n1 c1)).setCell ⟨w.heap.size + 1 + 1, 1, none⟩ (.int .i64 (k1 : Nat))).setCell ⟨w.heap.size + 1, 0, none⟩ (.int .i64 v1)) (w.heap.size + 1) (w.heap.size + 1 + 1) #[.int .i64 v1, .int .i64 0, .int .i64 0, .int .i64 0, .int .i64 0, .int .i64 0, .int .i64 0, .int .i64 0, .bool false, .int .i64 0, .slice none 0 0, .slice none 0 0] a1 n1 c1 l1 k1) := Lib.hid (T1.put i1 hn1 0 (.int .i64 v1) (by simp) _ rfl)
  clear T0 T1 H1 i1 q1 hn1
  go_wp2_with fail
  generalize (((w1.setCell ⟨w.heap.size + 1 + 1, 0, none⟩ (.slice a1 n1 c1)).setCell ⟨w.heap.size + 1 + 1, 1, none⟩ (.int .i64 (k1 : Nat))).setCell ⟨w.heap.size + 1, 0, none⟩ (.int .i64 v1)) = W1 at *
  clear x0 x1 xf0 xf1 p0 p1 p2 p3 p4 p5 p6 p7 p8 p9 pa pb pf
  refine (H2.out W1 _ _ _ U1.out.hn U1.out.is).mono ?_
  rintro e w2 ⟨⟨a2, n2, c2, rfl, hn2, i2⟩, q2⟩
  have T2 := U1.out.below q2
  obtain ⟨x0, x1, xf0, xf1⟩ := cells2 T2.rd
  obtain ⟨⟨p0, p1, p2, p3, p4, p5, p6, p7, p8, p9, pa, pb⟩, pf⟩ := cells12 T2.mb
  have U2 : Hid (DcS w (((w2.setCell ⟨w.heap.size + 1 + 1, 0, none⟩ (.slice a2 n2 c2)).setCell ⟨w.heap.size + 1 + 1, 1, none⟩ (.int .i64 (k2 : Nat))).setCell ⟨w.heap.size + 1, 1, none⟩ (.int .i64 v2)) (w.heap.size + 1) (w.heap.size + 1 + 1) #[.int .i64 v1, .int .i64 v2, .int .i64 0, .int .i64 0, .int .i64 0, .int .i64 0, .int .i64 0, .int .i64 0, .bool false, .int .i64 0, .slice none 0 0, .slice none 0 0] a2 n2 c2 l2 k2) := Lib.hid (T2.put i2 hn2 1 (.int .i64 v2) (by simp) _ rfl)
  clear U1 T2 H2 i2 q2 hn2
  go_wp2_with fail
  generalize (((w2.setCell ⟨w.heap.size + 1 + 1, 0, none⟩ (.slice a2 n2 c2)).setCell ⟨w.heap.size + 1 + 1, 1, none⟩ (.int .i64 (k2 : Nat))).setCell ⟨w.heap.size + 1, 1, none⟩ (.int .i64 v2)) = W2 at *
  clear x0 x1 xf0 xf1 p0 p1 p2 p3 p4 p5 p6 p7 p8 p9 pa pb pf
  refine (H3.out W2 _ _ _ U2.out.hn U2.out.is).mono ?_
  rintro e w3 ⟨⟨a3, n3, c3, rfl, hn3, i3⟩, q3⟩
  have T3 := U2.out.below q3
  obtain ⟨x0, x1, xf0, xf1⟩ := cells2 T3.rd
  obtain ⟨⟨p0, p1, p2, p3, p4, p5, p6, p7, p8, p9, pa, pb⟩, pf⟩ := cells12 T3.mb
  have U3 : Hid (DcS w (((w3.setCell ⟨w.heap.size + 1 + 1, 0, none⟩ (.slice a3 n3 c3)).setCell ⟨w.heap.size + 1 + 1, 1, none⟩ (.int .i64 (k3 : Nat))).setCell ⟨w.heap.size + 1, 2, none⟩ (.int .i64 v3)) (w.heap.size + 1) (w.heap.size + 1 + 1) #[.int .i64 v1, .int .i64 v2, .int .i64 v3, .int .i64 0, .int .i64 0, .int .i64 0, .int .i64 0, .int .i64 0, .bool false, .int .i64 0, .slice none 0 0, .slice none 0 0] a3 n3 c3 l3 k3) := Lib.hid (T3.put i3 hn3 2 (.int .i64 v3) (by simp) _ rfl)
  clear U2 T3 H3 i3 q3 hn3
  go_wp2_with fail
  generalize (((w3.setCell ⟨w.heap.size + 1 + 1, 0, none⟩ (.slice a3 n3 c3)).setCell ⟨w.heap.size + 1 + 1, 1, none⟩ (.int .i64 (k3 : Nat))).setCell ⟨w.heap.size + 1, 2, none⟩ (.int .i64 v3)) = W3 at *
  clear x0 x1 xf0 xf1 p0 p1 p2 p3 p4 p5 p6 p7 p8 p9 pa pb pf
  refine (H4.out W3 _ _ _ U3.out.hn U3.out.is).mono ?_
  rintro e w4 ⟨⟨a4, n4, c4, rfl, hn4, i4⟩, q4⟩
  have T4 := U3.out.below q4
  obtain ⟨x0, x1, xf0, xf1⟩ := cells2 T4.rd
  obtain ⟨⟨p0, p1, p2, p3, p4, p5, p6, p7, p8, p9, pa, pb⟩, pf⟩ := cells12 T4.mb
  have U4 : Hid (DcS w (((w4.setCell ⟨w.heap.size + 1 + 1, 0, none⟩ (.slice a4 n4 c4)).setCell ⟨w.heap.size + 1 + 1, 1, none⟩ (.int .i64 (k4 : Nat))).setCell ⟨w.heap.size + 1, 3, none⟩ (.int .i64 v4)) (w.heap.size + 1) (w.heap.size + 1 + 1) #[.int .i64 v1, .int .i64 v2, .int .i64 v3, .int .i64 v4, .int .i64 0, .int .i64 0, .int .i64 0, .int .i64 0, .bool false, .int .i64 0, .slice none 0 0, .slice none 0 0] a4 n4 c4 l4 k4) := Lib.hid (T4.put i4 hn4 3 (.int .i64 v4) (by simp) _ rfl)
  clear U3 T4 H4 i4 q4 hn4
  go_wp2_with fail
  generalize (((w4.setCell ⟨w.heap.size + 1 + 1, 0, none⟩ (.slice a4 n4 c4)).setCell ⟨w.heap.size + 1 + 1, 1, none⟩ (.int .i64 (k4 : Nat))).setCell ⟨w.heap.size + 1, 3, none⟩ (.int .i64 v4)) = W4 at *
  clear x0 x1 xf0 xf1 p0 p1 p2 p3 p4 p5 p6 p7 p8 p9 pa pb pf
  refine (H5.out W4 _ _ _ U4.out.hn U4.out.is).mono ?_
  rintro e w5 ⟨⟨a5, n5, c5, rfl, hn5, i5⟩, q5⟩
  have T5 := U4.out.below q5
  obtain ⟨x0, x1, xf0, xf1⟩ := cells2 T5.rd
  obtain ⟨⟨p0, p1, p2, p3, p4, p5, p6, p7, p8, p9, pa, pb⟩, pf⟩ := cells12 T5.mb
  have U5 : Hid (DcS w (((w5.setCell ⟨w.heap.size + 1 + 1, 0, none⟩ (.slice a5 n5 c5)).setCell ⟨w.heap.size + 1 + 1, 1, none⟩ (.int .i64 (k5 : Nat))).setCell ⟨w.heap.size + 1, 4, none⟩ (.int .i64 v5)) (w.heap.size + 1) (w.heap.size + 1 + 1) #[.int .i64 v1, .int .i64 v2, .int .i64 v3, .int .i64 v4, .int .i64 v5, .int .i64 0, .int .i64 0, .int .i64 0, .bool false, .int .i64 0, .slice none 0 0, .slice none 0 0] a5 n5 c5 l5 k5) := Lib.hid (T5.put i5 hn5 4 (.int .i64 v5) (by simp) _ rfl)
  clear U4 T5 H5 i5 q5 hn5
  go_wp2_with fail
  generalize (((w5.setCell ⟨w.heap.size + 1 + 1, 0, none⟩ (.slice a5 n5 c5)).setCell ⟨w.heap.size + 1 + 1, 1, none⟩ (.int .i64 (k5 : Nat))).setCell ⟨w.heap.size + 1, 4, none⟩ (.int .i64 v5)) = W5 at *
  clear x0 x1 xf0 xf1 p0 p1 p2 p3 p4 p5 p6 p7 p8 p9 pa pb pf
  refine (H6.out W5 _ _ _ U5.out.hn U5.out.is).mono ?_
  rintro e w6 ⟨⟨a6, n6, c6, rfl, hn6, i6⟩, q6⟩
  have T6 := U5.out.below q6
  obtain ⟨x0, x1, xf0, xf1⟩ := cells2 T6.rd
  obtain ⟨⟨p0, p1, p2, p3, p4, p5, p6, p7, p8, p9, pa, pb⟩, pf⟩ := cells12 T6.mb
  have U6 : Hid (DcS w (((w6.setCell ⟨w.heap.size + 1 + 1, 0, none⟩ (.slice a6 n6 c6)).setCell ⟨w.heap.size + 1 + 1, 1, none⟩ (.int .i64 (k6 : Nat))).setCell ⟨w.heap.size + 1, 5, none⟩ (.int .i64 v6)) (w.heap.size + 1) (w.heap.size + 1 + 1) #[.int .i64 v1, .int .i64 v2, .int .i64 v3, .int .i64 v4, .int .i64 v5, .int .i64 v6, .int .i64 0, .int .i64 0, .bool false, .int .i64 0, .slice none 0 0, .slice none 0 0] a6 n6 c6 l6 k6) := Lib.hid (T6.put i6 hn6 5 (.int .i64 v6) (by simp) _ rfl)
  clear U5 T6 H6 i6 q6 hn6
  go_wp2_with fail
  generalize (((w6.setCell ⟨w.heap.size + 1 + 1, 0, none⟩ (.slice a6 n6 c6)).setCell ⟨w.heap.size + 1 + 1, 1, none⟩ (.int .i64 (k6 : Nat))).setCell ⟨w.heap.size + 1, 5, none⟩ (.int .i64 v6)) = W6 at *
  clear x0 x1 xf0 xf1 p0 p1 p2 p3 p4 p5 p6 p7 p8 p9 pa pb pf
  refine (H7.out W6 _ _ _ U6.out.hn U6.out.is).mono ?_
  rintro e w7 ⟨⟨a7, n7, c7, rfl, hn7, i7⟩, q7⟩
  have T7 := U6.out.below q7
  obtain ⟨x0, x1, xf0, xf1⟩ := cells2 T7.rd
  obtain ⟨⟨p0, p1, p2, p3, p4, p5, p6, p7, p8, p9, pa, pb⟩, pf⟩ := cells12 T7.mb
  have U7 : Hid (DcS w (((w7.setCell ⟨w.heap.size + 1 + 1, 0, none⟩ (.slice a7 n7 c7)).setCell ⟨w.heap.size + 1 + 1, 1, none⟩ (.int .i64 (k7 : Nat))).setCell ⟨w.heap.size + 1, 6, none⟩ (.int .i64 v7)) (w.heap.size + 1) (w.heap.size + 1 + 1) #[.int .i64 v1, .int .i64 v2, .int .i64 v3, .int .i64 v4, .int .i64 v5, .int .i64 v6, .int .i64 v7, .int .i64 0, .bool false, .int .i64 0, .slice none 0 0, .slice none 0 0] a7 n7 c7 l7 k7) := Lib.hid (T7.put i7 hn7 6 (.int .i64 v7) (by simp) _ rfl)
  clear U6 T7 H7 i7 q7 hn7
  go_wp2_with fail
  generalize (((w7.setCell ⟨w.heap.size + 1 + 1, 0, none⟩ (.slice a7 n7 c7)).setCell ⟨w.heap.size + 1 + 1, 1, none⟩ (.int .i64 (k7 : Nat))).setCell ⟨w.heap.size + 1, 6, none⟩ (.int .i64 v7)) = W7 at *
  clear x0 x1 xf0 xf1 p0 p1 p2 p3 p4 p5 p6 p7 p8 p9 pa pb pf
  refine (H8.out W7 _ _ _ U7.out.hn U7.out.is).mono ?_
  rintro e w8 ⟨⟨a8, n8, c8, rfl, hn8, i8⟩, q8⟩
  have T8 := U7.out.below q8
  obtain ⟨x0, x1, xf0, xf1⟩ := cells2 T8.rd
  obtain ⟨⟨p0, p1, p2, p3, p4, p5, p6, p7, p8, p9, pa, pb⟩, pf⟩ := cells12 T8.mb
  have U8 : Hid (DcS w (((w8.setCell ⟨w.heap.size + 1 + 1, 0, none⟩ (.slice a8 n8 c8)).setCell ⟨w.heap.size + 1 + 1, 1, none⟩ (.int .i64 (k8 : Nat))).setCell ⟨w.heap.size + 1, 7, none⟩ (.int .i64 v8)) (w.heap.size + 1) (w.heap.size + 1 + 1) #[.int .i64 v1, .int .i64 v2, .int .i64 v3, .int .i64 v4, .int .i64 v5, .int .i64 v6, .int .i64 v7, .int .i64 v8, .bool false, .int .i64 0, .slice none 0 0, .slice none 0 0] a8 n8 c8 l8 k8) := Lib.hid (T8.put i8 hn8 7 (.int .i64 v8) (by simp) _ rfl)
  clear U7 T8 H8 i8 q8 hn8
  go_wp2_with fail
  generalize (((w8.setCell ⟨w.heap.size + 1 + 1, 0, none⟩ (.slice a8 n8 c8)).setCell ⟨w.heap.size + 1 + 1, 1, none⟩ (.int .i64 (k8 : Nat))).setCell ⟨w.heap.size + 1, 7, none⟩ (.int .i64 v8)) = W8 at *
  clear x0 x1 xf0 xf1 p0 p1 p2 p3 p4 p5 p6 p7 p8 p9 pa pb pf
  refine (H9.out W8 _ _ _ U8.out.hn U8.out.is).mono ?_
  rintro e w9 ⟨⟨a9, n9, c9, rfl, hn9, i9⟩, q9⟩
  have T9 := U8.out.below q9
  obtain ⟨x0, x1, xf0, xf1⟩ := cells2 T9.rd
  obtain ⟨⟨p0, p1, p2, p3, p4, p5, p6, p7, p8, p9, pa, pb⟩, pf⟩ := cells12 T9.mb
  have U9x : Hid (DcS w (((w9.setCell ⟨w.heap.size + 1 + 1, 0, none⟩ (.slice a9 n9 c9)).setCell ⟨w.heap.size + 1 + 1, 1, none⟩ (.int .i64 (k9 : Nat))).setCell ⟨w.heap.size + 1, 8, none⟩ (.bool b9)) (w.heap.size + 1) (w.heap.size + 1 + 1) #[.int .i64 v1, .int .i64 v2, .int .i64 v3, .int .i64 v4, .int .i64 v5, .int .i64 v6, .int .i64 v7, .int .i64 v8, .bool b9, .int .i64 0, .slice none 0 0, .slice none 0 0] a9 n9 c9 l9 k9) := Lib.hid (T9.put i9 hn9 8 (.bool b9) (by simp) _ rfl)
  clear U8 T9 H9 i9 q9 hn9
  go_wp2_with fail
  generalize (((w9.setCell ⟨w.heap.size + 1 + 1, 0, none⟩ (.slice a9 n9 c9)).setCell ⟨w.heap.size + 1 + 1, 1, none⟩ (.int .i64 (k9 : Nat))).setCell ⟨w.heap.size + 1, 8, none⟩ (.bool b9)) = W9 at *
  clear x0 x1 xf0 xf1 p0 p1 p2 p3 p4 p5 p6 p7 p8 p9 pa pb pf
  refine (Ha.out W9 _ _ _ U9x.out.hn U9x.out.is).mono ?_
  rintro e wa ⟨⟨aa, na, ca, rfl, hna, ia⟩, qa⟩
  have Ta := U9x.out.below qa
  obtain ⟨x0, x1, xf0, xf1⟩ := cells2 Ta.rd
  obtain ⟨⟨p0, p1, p2, p3, p4, p5, p6, p7, p8, p9, pa, pb⟩, pf⟩ := cells12 Ta.mb
  have Ua : Hid (DcS w (((wa.setCell ⟨w.heap.size + 1 + 1, 0, none⟩ (.slice aa na ca)).setCell ⟨w.heap.size + 1 + 1, 1, none⟩ (.int .i64 (ka : Nat))).setCell ⟨w.heap.size + 1, 9, none⟩ (.int .i64 va)) (w.heap.size + 1) (w.heap.size + 1 + 1) #[.int .i64 v1, .int .i64 v2, .int .i64 v3, .int .i64 v4, .int .i64 v5, .int .i64 v6, .int .i64 v7, .int .i64 v8, .bool b9, .int .i64 va, .slice none 0 0, .slice none 0 0] aa na ca la ka) := Lib.hid (Ta.put ia hna 9 (.int .i64 va) (by simp) _ rfl)
  clear U9x Ta Ha ia qa hna
  go_wp2_with fail
  generalize (((wa.setCell ⟨w.heap.size + 1 + 1, 0, none⟩ (.slice aa na ca)).setCell ⟨w.heap.size + 1 + 1, 1, none⟩ (.int .i64 (ka : Nat))).setCell ⟨w.heap.size + 1, 9, none⟩ (.int .i64 va)) = Wa at *
  clear x0 x1 xf0 xf1 p0 p1 p2 p3 p4 p5 p6 p7 p8 p9 pa pb pf
  refine (Hb.out Wa _ _ _ Ua.out.hn Ua.out.is).mono ?_
  rintro e wb ⟨⟨ab, nb, cb, da, dn, dc, rfl, hnb, ib, hdn, id⟩, bb⟩
  have Tb := Ua.out.below bb
  obtain ⟨x0, x1, xf0, xf1⟩ := cells2 Tb.rd
  obtain ⟨⟨p0, p1, p2, p3, p4, p5, p6, p7, p8, p9, pa, pb⟩, pf⟩ := cells12 Tb.mb
  have Ub : Hid (DcS w (((wb.setCell ⟨w.heap.size + 1 + 1, 0, none⟩ (.slice ab nb cb)).setCell ⟨w.heap.size + 1 + 1, 1, none⟩ (.int .i64 (kb : Nat))).setCell ⟨w.heap.size + 1, 10, none⟩ (.slice da dn dc)) (w.heap.size + 1) (w.heap.size + 1 + 1) #[.int .i64 v1, .int .i64 v2, .int .i64 v3, .int .i64 v4, .int .i64 v5, .int .i64 v6, .int .i64 v7, .int .i64 v8, .bool b9, .int .i64 va, .slice da dn dc, .slice none 0 0] ab nb cb lb kb) := Lib.hid (Tb.put ib hnb 10 (.slice da dn dc) (by simp) _ rfl)
  have Db : Hid (IsB (((wb.setCell ⟨w.heap.size + 1 + 1, 0, none⟩ (.slice ab nb cb)).setCell ⟨w.heap.size + 1 + 1, 1, none⟩ (.int .i64 (kb : Nat))).setCell ⟨w.heap.size + 1, 10, none⟩ (.slice da dn dc)) (.slice da dn dc) d) := Lib.hid (Tb.bytes ab nb cb kb 10 _ id)
  have HDN := Lib.hid hdn
  clear Ua Tb Hb ib bb hnb hdn id
  go_wp2_with fail
  generalize (((wb.setCell ⟨w.heap.size + 1 + 1, 0, none⟩ (.slice ab nb cb)).setCell ⟨w.heap.size + 1 + 1, 1, none⟩ (.int .i64 (kb : Nat))).setCell ⟨w.heap.size + 1, 10, none⟩ (.slice da dn dc)) = Wb at *
  clear x0 x1 xf0 xf1 p0 p1 p2 p3 p4 p5 p6 p7 p8 p9 pa pb pf
  refine (Hc.out Wb _ _ _ Ub.out.hn Ub.out.is).mono ?_
  rintro e wc ⟨⟨ac, nc, cc, rfl, hnc, ic⟩, bc⟩
  have Tc := Ub.out.below bc
  obtain ⟨x0, x1, xf0, xf1⟩ := cells2 Tc.rd
  have Uc : Hid (DcS w ((wc.setCell ⟨w.heap.size + 1 + 1, 0, none⟩ (.slice ac nc cc)).setCell ⟨w.heap.size + 1 + 1, 1, none⟩ (.int .i64 (kc : Nat))) (w.heap.size + 1) (w.heap.size + 1 + 1) #[.int .i64 v1, .int .i64 v2, .int .i64 v3, .int .i64 v4, .int .i64 v5, .int .i64 v6, .int .i64 v7, .int .i64 v8, .bool b9, .int .i64 va, .slice da dn dc, .slice none 0 0] ac nc cc lc kc) := Lib.hid (Tc.putR ic hnc)
  have Dc : Hid (IsB ((wc.setCell ⟨w.heap.size + 1 + 1, 0, none⟩ (.slice ac nc cc)).setCell ⟨w.heap.size + 1 + 1, 1, none⟩ (.int .i64 (kc : Nat))) (.slice da dn dc) d) := Lib.hid (Tc.bytesR ac nc cc kc (Db.out.below bc))
  clear Ub Tc Hc ic bc hnc Db
  have hn63 : (n : Int) ≤ 64 := by have := HN64.out; omega
  go_wp2_with fail
  go_loopw [7, 8] (fun s7 s8 V => ∃ (k : Nat) (ok : Bool) (a' : Option Addr) (c' : Nat) (ys : List RE) (ar : Option Addr) (nr cr : Nat) (l' : List UInt8) (k' : Nat), k ≤ n ∧ s8 = .int .i64 k ∧ s7 = .bool ok ∧ Hid (ys.length = k) ∧ Hid (DcS w V (w.heap.size + 1) (w.heap.size + 1 + 1) #[.int .i64 v1, .int .i64 v2, .int .i64 v3, .int .i64 v4, .int .i64 v5, .int .i64 v6, .int .i64 v7, .int .i64 v8, .bool b9, .int .i64 va, .slice da dn dc, .slice a' k c'] ar nr cr l' k') ∧ Hid (OwnE V (.slice a' k c') ys) ∧ Hid (∀ b, Value.ownBlock (.slice a' k c') = some b → w.heap.size + 1 + 1 < b) ∧ Hid (IsB V (.slice da dn dc) d) ∧ Hid (ok = true → PK.readEs n lc kc = (PK.readEs (n - k) l' k').map fun r => (ys.map RE.ent ++ r.1, r.2)) ∧ Hid (ok = false → RES = none) ∧ Hid (l'.length ≤ roomB)) (fun _ v _ => n - (intOf v).toNat)
  case atStart => exact ⟨0, true, none, 0, [], ac, nc, cc, lc, kc, Nat.zero_le _, rfl, rfl, rfl, Uc, Lib.hid (OwnE.nil _), Lib.hid (fun b hb => by simp [Value.ownBlock] at hb), Dc, Lib.hid (fun _ => by cases PK.readEs n lc kc <;> simp), Lib.hid (fun h => by cases h), HLC⟩
  case round =>
    obtain ⟨k, ok, a', c', ys, ar, nr, cr, l', k', hk, rfl, rfl, Hyl, Tx, Ox, Hox, Dx, Hrd, Hno, Hll⟩ := hrel
    clear Uc Dc x0 x1 xf0 xf1
    obtain rfl := Tx.out.hn
    by_cases hlt : k < n
    · by_cases hk0 : k' = 0
      · subst hk0
        obtain ⟨m, hm⟩ : ∃ m, n - k = m + 1 := ⟨n - k - 1, by omega⟩
        have Hm : Hid (n - (k + 1) = m) := Lib.hid (by omega)
        rw [hm] at Hrd
        obtain ⟨⟨d1, lx, kx⟩, hp⟩ : ∃ p, PK.runP 98 4200 l' 0 = p := ⟨_, rfl⟩
        have HB := rreadBytes_any ar cr 0 l' 4200 wr Tx.out.is (by decide) (by decide) Hll.out
        rw [hp] at HB
        have hd1 : d1.length ≤ roomB ∧ lx.length ≤ roomB := by
          have := run_lens l' 0
          rw [hp] at this
          have := Hll.out
          simp only at *
          omega
        have hnone := fun (h : PK.decE d1 = none) => PK.readEs_none (n := m) (l := l') (k := 0) (by rw [hp]; exact h)
        have hsome := fun (e : PK.Ent) (h : PK.decE d1 = some e) => PK.readEs_some (n := m) (l := l') (k := 0) (e := e) (by rw [hp]; exact h)
        rw [hp] at hsome
        simp only at hsome
        have HBy := Lib.hid HB
        have Hnone := Lib.hid hnone
        have Hsome := Lib.hid hsome
        have Hd1 := Lib.hid hd1
        have hltI : (k : Int) < (n : Int) := by omega
        obtain ⟨x0, x1, xf0, xf1⟩ := cells2 Tx.out.rd
        clear HB hnone hsome hd1 hp hm Hll
        go_wp2_with fail
        refine HBy.out.mono ?_
        rintro e u6 ⟨⟨a5, c5, a6, c6, rfl, i5, i6⟩, b⟩
        simp only at i5 i6
        have T6 := Tx.out.below b
        clear x0 x1 xf0 xf1
        obtain ⟨x0, x1, xf0, xf1⟩ := cells2 T6.rd
        have U7 : Hid (DcS w ((u6.setCell ⟨w.heap.size + 1 + 1, 0, none⟩ (.slice a5 lx.length c5)).setCell ⟨w.heap.size + 1 + 1, 1, none⟩ (.int .i64 (kx : Nat))) (w.heap.size + 1) (w.heap.size + 1 + 1) #[.int .i64 v1, .int .i64 v2, .int .i64 v3, .int .i64 v4, .int .i64 v5, .int .i64 v6, .int .i64 v7, .int .i64 v8, .bool b9, .int .i64 va, .slice da dn dc, .slice a' k c'] a5 lx.length c5 lx kx) := Lib.hid (T6.putR i5 rfl)
        have I7 : Hid (IsB ((u6.setCell ⟨w.heap.size + 1 + 1, 0, none⟩ (.slice a5 lx.length c5)).setCell ⟨w.heap.size + 1 + 1, 1, none⟩ (.int .i64 (kx : Nat))) (.slice a6 d1.length c6) d1) := Lib.hid (T6.bytesR a5 lx.length c5 kx i6)
        have D7 : Hid (IsB ((u6.setCell ⟨w.heap.size + 1 + 1, 0, none⟩ (.slice a5 lx.length c5)).setCell ⟨w.heap.size + 1 + 1, 1, none⟩ (.int .i64 (kx : Nat))) (.slice da dn dc) d) := Lib.hid (T6.bytesR a5 lx.length c5 kx (Dx.out.below b))
        have O7 : Hid (OwnE ((u6.setCell ⟨w.heap.size + 1 + 1, 0, none⟩ (.slice a5 lx.length c5)).setCell ⟨w.heap.size + 1 + 1, 1, none⟩ (.int .i64 (kx : Nat))) (.slice a' k c') ys) := Lib.hid ((Ox.out.below b).kept (put2_fr (fun j => j = w.heap.size + 1 + 1) u6 (w.heap.size + 1 + 1) rfl a5 lx.length c5 kx) (fun q hq => by subst hq; exact T6.noR) (fun b hb e => by have := Hox.out b hb; omega))
        clear Tx T6 Ox Dx b i5 i6 HBy
        go_wp2_with fail
        generalize ((u6.setCell ⟨w.heap.size + 1 + 1, 0, none⟩ (.slice a5 lx.length c5)).setCell ⟨w.heap.size + 1 + 1, 1, none⟩ (.int .i64 (kx : Nat))) = V7 at *
        clear x0 x1 xf0 xf1
        have HDe := Lib.hid (rdecE_any a6 c6 d1 V7 I7.out Hd1.out.1)
        clear I7
        refine HDe.out.mono ?_
        rintro e u8 hdr
        obtain ⟨⟨yi, yt, yk, ya, yn, yc, yd⟩, f, rfl, hy, hf, b⟩ := DecR.uni hdr
        clear hdr HDe
        obtain ⟨V1, hV1⟩ : ∃ V, V = u8.alloc (.cells #[.int .i64 yi, .int .i64 yt, .int .i64 yk, .slice ya yn yc] 71) := ⟨_, rfl⟩
        obtain ⟨V2, hV2⟩ : ∃ V, V = V1.alloc (.cells #[.int .i64 yi, .int .i64 yt, .int .i64 yk, .slice ya yn yc] 71) := ⟨_, rfl⟩
        have b1 : Below u8.heap.size u8 V1 := by rw [hV1]; exact (Below.refl _ _).alloc (Nat.le_refl _) _
        have b2 : Below V1.heap.size V1 V2 := by rw [hV2]; exact (Below.refl _ _).alloc (Nat.le_refl _) _
        have hb12 : Below u8.heap.size u8 V2 := b1.trans (b2.mono b1.size)
        have bb : Below V7.heap.size V7 V2 := b.trans (hb12.mono b.size)
        have mb1 := ((b.trans (b1.mono b.size)).block _ U7.out.ltM).trans U7.out.mb
        have T8 := Lib.hid (U7.out.below bb)
        have O8 := Lib.hid (O7.out.below bb)
        have D8 := Lib.hid (D7.out.below bb)
        have F8 : Hid ((⟨yi, yt, yk, ya, yn, yc, yd⟩ : RE).Fit V2) := Lib.hid (hy.below hb12)
        have C8 : Hid (∀ (j : Nat) (u : Value), (⟨yi, yt, yk, ya, yn, yc, yd⟩ : RE).vals[j]? = some u → V2.cell? ⟨V1.heap.size, j, none⟩ = some u) := Lib.hid (fun j u hu => by
          rw [hV2, World.cell?_alloc_new, ← hu, RE.vals]
          simp)
        have hV1s : V1.heap.size = u8.heap.size + 1 := by rw [hV1]; simp
        rw [hV1s] at C8
        have hMV2 : w.heap.size + 1 + 1 < V2.heap.size := Nat.lt_of_lt_of_le U7.out.ltR bb.size
        have no8O : Hid (∀ q, Value.ownBlock (.slice a' k c') = some q → ∀ j n, V2.cell? ⟨q, j, none⟩ ≠ some (.int .u8 n)) := Lib.hid (by
          intro q hq
          rcases O8.out with ⟨e, _⟩ | ⟨g, cap, e, _, _, _, _, _, h5, _⟩
          · rw [e] at hq; simp [Value.ownBlock] at hq
          · rw [e] at hq; simp [Value.ownBlock] at hq; subst hq; exact h5)
        have HMV := Lib.hid hMV2
        rw [hV2, hV1] at O8 C8 F8 T8 D8 no8O HMV
        rw [hV1] at mb1
        obtain ⟨⟨p0, p1, p2, p3, p4, p5, p6, p7, p8, p9, pa, pb⟩, pf⟩ := cells12 mb1
        clear hV1 hV2 b1 b2 hb12 bb b mb1 hV1s hMV2 hy U7 O7 D7
        cases ok with
        | false =>
          have Hres := Lib.hid (Hno.out rfl)
          clear hf Hrd Hnone Hsome HDEC Hm Hno
          go_wp2_with (at_builtin; refine wpList_appE rfl (.tmp 112) (.tmp 114) rfl T23 (v := .slice a' k c') (n := k) Hyl.out rfl O8.out rfl C8.out F8.out (by have := HN64.out; omega) ?_; intro a8 c8 w8 o8 g8 b8; have T9 := Lib.hid (T8.out.fr g8 (fun q hq => by have := Hox.out q hq; omega) no8O.out); obtain ⟨⟨z0, z1, z2, z3, z4, z5, z6, z7, z8, z9, za, zb⟩, zf⟩ := cells12 T9.out.mb; have O9 := Lib.hid o8; have G9 := Lib.hid g8; have B9 := Lib.hid b8; clear o8 g8 b8)
          have fM : Fr (fun q => q = w.heap.size + 1) w8 (w8.setCell ⟨w.heap.size + 1, 11, none⟩ (.slice a8 (k + 1) c8)) := Fr.setCell (X := fun q => q = w.heap.size + 1) (Fr.refl _ _) (fun _ => rfl) _
          have no8M : ∀ q, q = w.heap.size + 1 → ∀ j n, w8.cell? ⟨q, j, none⟩ ≠ some (.int .u8 n) := fun q hq j n => by subst hq; exact T9.out.noM j n
          have hX8 : ∀ b, Value.ownBlock (.slice a8 (k + 1) c8) = some b → w.heap.size + 1 + 1 < b := by
            intro q hq
            rcases B9.out with e | ⟨g, rfl, hg⟩
            · rw [e] at hq; exact Hox.out q hq
            · have := HMV.out; simp only [Value.ownBlock, Option.some.injEq] at hq; omega
          refine ⟨⟨k + 1, false, a8, c8, ys ++ [⟨yi, yt, yk, ya, yn, yc, yd⟩], a5, lx.length, c5, lx, kx, hlt, by simp, by simp, Lib.hid (by rw [List.length_append, Hyl.out]; rfl), Lib.hid ?_, Lib.hid ?_, Lib.hid hX8, Lib.hid ?_, Lib.hid ?_, Lib.hid ?_, Lib.hid Hd1.out.2⟩, by simp [intOf]; omega⟩
          · exact T9.out.putM 11 _ (by simp) _ rfl
          · exact O9.out.kept fM no8M (fun b hb e => by have := hX8 b hb; omega)
          · exact (D8.out.kept8 G9.out no8O.out).kept8 fM no8M
          · exact fun h => by cases h
          · exact fun _ => Hres.out
        | true =>
          rcases hf with ⟨rfl, hde⟩ | ⟨rfl, hde⟩
          · have hnx := Hsome.out _ hde
            have Hnx : Hid (PK.readEs n lc kc = (PK.readEs m lx kx).map fun r => ((ys.map RE.ent ++ [(⟨yi, yt, yk, ya, yn, yc, yd⟩ : RE).ent]) ++ r.1, r.2)) := Lib.hid (by
              rw [Hrd.out rfl, hnx]
              cases PK.readEs m lx kx <;> simp)
            clear hde hnx Hnone Hsome Hrd HDEC Hno
            go_wp2_with (at_builtin; refine wpList_appE rfl (.tmp 112) (.tmp 114) rfl T23 (v := .slice a' k c') (n := k) Hyl.out rfl O8.out rfl C8.out F8.out (by have := HN64.out; omega) ?_; intro a8 c8 w8 o8 g8 b8; have T9 := Lib.hid (T8.out.fr g8 (fun q hq => by have := Hox.out q hq; omega) no8O.out); obtain ⟨⟨z0, z1, z2, z3, z4, z5, z6, z7, z8, z9, za, zb⟩, zf⟩ := cells12 T9.out.mb; have O9 := Lib.hid o8; have G9 := Lib.hid g8; have B9 := Lib.hid b8; clear o8 g8 b8)
            have fM : Fr (fun q => q = w.heap.size + 1) w8 (w8.setCell ⟨w.heap.size + 1, 11, none⟩ (.slice a8 (k + 1) c8)) := Fr.setCell (X := fun q => q = w.heap.size + 1) (Fr.refl _ _) (fun _ => rfl) _
            have no8M : ∀ q, q = w.heap.size + 1 → ∀ j n, w8.cell? ⟨q, j, none⟩ ≠ some (.int .u8 n) := fun q hq j n => by subst hq; exact T9.out.noM j n
            have hX8 : ∀ b, Value.ownBlock (.slice a8 (k + 1) c8) = some b → w.heap.size + 1 + 1 < b := by
              intro q hq
              rcases B9.out with e | ⟨g, rfl, hg⟩
              · rw [e] at hq; exact Hox.out q hq
              · have := HMV.out; simp only [Value.ownBlock, Option.some.injEq] at hq; omega
            refine ⟨⟨k + 1, true, a8, c8, ys ++ [⟨yi, yt, yk, ya, yn, yc, yd⟩], a5, lx.length, c5, lx, kx, hlt, by simp, by simp, Lib.hid (by rw [List.length_append, Hyl.out]; rfl), Lib.hid ?_, Lib.hid ?_, Lib.hid hX8, Lib.hid ?_, Lib.hid ?_, Lib.hid ?_, Lib.hid Hd1.out.2⟩, by simp [intOf]; omega⟩
            · exact T9.out.putM 11 _ (by simp) _ rfl
            · exact O9.out.kept fM no8M (fun b hb e => by have := hX8 b hb; omega)
            · exact (D8.out.kept8 G9.out no8O.out).kept8 fM no8M
            · exact fun _ => by rw [Hm.out, Hnx.out, List.map_append]; rfl
            · exact fun h => by cases h
          · have hres : RES = none := by
              have h1 := Hrd.out rfl
              rw [Hnone.out hde] at h1
              have h2 := HDEC.out
              rw [h1] at h2
              exact h2
            have Hres := Lib.hid hres
            clear hde hres Hnone Hsome Hrd HDEC Hno Hm
            go_wp2_with (at_builtin; refine wpList_appE rfl (.tmp 112) (.tmp 114) rfl T23 (v := .slice a' k c') (n := k) Hyl.out rfl O8.out rfl C8.out F8.out (by have := HN64.out; omega) ?_; intro a8 c8 w8 o8 g8 b8; have T9 := Lib.hid (T8.out.fr g8 (fun q hq => by have := Hox.out q hq; omega) no8O.out); obtain ⟨⟨z0, z1, z2, z3, z4, z5, z6, z7, z8, z9, za, zb⟩, zf⟩ := cells12 T9.out.mb; have O9 := Lib.hid o8; have G9 := Lib.hid g8; have B9 := Lib.hid b8; clear o8 g8 b8)
            have fM : Fr (fun q => q = w.heap.size + 1) w8 (w8.setCell ⟨w.heap.size + 1, 11, none⟩ (.slice a8 (k + 1) c8)) := Fr.setCell (X := fun q => q = w.heap.size + 1) (Fr.refl _ _) (fun _ => rfl) _
            have no8M : ∀ q, q = w.heap.size + 1 → ∀ j n, w8.cell? ⟨q, j, none⟩ ≠ some (.int .u8 n) := fun q hq j n => by subst hq; exact T9.out.noM j n
            have hX8 : ∀ b, Value.ownBlock (.slice a8 (k + 1) c8) = some b → w.heap.size + 1 + 1 < b := by
              intro q hq
              rcases B9.out with e | ⟨g, rfl, hg⟩
              · rw [e] at hq; exact Hox.out q hq
              · have := HMV.out; simp only [Value.ownBlock, Option.some.injEq] at hq; omega
            refine ⟨⟨k + 1, false, a8, c8, ys ++ [⟨yi, yt, yk, ya, yn, yc, yd⟩], a5, lx.length, c5, lx, kx, hlt, by simp, by simp, Lib.hid (by rw [List.length_append, Hyl.out]; rfl), Lib.hid ?_, Lib.hid ?_, Lib.hid hX8, Lib.hid ?_, Lib.hid ?_, Lib.hid ?_, Lib.hid Hd1.out.2⟩, by simp [intOf]; omega⟩
            · exact T9.out.putM 11 _ (by simp) _ rfl
            · exact O9.out.kept fM no8M (fun b hb e => by have := hX8 b hb; omega)
            · exact (D8.out.kept8 G9.out no8O.out).kept8 fM no8M
            · exact fun h => by cases h
            · exact fun _ => Hres.out
      · have hres : RES = none := by
          cases ok with
          | false => exact Hno.out rfl
          | true =>
            have h1 := Hrd.out rfl
            obtain ⟨m, hm⟩ : ∃ m, n - k = m + 1 := ⟨n - k - 1, by omega⟩
            obtain ⟨e, rfl⟩ : ∃ e, k' = e + 1 := ⟨k' - 1, by omega⟩
            rw [hm, PK.readEs_none (by rw [PK.run_err 98 4200 e l' (by decide)]; exact PK.decE_nil)] at h1
            have h2 := HDEC.out
            rw [h1] at h2
            exact h2
        have Hres := Lib.hid hres
        have HDN2 := Lib.hid (rdone_any ar cr k' l' wr)
        have hD : PK.doneP l' k' = k' := by unfold PK.doneP; rw [if_neg (by omega)]
        rw [hD] at HDN2
        have hkI : ((k' : Int) != 0) = true := by rw [bne_iff_ne]; omega
        have hkE : ((k' : Int) == 0) = false := by rw [beq_eq_false_iff_ne]; omega
        have hltI : (k : Int) < (n : Int) := by omega
        clear hres hD hk0 Hrd Hno HDEC
        obtain ⟨x0, x1, xf0, xf1⟩ := cells2 Tx.out.rd
        go_wp2_with fail
        refine HDN2.out.mono ?_
        rintro e u6 ⟨rfl, b⟩
        have T7 := Lib.hid (Tx.out.below b)
        obtain ⟨⟨z0, z1, z2, z3, z4, z5, z6, z7, z8, z9, za, zb⟩, zf⟩ := cells12 T7.out.rb
        clear b x0 x1 xf0 xf1
        obtain ⟨W', hWf⟩ : ∃ W', W' = set12 u6 w.heap.size (.int .i64 0) (.int .i64 0) (.int .i64 0) (.int .i64 0) (.int .i64 0) (.int .i64 0) (.int .i64 0) (.int .i64 0) (.bool false) (.int .i64 0) (.slice none 0 0) (.slice none 0 0) := ⟨_, rfl⟩
        have HWn : Hid ((((((((((((u6.setCell ⟨w.heap.size, 0, none⟩ (.int .i64 0)).setCell ⟨w.heap.size, 1, none⟩ (.int .i64 0)).setCell ⟨w.heap.size, 2, none⟩ (.int .i64 0)).setCell ⟨w.heap.size, 3, none⟩ (.int .i64 0)).setCell ⟨w.heap.size, 4, none⟩ (.int .i64 0)).setCell ⟨w.heap.size, 5, none⟩ (.int .i64 0)).setCell ⟨w.heap.size, 6, none⟩ (.int .i64 0)).setCell ⟨w.heap.size, 7, none⟩ (.int .i64 0)).setCell ⟨w.heap.size, 8, none⟩ (.bool false)).setCell ⟨w.heap.size, 9, none⟩ (.int .i64 0)).setCell ⟨w.heap.size, 10, none⟩ (.slice none 0 0)).setCell ⟨w.heap.size, 11, none⟩ (.slice none 0 0) = W') := Lib.hid hWf.symm
        have FBd := Lib.hid (cells12 (stored12 T7.out.rb (.int .i64 0) (.int .i64 0) (.int .i64 0) (.int .i64 0) (.int .i64 0) (.int .i64 0) (.int .i64 0) (.int .i64 0) (.bool false) (.int .i64 0) (.slice none 0 0) (.slice none 0 0)))
        have BBd : Hid (Below w.heap.size w (set12 u6 w.heap.size (.int .i64 0) (.int .i64 0) (.int .i64 0) (.int .i64 0) (.int .i64 0) (.int .i64 0) (.int .i64 0) (.int .i64 0) (.bool false) (.int .i64 0) (.slice none 0 0) (.slice none 0 0))) := Lib.hid (Fr.belowM T7.out.be (set12_fr u6 _ (.int .i64 0) (.int .i64 0) (.int .i64 0) (.int .i64 0) (.int .i64 0) (.int .i64 0) (.int .i64 0) (.int .i64 0) (.bool false) (.int .i64 0) (.slice none 0 0) (.slice none 0 0)) (Nat.le_refl _) (Array.getElem?_eq_some_iff.1 T7.out.rb).1)
        rw [← hWf] at FBd BBd
        clear hWf
        go_wp2_with (rw [HWn.out]; obtain ⟨⟨e0, e1, e2, e3, e4, e5, e6, e7, e8, e9, ea', eb⟩, _⟩ := FBd.out; refine bodyPost_ret (v := .tuple #[zeroM, .int .i64 3]) (by simp [results, Tryz.results12, go_sem, e0, e1, e2, e3, e4, e5, e6, e7, e8, e9, ea', eb, zeroM]) rfl ?_; exact ⟨.inl ⟨Hres.out, rfl⟩, BBd.out⟩)
    · obtain rfl : k = n := by omega
      have h2 : ok = true → RES = if PK.doneP l' k' ≠ 0 ∨ ¬ PK.mayM ⟨v1, v2, v3, v4, v5, v6, v7, v8, b9, va, d, ys.map RE.ent⟩ then none else some ⟨v1, v2, v3, v4, v5, v6, v7, v8, b9, va, d, ys.map RE.ent⟩ := by
        intro h
        have hrd := Hrd.out h
        rw [Nat.sub_self] at hrd
        have hrd2 : PK.readEs k lc kc = some (ys.map RE.ent, l', k') := by rw [hrd]; show some (ys.map RE.ent ++ [], l', k') = _; rw [List.append_nil]
        have h2 := HDEC.out
        rw [hrd2] at h2
        exact h2
      have HDN2 := Lib.hid (rdone_any ar cr k' l' wr)
      have H2 := Lib.hid h2
      clear h2 Hrd HDEC
      generalize PK.doneP l' k' = D at *
      obtain ⟨x0, x1, xf0, xf1⟩ := cells2 Tx.out.rd
      cases D with
      | succ D =>
        have Hres : Hid (RES = none) := Lib.hid (by
          cases ok with
          | false => exact Hno.out rfl
          | true => rw [H2.out rfl, if_pos (.inl (by omega))])
        have hkI : (((D + 1 : Nat) : Int) != 0) = true := by rw [bne_iff_ne]; omega
        clear H2 Hno
        by_cases hk0 : k' = 0
        · subst hk0
          go_wp2_with fail
          refine HDN2.out.mono ?_
          rintro e u6 ⟨rfl, b⟩
          have T7 := Lib.hid (Tx.out.below b)
          obtain ⟨⟨z0, z1, z2, z3, z4, z5, z6, z7, z8, z9, za, zb⟩, zf⟩ := cells12 T7.out.rb
          clear b x0 x1 xf0 xf1
          obtain ⟨W', hWf⟩ : ∃ W', W' = set12 u6 w.heap.size (.int .i64 0) (.int .i64 0) (.int .i64 0) (.int .i64 0) (.int .i64 0) (.int .i64 0) (.int .i64 0) (.int .i64 0) (.bool false) (.int .i64 0) (.slice none 0 0) (.slice none 0 0) := ⟨_, rfl⟩
          have HWn : Hid ((((((((((((u6.setCell ⟨w.heap.size, 0, none⟩ (.int .i64 0)).setCell ⟨w.heap.size, 1, none⟩ (.int .i64 0)).setCell ⟨w.heap.size, 2, none⟩ (.int .i64 0)).setCell ⟨w.heap.size, 3, none⟩ (.int .i64 0)).setCell ⟨w.heap.size, 4, none⟩ (.int .i64 0)).setCell ⟨w.heap.size, 5, none⟩ (.int .i64 0)).setCell ⟨w.heap.size, 6, none⟩ (.int .i64 0)).setCell ⟨w.heap.size, 7, none⟩ (.int .i64 0)).setCell ⟨w.heap.size, 8, none⟩ (.bool false)).setCell ⟨w.heap.size, 9, none⟩ (.int .i64 0)).setCell ⟨w.heap.size, 10, none⟩ (.slice none 0 0)).setCell ⟨w.heap.size, 11, none⟩ (.slice none 0 0) = W') := Lib.hid hWf.symm
          have FBd := Lib.hid (cells12 (stored12 T7.out.rb (.int .i64 0) (.int .i64 0) (.int .i64 0) (.int .i64 0) (.int .i64 0) (.int .i64 0) (.int .i64 0) (.int .i64 0) (.bool false) (.int .i64 0) (.slice none 0 0) (.slice none 0 0)))
          have BBd : Hid (Below w.heap.size w (set12 u6 w.heap.size (.int .i64 0) (.int .i64 0) (.int .i64 0) (.int .i64 0) (.int .i64 0) (.int .i64 0) (.int .i64 0) (.int .i64 0) (.bool false) (.int .i64 0) (.slice none 0 0) (.slice none 0 0))) := Lib.hid (Fr.belowM T7.out.be (set12_fr u6 _ (.int .i64 0) (.int .i64 0) (.int .i64 0) (.int .i64 0) (.int .i64 0) (.int .i64 0) (.int .i64 0) (.int .i64 0) (.bool false) (.int .i64 0) (.slice none 0 0) (.slice none 0 0)) (Nat.le_refl _) (Array.getElem?_eq_some_iff.1 T7.out.rb).1)
          rw [← hWf] at FBd BBd
          clear hWf
          go_wp2_with (rw [HWn.out]; obtain ⟨⟨e0, e1, e2, e3, e4, e5, e6, e7, e8, e9, ea', eb⟩, _⟩ := FBd.out; refine bodyPost_ret (v := .tuple #[zeroM, .int .i64 3]) (by simp [results, Tryz.results12, go_sem, e0, e1, e2, e3, e4, e5, e6, e7, e8, e9, ea', eb, zeroM]) rfl ?_; exact ⟨.inl ⟨Hres.out, rfl⟩, BBd.out⟩)
        · have hkE : ((k' : Int) == 0) = false := by rw [beq_eq_false_iff_ne]; omega
          go_wp2_with fail
          refine HDN2.out.mono ?_
          rintro e u6 ⟨rfl, b⟩
          have T7 := Lib.hid (Tx.out.below b)
          obtain ⟨⟨z0, z1, z2, z3, z4, z5, z6, z7, z8, z9, za, zb⟩, zf⟩ := cells12 T7.out.rb
          clear b x0 x1 xf0 xf1
          obtain ⟨W', hWf⟩ : ∃ W', W' = set12 u6 w.heap.size (.int .i64 0) (.int .i64 0) (.int .i64 0) (.int .i64 0) (.int .i64 0) (.int .i64 0) (.int .i64 0) (.int .i64 0) (.bool false) (.int .i64 0) (.slice none 0 0) (.slice none 0 0) := ⟨_, rfl⟩
          have HWn : Hid ((((((((((((u6.setCell ⟨w.heap.size, 0, none⟩ (.int .i64 0)).setCell ⟨w.heap.size, 1, none⟩ (.int .i64 0)).setCell ⟨w.heap.size, 2, none⟩ (.int .i64 0)).setCell ⟨w.heap.size, 3, none⟩ (.int .i64 0)).setCell ⟨w.heap.size, 4, none⟩ (.int .i64 0)).setCell ⟨w.heap.size, 5, none⟩ (.int .i64 0)).setCell ⟨w.heap.size, 6, none⟩ (.int .i64 0)).setCell ⟨w.heap.size, 7, none⟩ (.int .i64 0)).setCell ⟨w.heap.size, 8, none⟩ (.bool false)).setCell ⟨w.heap.size, 9, none⟩ (.int .i64 0)).setCell ⟨w.heap.size, 10, none⟩ (.slice none 0 0)).setCell ⟨w.heap.size, 11, none⟩ (.slice none 0 0) = W') := Lib.hid hWf.symm
          have FBd := Lib.hid (cells12 (stored12 T7.out.rb (.int .i64 0) (.int .i64 0) (.int .i64 0) (.int .i64 0) (.int .i64 0) (.int .i64 0) (.int .i64 0) (.int .i64 0) (.bool false) (.int .i64 0) (.slice none 0 0) (.slice none 0 0)))
          have BBd : Hid (Below w.heap.size w (set12 u6 w.heap.size (.int .i64 0) (.int .i64 0) (.int .i64 0) (.int .i64 0) (.int .i64 0) (.int .i64 0) (.int .i64 0) (.int .i64 0) (.bool false) (.int .i64 0) (.slice none 0 0) (.slice none 0 0))) := Lib.hid (Fr.belowM T7.out.be (set12_fr u6 _ (.int .i64 0) (.int .i64 0) (.int .i64 0) (.int .i64 0) (.int .i64 0) (.int .i64 0) (.int .i64 0) (.int .i64 0) (.bool false) (.int .i64 0) (.slice none 0 0) (.slice none 0 0)) (Nat.le_refl _) (Array.getElem?_eq_some_iff.1 T7.out.rb).1)
          rw [← hWf] at FBd BBd
          clear hWf
          go_wp2_with (rw [HWn.out]; obtain ⟨⟨e0, e1, e2, e3, e4, e5, e6, e7, e8, e9, ea', eb⟩, _⟩ := FBd.out; refine bodyPost_ret (v := .tuple #[zeroM, .int .i64 3]) (by simp [results, Tryz.results12, go_sem, e0, e1, e2, e3, e4, e5, e6, e7, e8, e9, ea', eb, zeroM]) rfl ?_; exact ⟨.inl ⟨Hres.out, rfl⟩, BBd.out⟩)
      | zero =>
        cases ok with
        | false =>
          have Hres : Hid (RES = none) := Lib.hid (Hno.out rfl)
          clear H2 Hno
          go_wp2_with fail
          refine HDN2.out.mono ?_
          rintro e u6 ⟨rfl, b⟩
          have T7 := Lib.hid (Tx.out.below b)
          obtain ⟨⟨z0, z1, z2, z3, z4, z5, z6, z7, z8, z9, za, zb⟩, zf⟩ := cells12 T7.out.rb
          clear b x0 x1 xf0 xf1
          obtain ⟨W', hWf⟩ : ∃ W', W' = set12 u6 w.heap.size (.int .i64 0) (.int .i64 0) (.int .i64 0) (.int .i64 0) (.int .i64 0) (.int .i64 0) (.int .i64 0) (.int .i64 0) (.bool false) (.int .i64 0) (.slice none 0 0) (.slice none 0 0) := ⟨_, rfl⟩
          have HWn : Hid ((((((((((((u6.setCell ⟨w.heap.size, 0, none⟩ (.int .i64 0)).setCell ⟨w.heap.size, 1, none⟩ (.int .i64 0)).setCell ⟨w.heap.size, 2, none⟩ (.int .i64 0)).setCell ⟨w.heap.size, 3, none⟩ (.int .i64 0)).setCell ⟨w.heap.size, 4, none⟩ (.int .i64 0)).setCell ⟨w.heap.size, 5, none⟩ (.int .i64 0)).setCell ⟨w.heap.size, 6, none⟩ (.int .i64 0)).setCell ⟨w.heap.size, 7, none⟩ (.int .i64 0)).setCell ⟨w.heap.size, 8, none⟩ (.bool false)).setCell ⟨w.heap.size, 9, none⟩ (.int .i64 0)).setCell ⟨w.heap.size, 10, none⟩ (.slice none 0 0)).setCell ⟨w.heap.size, 11, none⟩ (.slice none 0 0) = W') := Lib.hid hWf.symm
          have FBd := Lib.hid (cells12 (stored12 T7.out.rb (.int .i64 0) (.int .i64 0) (.int .i64 0) (.int .i64 0) (.int .i64 0) (.int .i64 0) (.int .i64 0) (.int .i64 0) (.bool false) (.int .i64 0) (.slice none 0 0) (.slice none 0 0)))
          have BBd : Hid (Below w.heap.size w (set12 u6 w.heap.size (.int .i64 0) (.int .i64 0) (.int .i64 0) (.int .i64 0) (.int .i64 0) (.int .i64 0) (.int .i64 0) (.int .i64 0) (.bool false) (.int .i64 0) (.slice none 0 0) (.slice none 0 0))) := Lib.hid (Fr.belowM T7.out.be (set12_fr u6 _ (.int .i64 0) (.int .i64 0) (.int .i64 0) (.int .i64 0) (.int .i64 0) (.int .i64 0) (.int .i64 0) (.int .i64 0) (.bool false) (.int .i64 0) (.slice none 0 0) (.slice none 0 0)) (Nat.le_refl _) (Array.getElem?_eq_some_iff.1 T7.out.rb).1)
          rw [← hWf] at FBd BBd
          clear hWf
          go_wp2_with (rw [HWn.out]; obtain ⟨⟨e0, e1, e2, e3, e4, e5, e6, e7, e8, e9, ea', eb⟩, _⟩ := FBd.out; refine bodyPost_ret (v := .tuple #[zeroM, .int .i64 3]) (by simp [results, Tryz.results12, go_sem, e0, e1, e2, e3, e4, e5, e6, e7, e8, e9, ea', eb, zeroM]) rfl ?_; exact ⟨.inl ⟨Hres.out, rfl⟩, BBd.out⟩)
        | true =>
          obtain ⟨y, hy⟩ : ∃ y : RM, y = ⟨v1, v2, v3, v4, v5, v6, v7, v8, b9, va, da, dn, dc, d, a', k, c', ys⟩ := ⟨_, rfl⟩
          have hmsg : y.msg = ⟨v1, v2, v3, v4, v5, v6, v7, v8, b9, va, d, ys.map RE.ent⟩ := by rw [hy]; rfl
          have HM : Hid (∀ V, y.Fit V → Calls Tryz.prog 15 #[.agg #[.int .i64 v1, .int .i64 v2, .int .i64 v3, .int .i64 v4, .int .i64 v5, .int .i64 v6, .int .i64 v7, .int .i64 v8, .bool b9, .int .i64 va, .slice da dn dc, .slice a' k c']] V fun e w' => e = .returned (.bool (decide (PK.mayM y.msg))) ∧ Below V.heap.size V w') := Lib.hid (fun V h => by
            have := rmay_any y V h
            rw [hy] at this ⊢
            exact this)
          have hH2 : RES = if ¬ PK.mayM y.msg then none else some y.msg := by
            rw [H2.out rfl, hmsg]
            by_cases q : PK.mayM ⟨v1, v2, v3, v4, v5, v6, v7, v8, b9, va, d, ys.map RE.ent⟩
            · rw [if_neg (by simp [q]), if_neg (by simp [q])]
            · rw [if_pos (.inr q), if_pos q]
          have Hy := Lib.hid hy
          clear hmsg H2 hy Hno
          generalize ((v1 : Nat) : Int) = i1 at *
          generalize ((v2 : Nat) : Int) = i2 at *
          generalize ((v3 : Nat) : Int) = i3 at *
          generalize ((v4 : Nat) : Int) = i4 at *
          generalize ((v5 : Nat) : Int) = i5 at *
          generalize ((v6 : Nat) : Int) = i6 at *
          generalize ((v7 : Nat) : Int) = i7 at *
          generalize ((v8 : Nat) : Int) = i8 at *
          generalize ((va : Nat) : Int) = ia at *
          go_wp2_with fail
          refine HDN2.out.mono ?_
          rintro e u6 ⟨rfl, b⟩
          have T7 := Lib.hid (Tx.out.below b)
          have D7 := Lib.hid (Dx.out.below b)
          have O7 := Lib.hid (Ox.out.below b)
          have hfit : y.Fit u6 := by rw [Hy.out]; exact ⟨HDN.out, D7.out, O7.out.esS⟩
          have HMay := Lib.hid (HM.out u6 hfit)
          obtain ⟨⟨p0, p1, p2, p3, p4, p5, p6, p7, p8, p9, pa, pb⟩, pf⟩ := cells12 T7.out.mb
          clear b x0 x1 xf0 xf1 Tx Dx Ox HDN2 hfit HM
          by_cases hmay : PK.mayM y.msg
          · have Hres : Hid (RES = some y.msg) := Lib.hid (by rw [hH2, if_neg (by simp [hmay])])
            rw [decide_eq_true hmay] at HMay
            clear hmay hH2
            go_wp2_with fail
            refine HMay.out.mono ?_
            rintro e u7 ⟨rfl, b⟩
            have T8 := Lib.hid (T7.out.below b)
            have D8 := Lib.hid (D7.out.below b)
            have O8 := Lib.hid (O7.out.below b)
            clear p0 p1 p2 p3 p4 p5 p6 p7 p8 p9 pa pb pf b T7 D7 O7 HMay
            obtain ⟨⟨p0, p1, p2, p3, p4, p5, p6, p7, p8, p9, pa, pb⟩, pf⟩ := cells12 T8.out.mb
            obtain ⟨⟨z0, z1, z2, z3, z4, z5, z6, z7, z8, z9, za, zb⟩, zf⟩ := cells12 T8.out.rb
            have FBd := Lib.hid (cells12 (stored12 T8.out.rb (.int .i64 i1) (.int .i64 i2) (.int .i64 i3) (.int .i64 i4) (.int .i64 i5) (.int .i64 i6) (.int .i64 i7) (.int .i64 i8) (.bool b9) (.int .i64 ia) (.slice da dn dc) (.slice a' k c')))
            have fR := set12_fr u7 w.heap.size (.int .i64 i1) (.int .i64 i2) (.int .i64 i3) (.int .i64 i4) (.int .i64 i5) (.int .i64 i6) (.int .i64 i7) (.int .i64 i8) (.bool b9) (.int .i64 ia) (.slice da dn dc) (.slice a' k c')
            have no8R : ∀ q, q = w.heap.size → ∀ j n, u7.cell? ⟨q, j, none⟩ ≠ some (.int .u8 n) := fun q hq j n => by subst hq; exact no8_12 T8.out.rb (by simp) j n
            have BBd : Hid (Below w.heap.size w (set12 u7 w.heap.size (.int .i64 i1) (.int .i64 i2) (.int .i64 i3) (.int .i64 i4) (.int .i64 i5) (.int .i64 i6) (.int .i64 i7) (.int .i64 i8) (.bool b9) (.int .i64 ia) (.slice da dn dc) (.slice a' k c'))) := Lib.hid (Fr.belowM T8.out.be fR (Nat.le_refl _) (Array.getElem?_eq_some_iff.1 T8.out.rb).1)
            have DD : Hid (IsB (set12 u7 w.heap.size (.int .i64 i1) (.int .i64 i2) (.int .i64 i3) (.int .i64 i4) (.int .i64 i5) (.int .i64 i6) (.int .i64 i7) (.int .i64 i8) (.bool b9) (.int .i64 ia) (.slice da dn dc) (.slice a' k c')) (.slice da dn dc) d) := Lib.hid (D8.out.kept8 fR no8R)
            have EE : Hid (EsS (set12 u7 w.heap.size (.int .i64 i1) (.int .i64 i2) (.int .i64 i3) (.int .i64 i4) (.int .i64 i5) (.int .i64 i6) (.int .i64 i7) (.int .i64 i8) (.bool b9) (.int .i64 ia) (.slice da dn dc) (.slice a' k c')) (.slice a' k c') ys) := Lib.hid ((O8.out.kept fR no8R (fun b hb e => by have := Hox.out b hb; omega)).esS)
            clear fR no8R T8 D8 O8
            obtain ⟨W', hWf⟩ : ∃ W', W' = set12 u7 w.heap.size (.int .i64 i1) (.int .i64 i2) (.int .i64 i3) (.int .i64 i4) (.int .i64 i5) (.int .i64 i6) (.int .i64 i7) (.int .i64 i8) (.bool b9) (.int .i64 ia) (.slice da dn dc) (.slice a' k c') := ⟨_, rfl⟩
            have HWn : Hid ((((((((((((u7.setCell ⟨w.heap.size, 0, none⟩ (.int .i64 i1)).setCell ⟨w.heap.size, 1, none⟩ (.int .i64 i2)).setCell ⟨w.heap.size, 2, none⟩ (.int .i64 i3)).setCell ⟨w.heap.size, 3, none⟩ (.int .i64 i4)).setCell ⟨w.heap.size, 4, none⟩ (.int .i64 i5)).setCell ⟨w.heap.size, 5, none⟩ (.int .i64 i6)).setCell ⟨w.heap.size, 6, none⟩ (.int .i64 i7)).setCell ⟨w.heap.size, 7, none⟩ (.int .i64 i8)).setCell ⟨w.heap.size, 8, none⟩ (.bool b9)).setCell ⟨w.heap.size, 9, none⟩ (.int .i64 ia)).setCell ⟨w.heap.size, 10, none⟩ (.slice da dn dc)).setCell ⟨w.heap.size, 11, none⟩ (.slice a' k c') = W') := Lib.hid hWf.symm
            rw [← hWf] at FBd BBd DD EE
            clear hWf
            go_wp2_with (rw [HWn.out]; obtain ⟨⟨e0, e1, e2, e3, e4, e5, e6, e7, e8, e9, ea', eb⟩, _⟩ := FBd.out; refine bodyPost_ret (v := .tuple #[.agg #[.int .i64 i1, .int .i64 i2, .int .i64 i3, .int .i64 i4, .int .i64 i5, .int .i64 i6, .int .i64 i7, .int .i64 i8, .bool b9, .int .i64 ia, .slice da dn dc, .slice a' k c'], .int .i64 0]) (by simp [results, Tryz.results12, go_sem, e0, e1, e2, e3, e4, e5, e6, e7, e8, e9, ea', eb]) rfl ?_; exact ⟨.inr ⟨y, by rw [Hy.out]; rfl, by rw [Hy.out]; exact ⟨HDN.out, DD.out, EE.out⟩, Hres.out⟩, BBd.out⟩)
          · have Hres : Hid (RES = none) := Lib.hid (by rw [hH2, if_pos hmay])
            rw [decide_eq_false hmay] at HMay
            clear hmay hH2
            go_wp2_with fail
            refine HMay.out.mono ?_
            rintro e u7 ⟨rfl, b⟩
            have T8 := Lib.hid (T7.out.below b)
            clear p0 p1 p2 p3 p4 p5 p6 p7 p8 p9 pa pb pf b T7 D7 O7 HMay
            obtain ⟨⟨z0, z1, z2, z3, z4, z5, z6, z7, z8, z9, za, zb⟩, zf⟩ := cells12 T8.out.rb
            clear Hox
            obtain ⟨W', hWf⟩ : ∃ W', W' = set12 u7 w.heap.size (.int .i64 0) (.int .i64 0) (.int .i64 0) (.int .i64 0) (.int .i64 0) (.int .i64 0) (.int .i64 0) (.int .i64 0) (.bool false) (.int .i64 0) (.slice none 0 0) (.slice none 0 0) := ⟨_, rfl⟩
            have HWn : Hid ((((((((((((u7.setCell ⟨w.heap.size, 0, none⟩ (.int .i64 0)).setCell ⟨w.heap.size, 1, none⟩ (.int .i64 0)).setCell ⟨w.heap.size, 2, none⟩ (.int .i64 0)).setCell ⟨w.heap.size, 3, none⟩ (.int .i64 0)).setCell ⟨w.heap.size, 4, none⟩ (.int .i64 0)).setCell ⟨w.heap.size, 5, none⟩ (.int .i64 0)).setCell ⟨w.heap.size, 6, none⟩ (.int .i64 0)).setCell ⟨w.heap.size, 7, none⟩ (.int .i64 0)).setCell ⟨w.heap.size, 8, none⟩ (.bool false)).setCell ⟨w.heap.size, 9, none⟩ (.int .i64 0)).setCell ⟨w.heap.size, 10, none⟩ (.slice none 0 0)).setCell ⟨w.heap.size, 11, none⟩ (.slice none 0 0) = W') := Lib.hid hWf.symm
            have FBd := Lib.hid (cells12 (stored12 T8.out.rb (.int .i64 0) (.int .i64 0) (.int .i64 0) (.int .i64 0) (.int .i64 0) (.int .i64 0) (.int .i64 0) (.int .i64 0) (.bool false) (.int .i64 0) (.slice none 0 0) (.slice none 0 0)))
            have BBd : Hid (Below w.heap.size w (set12 u7 w.heap.size (.int .i64 0) (.int .i64 0) (.int .i64 0) (.int .i64 0) (.int .i64 0) (.int .i64 0) (.int .i64 0) (.int .i64 0) (.bool false) (.int .i64 0) (.slice none 0 0) (.slice none 0 0))) := Lib.hid (Fr.belowM T8.out.be (set12_fr u7 _ (.int .i64 0) (.int .i64 0) (.int .i64 0) (.int .i64 0) (.int .i64 0) (.int .i64 0) (.int .i64 0) (.int .i64 0) (.bool false) (.int .i64 0) (.slice none 0 0) (.slice none 0 0)) (Nat.le_refl _) (Array.getElem?_eq_some_iff.1 T8.out.rb).1)
            rw [← hWf] at FBd BBd
            clear hWf
            go_wp2_with (rw [HWn.out]; obtain ⟨⟨e0, e1, e2, e3, e4, e5, e6, e7, e8, e9, ea', eb⟩, _⟩ := FBd.out; refine bodyPost_ret (v := .tuple #[zeroM, .int .i64 3]) (by simp [results, Tryz.results12, go_sem, e0, e1, e2, e3, e4, e5, e6, e7, e8, e9, ea', eb, zeroM]) rfl ?_; exact ⟨.inl ⟨Hres.out, rfl⟩, BBd.out⟩)
end Go.Proofs.YtbgockggbpmhnaaGreatDoor

namespace Go.Proofs.YtbgockggbpmhnaaGreatDoor.PK

/-- The message of nothing. -/
def msg0 : Msg := ⟨0, 0, 0, 0, 0, 0, 0, 0, false, 0, [], []⟩
/-- The message that is answered. -/
def resM : Option Msg → Msg
  | none => msg0
  | some m => m
/-- The error that is answered. -/
def errM : Option Msg → Nat
  | none => 3
  | some _ => 0
theorem errM_some {r : Option Msg} (h : errM r = 0) : ∃ m, r = some m := by
  cases r with
  | none => simp [errM] at h
  | some m => exact ⟨m, rfl⟩
theorem enc0_len : (encM msg0).length ≤ 300000 := by
  have h := encM_len msg0 (by show 0 < _; decide) (by show 0 < _; decide)
  have h1 : msg0.d.length = 0 := rfl
  have h2 : (encEs msg0.es).length = 0 := rfl
  rw [h1, h2] at h
  exact Nat.le_trans h (by decide)
theorem resM_room {r : Option Msg} (h : ∀ m, r = some m → mayM m) : (encM (resM r)).length + 1000 ≤ roomB := by
  cases r with
  | none =>
    have h := enc0_len
    simp only [resM, roomB]
    generalize (encM msg0).length = q at *
    omega
  | some m => have := encM_small m (h m rfl); simp only [resM, roomB]; omega
end Go.Proofs.YtbgockggbpmhnaaGreatDoor.PK
namespace Go.Proofs.YtbgockggbpmhnaaGreatDoor
open Go Go.RowKit

theorem DecMR.uni {er : Nat → Value} {w w' : World} {v : Ending} {r : Option PK.Msg} (h : DecMR er w w' v r) : (∃ y : RM, v = .returned (.tuple #[y.val, er (PK.errM r)]) ∧ y.Fit w' ∧ y.msg = PK.resM r) ∧ Below w.heap.size w w' := by
  obtain ⟨h, b⟩ := h
  refine ⟨?_, b⟩
  rcases h with ⟨rfl, rfl⟩ | ⟨y, rfl, hy, rfl⟩
  · exact ⟨⟨0, 0, 0, 0, 0, 0, 0, 0, false, 0, none, 0, 0, [], none, 0, 0, []⟩, rfl, ⟨rfl, IsB.nil _, EsS.nil _⟩, rfl⟩
  · exact ⟨y, rfl, hy, rfl⟩
end Go.Proofs.YtbgockggbpmhnaaGreatDoor

namespace Go.Proofs.YtbgockggbpmhnaaGreatDoor
open Go Go.RowKit

theorem HoldB.below {H : Nat} {w w' : World} {a : Option Addr} {n c : Nat} {l : List UInt8} (h : HoldB H w a n c l) (f : Below w.heap.size w w') : HoldB H w' a n c l := ⟨h.1, h.2.1.kept (X := fun _ => False) (Fr.of_below f) (fun _ _ x => x), h.2.2⟩
set_option maxRecDepth 100000 in
set_option maxHeartbeats 16000000 in
theorem rencM_any (x : RM) (w : World) (hf : x.Fit w) (hroom : (PK.encM x.msg).length + 1000 ≤ roomB) :
    Calls Tryz.prog 17 #[x.val] w fun e w' => RW w w' e (PK.encM x.msg) := by
  obtain ⟨kd, fr, to, tm, ix, lt, cm, ro, ok, off, da, dn, dc, d, ea, en, ec, es⟩ := x
  obtain ⟨hl, hv, he⟩ := hf
  simp only at hl hv he
  simp only [RM.val]
  have hel := he.len.1
  have he63 : (en : Int) ≤ 9223372036854775807 := by have := he.len; simp only [maxLen] at this; omega
  obtain ⟨u0, hu0⟩ : ∃ u, u = PK.u64 kd := ⟨_, rfl⟩
  obtain ⟨u1, hu1⟩ : ∃ u, u = PK.u64 fr := ⟨_, rfl⟩
  obtain ⟨u2, hu2⟩ : ∃ u, u = PK.u64 to := ⟨_, rfl⟩
  obtain ⟨u3, hu3⟩ : ∃ u, u = PK.u64 tm := ⟨_, rfl⟩
  obtain ⟨u4, hu4⟩ : ∃ u, u = PK.u64 ix := ⟨_, rfl⟩
  obtain ⟨u5, hu5⟩ : ∃ u, u = PK.u64 lt := ⟨_, rfl⟩
  obtain ⟨u6, hu6⟩ : ∃ u, u = PK.u64 cm := ⟨_, rfl⟩
  obtain ⟨u7, hu7⟩ : ∃ u, u = PK.u64 ro := ⟨_, rfl⟩
  obtain ⟨u9, hu9⟩ : ∃ u, u = PK.u64 off := ⟨_, rfl⟩
  obtain ⟨L0, hL0⟩ : ∃ L, L = PK.uB u0 := ⟨_, rfl⟩
  obtain ⟨L1, hL1⟩ : ∃ L, L = L0 ++ PK.uB u1 := ⟨_, rfl⟩
  obtain ⟨L2, hL2⟩ : ∃ L, L = L1 ++ PK.uB u2 := ⟨_, rfl⟩
  obtain ⟨L3, hL3⟩ : ∃ L, L = L2 ++ PK.uB u3 := ⟨_, rfl⟩
  obtain ⟨L4, hL4⟩ : ∃ L, L = L3 ++ PK.uB u4 := ⟨_, rfl⟩
  obtain ⟨L5, hL5⟩ : ∃ L, L = L4 ++ PK.uB u5 := ⟨_, rfl⟩
  obtain ⟨L6, hL6⟩ : ∃ L, L = L5 ++ PK.uB u6 := ⟨_, rfl⟩
  obtain ⟨L7, hL7⟩ : ∃ L, L = L6 ++ PK.uB u7 := ⟨_, rfl⟩
  obtain ⟨Lb, hLb⟩ : ∃ L, L = L7 ++ PK.tB ok := ⟨_, rfl⟩
  obtain ⟨Lo, hLo⟩ : ∃ L, L = Lb ++ PK.uB u9 := ⟨_, rfl⟩
  obtain ⟨Ld, hLd⟩ : ∃ L, L = Lo ++ PK.bB d := ⟨_, rfl⟩
  obtain ⟨Ln, hLn⟩ : ∃ L, L = Ld ++ PK.uB en := ⟨_, rfl⟩
  have henc : PK.encM (RM.msg ⟨kd, fr, to, tm, ix, lt, cm, ro, ok, off, da, dn, dc, d, ea, en, ec, es⟩) = Ln ++ PK.encEs (es.map RE.ent) := by
    rw [hLn, hLd, hLo, hLb, hL7, hL6, hL5, hL4, hL3, hL2, hL1, hL0, hu0, hu1, hu2, hu3, hu4, hu5, hu6, hu7, hu9]
    simp [PK.encM, RM.msg, hel]
  rw [henc, List.length_append] at hroom
  rw [henc]
  have hen64 : en < 18446744073709551616 := by omega
  have wu0 := wrap_u64_nat kd
  rw [← hu0] at wu0
  have hlt0 : u0 < 18446744073709551616 := by rw [hu0]; exact PK.u64_lt _
  have wu1 := wrap_u64_nat fr
  rw [← hu1] at wu1
  have hlt1 : u1 < 18446744073709551616 := by rw [hu1]; exact PK.u64_lt _
  have wu2 := wrap_u64_nat to
  rw [← hu2] at wu2
  have hlt2 : u2 < 18446744073709551616 := by rw [hu2]; exact PK.u64_lt _
  have wu3 := wrap_u64_nat tm
  rw [← hu3] at wu3
  have hlt3 : u3 < 18446744073709551616 := by rw [hu3]; exact PK.u64_lt _
  have wu4 := wrap_u64_nat ix
  rw [← hu4] at wu4
  have hlt4 : u4 < 18446744073709551616 := by rw [hu4]; exact PK.u64_lt _
  have wu5 := wrap_u64_nat lt
  rw [← hu5] at wu5
  have hlt5 : u5 < 18446744073709551616 := by rw [hu5]; exact PK.u64_lt _
  have wu6 := wrap_u64_nat cm
  rw [← hu6] at wu6
  have hlt6 : u6 < 18446744073709551616 := by rw [hu6]; exact PK.u64_lt _
  have wu7 := wrap_u64_nat ro
  rw [← hu7] at wu7
  have hlt7 : u7 < 18446744073709551616 := by rw [hu7]; exact PK.u64_lt _
  have wu9 := wrap_u64_nat off
  rw [← hu9] at wu9
  have hlt9 : u9 < 18446744073709551616 := by rw [hu9]; exact PK.u64_lt _
  have len0 : L0.length ≤ 22 := by rw [hL0]; exact PK.uB_len _ hlt0
  have len1 : L1.length ≤ 44 := by rw [hL1, List.length_append]; have := PK.uB_len _ hlt1; omega
  have len2 : L2.length ≤ 66 := by rw [hL2, List.length_append]; have := PK.uB_len _ hlt2; omega
  have len3 : L3.length ≤ 88 := by rw [hL3, List.length_append]; have := PK.uB_len _ hlt3; omega
  have len4 : L4.length ≤ 110 := by rw [hL4, List.length_append]; have := PK.uB_len _ hlt4; omega
  have len5 : L5.length ≤ 132 := by rw [hL5, List.length_append]; have := PK.uB_len _ hlt5; omega
  have len6 : L6.length ≤ 154 := by rw [hL6, List.length_append]; have := PK.uB_len _ hlt6; omega
  have len7 : L7.length ≤ 176 := by rw [hL7, List.length_append]; have := PK.uB_len _ hlt7; omega
  have lenb : Lb.length ≤ 177 := by rw [hLb, List.length_append]; simp [PK.tB]; omega
  have leno : Lo.length ≤ 199 := by rw [hLo, List.length_append]; have := PK.uB_len _ hlt9; omega
  have lend : Ld.length = Lo.length + (PK.bB d).length := by rw [hLd, List.length_append]
  have lenn : Ld.length ≤ Ln.length := by rw [hLn, List.length_append]; omega
  rw [bB_len_eq] at lend
  have wn : IntKind.u64.wrap (en : Int) = (en : Int) := by rw [IntKind.wrap_u64]; omega
  have HV := Lib.hid hv
  have HES := Lib.hid he
  have HL := Lib.hid hl
  have HEL := Lib.hid hel
  have HR := Lib.hid hroom
  obtain ⟨Wa, hWa⟩ : ∃ W, W = w.alloc (.cells #[.int .i64 kd, .int .i64 fr, .int .i64 to, .int .i64 tm, .int .i64 ix, .int .i64 lt, .int .i64 cm, .int .i64 ro, .bool ok, .int .i64 off, .slice da dn dc, .slice ea en ec] 25) := ⟨_, rfl⟩
  have gA : Wa.heap[w.heap.size]? = some (.cells #[.int .i64 kd, .int .i64 fr, .int .i64 to, .int .i64 tm, .int .i64 ix, .int .i64 lt, .int .i64 cm, .int .i64 ro, .bool ok, .int .i64 off, .slice da dn dc, .slice ea en ec] 25) := by rw [hWa]; exact heap_alloc_new _ _
  obtain ⟨⟨p0, p1, p2, p3, p4, p5, p6, p7, p8, p9, pa, pb⟩, _⟩ := cells12 gA
  have hBa : Hid (Below w.heap.size w Wa) := Lib.hid (by rw [hWa]; exact (Below.refl _ _).alloc (Nat.le_refl _) _)
  have hsz : Hid (Wa.heap.size = w.heap.size + 1) := Lib.hid (by rw [hWa]; simp)
  have cont : Hid (∀ V, Below (w.heap.size + 1) Wa V → (Hid (Below (w.heap.size + 1) Wa V) ∧ V.cell? ⟨w.heap.size, 0, none⟩ = some (.int .i64 kd) ∧ V.cell? ⟨w.heap.size, 1, none⟩ = some (.int .i64 fr) ∧ V.cell? ⟨w.heap.size, 2, none⟩ = some (.int .i64 to) ∧ V.cell? ⟨w.heap.size, 3, none⟩ = some (.int .i64 tm) ∧ V.cell? ⟨w.heap.size, 4, none⟩ = some (.int .i64 ix) ∧ V.cell? ⟨w.heap.size, 5, none⟩ = some (.int .i64 lt) ∧ V.cell? ⟨w.heap.size, 6, none⟩ = some (.int .i64 cm) ∧ V.cell? ⟨w.heap.size, 7, none⟩ = some (.int .i64 ro) ∧ V.cell? ⟨w.heap.size, 8, none⟩ = some (.bool ok) ∧ V.cell? ⟨w.heap.size, 9, none⟩ = some (.int .i64 off) ∧ V.cell? ⟨w.heap.size, 10, none⟩ = some (.slice da dn dc) ∧ V.cell? ⟨w.heap.size, 11, none⟩ = some (.slice ea en ec))) := fun V h => by
    have hk := h.block w.heap.size (by omega)
    exact ⟨Lib.hid h, (World.cell?_of_block hk).trans p0, (World.cell?_of_block hk).trans p1, (World.cell?_of_block hk).trans p2, (World.cell?_of_block hk).trans p3, (World.cell?_of_block hk).trans p4, (World.cell?_of_block hk).trans p5, (World.cell?_of_block hk).trans p6, (World.cell?_of_block hk).trans p7, (World.cell?_of_block hk).trans p8, (World.cell?_of_block hk).trans p9, (World.cell?_of_block hk).trans pa, (World.cell?_of_block hk).trans pb⟩
  have fin : Hid (∀ V, (Hid (Below (w.heap.size + 1) Wa V) ∧ V.cell? ⟨w.heap.size, 0, none⟩ = some (.int .i64 kd) ∧ V.cell? ⟨w.heap.size, 1, none⟩ = some (.int .i64 fr) ∧ V.cell? ⟨w.heap.size, 2, none⟩ = some (.int .i64 to) ∧ V.cell? ⟨w.heap.size, 3, none⟩ = some (.int .i64 tm) ∧ V.cell? ⟨w.heap.size, 4, none⟩ = some (.int .i64 ix) ∧ V.cell? ⟨w.heap.size, 5, none⟩ = some (.int .i64 lt) ∧ V.cell? ⟨w.heap.size, 6, none⟩ = some (.int .i64 cm) ∧ V.cell? ⟨w.heap.size, 7, none⟩ = some (.int .i64 ro) ∧ V.cell? ⟨w.heap.size, 8, none⟩ = some (.bool ok) ∧ V.cell? ⟨w.heap.size, 9, none⟩ = some (.int .i64 off) ∧ V.cell? ⟨w.heap.size, 10, none⟩ = some (.slice da dn dc) ∧ V.cell? ⟨w.heap.size, 11, none⟩ = some (.slice ea en ec)) → Below w.heap.size w V) := fun V h => hBa.out.trans (h.1.out.mono (Nat.le_succ _))
  have step : Hid (∀ V V', (Hid (Below (w.heap.size + 1) Wa V) ∧ V.cell? ⟨w.heap.size, 0, none⟩ = some (.int .i64 kd) ∧ V.cell? ⟨w.heap.size, 1, none⟩ = some (.int .i64 fr) ∧ V.cell? ⟨w.heap.size, 2, none⟩ = some (.int .i64 to) ∧ V.cell? ⟨w.heap.size, 3, none⟩ = some (.int .i64 tm) ∧ V.cell? ⟨w.heap.size, 4, none⟩ = some (.int .i64 ix) ∧ V.cell? ⟨w.heap.size, 5, none⟩ = some (.int .i64 lt) ∧ V.cell? ⟨w.heap.size, 6, none⟩ = some (.int .i64 cm) ∧ V.cell? ⟨w.heap.size, 7, none⟩ = some (.int .i64 ro) ∧ V.cell? ⟨w.heap.size, 8, none⟩ = some (.bool ok) ∧ V.cell? ⟨w.heap.size, 9, none⟩ = some (.int .i64 off) ∧ V.cell? ⟨w.heap.size, 10, none⟩ = some (.slice da dn dc) ∧ V.cell? ⟨w.heap.size, 11, none⟩ = some (.slice ea en ec)) → Below V.heap.size V V' → (Hid (Below (w.heap.size + 1) Wa V') ∧ V'.cell? ⟨w.heap.size, 0, none⟩ = some (.int .i64 kd) ∧ V'.cell? ⟨w.heap.size, 1, none⟩ = some (.int .i64 fr) ∧ V'.cell? ⟨w.heap.size, 2, none⟩ = some (.int .i64 to) ∧ V'.cell? ⟨w.heap.size, 3, none⟩ = some (.int .i64 tm) ∧ V'.cell? ⟨w.heap.size, 4, none⟩ = some (.int .i64 ix) ∧ V'.cell? ⟨w.heap.size, 5, none⟩ = some (.int .i64 lt) ∧ V'.cell? ⟨w.heap.size, 6, none⟩ = some (.int .i64 cm) ∧ V'.cell? ⟨w.heap.size, 7, none⟩ = some (.int .i64 ro) ∧ V'.cell? ⟨w.heap.size, 8, none⟩ = some (.bool ok) ∧ V'.cell? ⟨w.heap.size, 9, none⟩ = some (.int .i64 off) ∧ V'.cell? ⟨w.heap.size, 10, none⟩ = some (.slice da dn dc) ∧ V'.cell? ⟨w.heap.size, 11, none⟩ = some (.slice ea en ec))) := fun V V' h b => cont.out V' (h.1.out.trans (b.mono (by have := h.1.out.size; have := hsz.out; omega)))
  have res : Hid (∀ (V V' : World) (e : Ending) (l : List UInt8), (Hid (Below (w.heap.size + 1) Wa V) ∧ V.cell? ⟨w.heap.size, 0, none⟩ = some (.int .i64 kd) ∧ V.cell? ⟨w.heap.size, 1, none⟩ = some (.int .i64 fr) ∧ V.cell? ⟨w.heap.size, 2, none⟩ = some (.int .i64 to) ∧ V.cell? ⟨w.heap.size, 3, none⟩ = some (.int .i64 tm) ∧ V.cell? ⟨w.heap.size, 4, none⟩ = some (.int .i64 ix) ∧ V.cell? ⟨w.heap.size, 5, none⟩ = some (.int .i64 lt) ∧ V.cell? ⟨w.heap.size, 6, none⟩ = some (.int .i64 cm) ∧ V.cell? ⟨w.heap.size, 7, none⟩ = some (.int .i64 ro) ∧ V.cell? ⟨w.heap.size, 8, none⟩ = some (.bool ok) ∧ V.cell? ⟨w.heap.size, 9, none⟩ = some (.int .i64 off) ∧ V.cell? ⟨w.heap.size, 10, none⟩ = some (.slice da dn dc) ∧ V.cell? ⟨w.heap.size, 11, none⟩ = some (.slice ea en ec)) → RW V V' e l → (∃ a n c, e = .returned (.slice a n c) ∧ Hid (HoldB w.heap.size V' a n c l)) ∧ (Hid (Below (w.heap.size + 1) Wa V') ∧ V'.cell? ⟨w.heap.size, 0, none⟩ = some (.int .i64 kd) ∧ V'.cell? ⟨w.heap.size, 1, none⟩ = some (.int .i64 fr) ∧ V'.cell? ⟨w.heap.size, 2, none⟩ = some (.int .i64 to) ∧ V'.cell? ⟨w.heap.size, 3, none⟩ = some (.int .i64 tm) ∧ V'.cell? ⟨w.heap.size, 4, none⟩ = some (.int .i64 ix) ∧ V'.cell? ⟨w.heap.size, 5, none⟩ = some (.int .i64 lt) ∧ V'.cell? ⟨w.heap.size, 6, none⟩ = some (.int .i64 cm) ∧ V'.cell? ⟨w.heap.size, 7, none⟩ = some (.int .i64 ro) ∧ V'.cell? ⟨w.heap.size, 8, none⟩ = some (.bool ok) ∧ V'.cell? ⟨w.heap.size, 9, none⟩ = some (.int .i64 off) ∧ V'.cell? ⟨w.heap.size, 10, none⟩ = some (.slice da dn dc) ∧ V'.cell? ⟨w.heap.size, 11, none⟩ = some (.slice ea en ec))) := fun V V' e l h r => by
    obtain ⟨⟨a, n, c, e1, e2, e3, e4⟩, b⟩ := r
    exact ⟨⟨a, n, c, e1, Lib.hid ⟨e2, e3, fun q hq => Nat.le_trans (fin.out V h).size (e4 q hq)⟩⟩, step.out V V' h b⟩
  have CU : Hid (∀ (V : World) (a : Option Addr) (n c : Nat) (l : List UInt8) (u : Nat), (Hid (Below (w.heap.size + 1) Wa V) ∧ V.cell? ⟨w.heap.size, 0, none⟩ = some (.int .i64 kd) ∧ V.cell? ⟨w.heap.size, 1, none⟩ = some (.int .i64 fr) ∧ V.cell? ⟨w.heap.size, 2, none⟩ = some (.int .i64 to) ∧ V.cell? ⟨w.heap.size, 3, none⟩ = some (.int .i64 tm) ∧ V.cell? ⟨w.heap.size, 4, none⟩ = some (.int .i64 ix) ∧ V.cell? ⟨w.heap.size, 5, none⟩ = some (.int .i64 lt) ∧ V.cell? ⟨w.heap.size, 6, none⟩ = some (.int .i64 cm) ∧ V.cell? ⟨w.heap.size, 7, none⟩ = some (.int .i64 ro) ∧ V.cell? ⟨w.heap.size, 8, none⟩ = some (.bool ok) ∧ V.cell? ⟨w.heap.size, 9, none⟩ = some (.int .i64 off) ∧ V.cell? ⟨w.heap.size, 10, none⟩ = some (.slice da dn dc) ∧ V.cell? ⟨w.heap.size, 11, none⟩ = some (.slice ea en ec)) → Hid (HoldB w.heap.size V a n c l) → u < 18446744073709551616 → l.length + 100 ≤ roomB → Calls Tryz.prog 47 #[.slice a n c, .int .u64 u] V fun e w' => (∃ a n c, e = .returned (.slice a n c) ∧ Hid (HoldB w.heap.size w' a n c (l ++ PK.uB u))) ∧ (Hid (Below (w.heap.size + 1) Wa w') ∧ w'.cell? ⟨w.heap.size, 0, none⟩ = some (.int .i64 kd) ∧ w'.cell? ⟨w.heap.size, 1, none⟩ = some (.int .i64 fr) ∧ w'.cell? ⟨w.heap.size, 2, none⟩ = some (.int .i64 to) ∧ w'.cell? ⟨w.heap.size, 3, none⟩ = some (.int .i64 tm) ∧ w'.cell? ⟨w.heap.size, 4, none⟩ = some (.int .i64 ix) ∧ w'.cell? ⟨w.heap.size, 5, none⟩ = some (.int .i64 lt) ∧ w'.cell? ⟨w.heap.size, 6, none⟩ = some (.int .i64 cm) ∧ w'.cell? ⟨w.heap.size, 7, none⟩ = some (.int .i64 ro) ∧ w'.cell? ⟨w.heap.size, 8, none⟩ = some (.bool ok) ∧ w'.cell? ⟨w.heap.size, 9, none⟩ = some (.int .i64 off) ∧ w'.cell? ⟨w.heap.size, 10, none⟩ = some (.slice da dn dc) ∧ w'.cell? ⟨w.heap.size, 11, none⟩ = some (.slice ea en ec))) := fun V a n c l u h hh hu hr =>
    (ruint_w a n c l u V hh.out.1 hh.out.2.1.isB hu (by have := hh.out.1; omega)).mono fun e w' r => res.out V w' e _ h r
  have C0 : Hid (∀ V, (Hid (Below (w.heap.size + 1) Wa V) ∧ V.cell? ⟨w.heap.size, 0, none⟩ = some (.int .i64 kd) ∧ V.cell? ⟨w.heap.size, 1, none⟩ = some (.int .i64 fr) ∧ V.cell? ⟨w.heap.size, 2, none⟩ = some (.int .i64 to) ∧ V.cell? ⟨w.heap.size, 3, none⟩ = some (.int .i64 tm) ∧ V.cell? ⟨w.heap.size, 4, none⟩ = some (.int .i64 ix) ∧ V.cell? ⟨w.heap.size, 5, none⟩ = some (.int .i64 lt) ∧ V.cell? ⟨w.heap.size, 6, none⟩ = some (.int .i64 cm) ∧ V.cell? ⟨w.heap.size, 7, none⟩ = some (.int .i64 ro) ∧ V.cell? ⟨w.heap.size, 8, none⟩ = some (.bool ok) ∧ V.cell? ⟨w.heap.size, 9, none⟩ = some (.int .i64 off) ∧ V.cell? ⟨w.heap.size, 10, none⟩ = some (.slice da dn dc) ∧ V.cell? ⟨w.heap.size, 11, none⟩ = some (.slice ea en ec)) → Calls Tryz.prog 47 #[.slice none 0 0, .int .u64 u0] V fun e w' => (∃ a n c, e = .returned (.slice a n c) ∧ Hid (HoldB w.heap.size w' a n c L0)) ∧ (Hid (Below (w.heap.size + 1) Wa w') ∧ w'.cell? ⟨w.heap.size, 0, none⟩ = some (.int .i64 kd) ∧ w'.cell? ⟨w.heap.size, 1, none⟩ = some (.int .i64 fr) ∧ w'.cell? ⟨w.heap.size, 2, none⟩ = some (.int .i64 to) ∧ w'.cell? ⟨w.heap.size, 3, none⟩ = some (.int .i64 tm) ∧ w'.cell? ⟨w.heap.size, 4, none⟩ = some (.int .i64 ix) ∧ w'.cell? ⟨w.heap.size, 5, none⟩ = some (.int .i64 lt) ∧ w'.cell? ⟨w.heap.size, 6, none⟩ = some (.int .i64 cm) ∧ w'.cell? ⟨w.heap.size, 7, none⟩ = some (.int .i64 ro) ∧ w'.cell? ⟨w.heap.size, 8, none⟩ = some (.bool ok) ∧ w'.cell? ⟨w.heap.size, 9, none⟩ = some (.int .i64 off) ∧ w'.cell? ⟨w.heap.size, 10, none⟩ = some (.slice da dn dc) ∧ w'.cell? ⟨w.heap.size, 11, none⟩ = some (.slice ea en ec))) := fun V h => by
    have := CU.out V none 0 0 [] u0 h (Lib.hid ⟨rfl, OwnB.nil _, fun b hb => by simp [Value.ownBlock] at hb⟩) hlt0 (by simp only [roomB, List.length_nil]; omega)
    rw [List.nil_append, ← hL0] at this
    exact this
  have C1 : Hid (∀ V a n c, (Hid (Below (w.heap.size + 1) Wa V) ∧ V.cell? ⟨w.heap.size, 0, none⟩ = some (.int .i64 kd) ∧ V.cell? ⟨w.heap.size, 1, none⟩ = some (.int .i64 fr) ∧ V.cell? ⟨w.heap.size, 2, none⟩ = some (.int .i64 to) ∧ V.cell? ⟨w.heap.size, 3, none⟩ = some (.int .i64 tm) ∧ V.cell? ⟨w.heap.size, 4, none⟩ = some (.int .i64 ix) ∧ V.cell? ⟨w.heap.size, 5, none⟩ = some (.int .i64 lt) ∧ V.cell? ⟨w.heap.size, 6, none⟩ = some (.int .i64 cm) ∧ V.cell? ⟨w.heap.size, 7, none⟩ = some (.int .i64 ro) ∧ V.cell? ⟨w.heap.size, 8, none⟩ = some (.bool ok) ∧ V.cell? ⟨w.heap.size, 9, none⟩ = some (.int .i64 off) ∧ V.cell? ⟨w.heap.size, 10, none⟩ = some (.slice da dn dc) ∧ V.cell? ⟨w.heap.size, 11, none⟩ = some (.slice ea en ec)) → Hid (HoldB w.heap.size V a n c L0) → Calls Tryz.prog 47 #[.slice a n c, .int .u64 u1] V fun e w' => (∃ a n c, e = .returned (.slice a n c) ∧ Hid (HoldB w.heap.size w' a n c L1)) ∧ (Hid (Below (w.heap.size + 1) Wa w') ∧ w'.cell? ⟨w.heap.size, 0, none⟩ = some (.int .i64 kd) ∧ w'.cell? ⟨w.heap.size, 1, none⟩ = some (.int .i64 fr) ∧ w'.cell? ⟨w.heap.size, 2, none⟩ = some (.int .i64 to) ∧ w'.cell? ⟨w.heap.size, 3, none⟩ = some (.int .i64 tm) ∧ w'.cell? ⟨w.heap.size, 4, none⟩ = some (.int .i64 ix) ∧ w'.cell? ⟨w.heap.size, 5, none⟩ = some (.int .i64 lt) ∧ w'.cell? ⟨w.heap.size, 6, none⟩ = some (.int .i64 cm) ∧ w'.cell? ⟨w.heap.size, 7, none⟩ = some (.int .i64 ro) ∧ w'.cell? ⟨w.heap.size, 8, none⟩ = some (.bool ok) ∧ w'.cell? ⟨w.heap.size, 9, none⟩ = some (.int .i64 off) ∧ w'.cell? ⟨w.heap.size, 10, none⟩ = some (.slice da dn dc) ∧ w'.cell? ⟨w.heap.size, 11, none⟩ = some (.slice ea en ec))) := fun V a n c h hh => by
    have := CU.out V a n c L0 u1 h hh hlt1 (by simp only [roomB]; omega)
    rw [← hL1] at this
    exact this
  have C2 : Hid (∀ V a n c, (Hid (Below (w.heap.size + 1) Wa V) ∧ V.cell? ⟨w.heap.size, 0, none⟩ = some (.int .i64 kd) ∧ V.cell? ⟨w.heap.size, 1, none⟩ = some (.int .i64 fr) ∧ V.cell? ⟨w.heap.size, 2, none⟩ = some (.int .i64 to) ∧ V.cell? ⟨w.heap.size, 3, none⟩ = some (.int .i64 tm) ∧ V.cell? ⟨w.heap.size, 4, none⟩ = some (.int .i64 ix) ∧ V.cell? ⟨w.heap.size, 5, none⟩ = some (.int .i64 lt) ∧ V.cell? ⟨w.heap.size, 6, none⟩ = some (.int .i64 cm) ∧ V.cell? ⟨w.heap.size, 7, none⟩ = some (.int .i64 ro) ∧ V.cell? ⟨w.heap.size, 8, none⟩ = some (.bool ok) ∧ V.cell? ⟨w.heap.size, 9, none⟩ = some (.int .i64 off) ∧ V.cell? ⟨w.heap.size, 10, none⟩ = some (.slice da dn dc) ∧ V.cell? ⟨w.heap.size, 11, none⟩ = some (.slice ea en ec)) → Hid (HoldB w.heap.size V a n c L1) → Calls Tryz.prog 47 #[.slice a n c, .int .u64 u2] V fun e w' => (∃ a n c, e = .returned (.slice a n c) ∧ Hid (HoldB w.heap.size w' a n c L2)) ∧ (Hid (Below (w.heap.size + 1) Wa w') ∧ w'.cell? ⟨w.heap.size, 0, none⟩ = some (.int .i64 kd) ∧ w'.cell? ⟨w.heap.size, 1, none⟩ = some (.int .i64 fr) ∧ w'.cell? ⟨w.heap.size, 2, none⟩ = some (.int .i64 to) ∧ w'.cell? ⟨w.heap.size, 3, none⟩ = some (.int .i64 tm) ∧ w'.cell? ⟨w.heap.size, 4, none⟩ = some (.int .i64 ix) ∧ w'.cell? ⟨w.heap.size, 5, none⟩ = some (.int .i64 lt) ∧ w'.cell? ⟨w.heap.size, 6, none⟩ = some (.int .i64 cm) ∧ w'.cell? ⟨w.heap.size, 7, none⟩ = some (.int .i64 ro) ∧ w'.cell? ⟨w.heap.size, 8, none⟩ = some (.bool ok) ∧ w'.cell? ⟨w.heap.size, 9, none⟩ = some (.int .i64 off) ∧ w'.cell? ⟨w.heap.size, 10, none⟩ = some (.slice da dn dc) ∧ w'.cell? ⟨w.heap.size, 11, none⟩ = some (.slice ea en ec))) := fun V a n c h hh => by
    have := CU.out V a n c L1 u2 h hh hlt2 (by simp only [roomB]; omega)
    rw [← hL2] at this
    exact this
  have C3 : Hid (∀ V a n c, (Hid (Below (w.heap.size + 1) Wa V) ∧ V.cell? ⟨w.heap.size, 0, none⟩ = some (.int .i64 kd) ∧ V.cell? ⟨w.heap.size, 1, none⟩ = some (.int .i64 fr) ∧ V.cell? ⟨w.heap.size, 2, none⟩ = some (.int .i64 to) ∧ V.cell? ⟨w.heap.size, 3, none⟩ = some (.int .i64 tm) ∧ V.cell? ⟨w.heap.size, 4, none⟩ = some (.int .i64 ix) ∧ V.cell? ⟨w.heap.size, 5, none⟩ = some (.int .i64 lt) ∧ V.cell? ⟨w.heap.size, 6, none⟩ = some (.int .i64 cm) ∧ V.cell? ⟨w.heap.size, 7, none⟩ = some (.int .i64 ro) ∧ V.cell? ⟨w.heap.size, 8, none⟩ = some (.bool ok) ∧ V.cell? ⟨w.heap.size, 9, none⟩ = some (.int .i64 off) ∧ V.cell? ⟨w.heap.size, 10, none⟩ = some (.slice da dn dc) ∧ V.cell? ⟨w.heap.size, 11, none⟩ = some (.slice ea en ec)) → Hid (HoldB w.heap.size V a n c L2) → Calls Tryz.prog 47 #[.slice a n c, .int .u64 u3] V fun e w' => (∃ a n c, e = .returned (.slice a n c) ∧ Hid (HoldB w.heap.size w' a n c L3)) ∧ (Hid (Below (w.heap.size + 1) Wa w') ∧ w'.cell? ⟨w.heap.size, 0, none⟩ = some (.int .i64 kd) ∧ w'.cell? ⟨w.heap.size, 1, none⟩ = some (.int .i64 fr) ∧ w'.cell? ⟨w.heap.size, 2, none⟩ = some (.int .i64 to) ∧ w'.cell? ⟨w.heap.size, 3, none⟩ = some (.int .i64 tm) ∧ w'.cell? ⟨w.heap.size, 4, none⟩ = some (.int .i64 ix) ∧ w'.cell? ⟨w.heap.size, 5, none⟩ = some (.int .i64 lt) ∧ w'.cell? ⟨w.heap.size, 6, none⟩ = some (.int .i64 cm) ∧ w'.cell? ⟨w.heap.size, 7, none⟩ = some (.int .i64 ro) ∧ w'.cell? ⟨w.heap.size, 8, none⟩ = some (.bool ok) ∧ w'.cell? ⟨w.heap.size, 9, none⟩ = some (.int .i64 off) ∧ w'.cell? ⟨w.heap.size, 10, none⟩ = some (.slice da dn dc) ∧ w'.cell? ⟨w.heap.size, 11, none⟩ = some (.slice ea en ec))) := fun V a n c h hh => by
    have := CU.out V a n c L2 u3 h hh hlt3 (by simp only [roomB]; omega)
    rw [← hL3] at this
    exact this
  have C4 : Hid (∀ V a n c, (Hid (Below (w.heap.size + 1) Wa V) ∧ V.cell? ⟨w.heap.size, 0, none⟩ = some (.int .i64 kd) ∧ V.cell? ⟨w.heap.size, 1, none⟩ = some (.int .i64 fr) ∧ V.cell? ⟨w.heap.size, 2, none⟩ = some (.int .i64 to) ∧ V.cell? ⟨w.heap.size, 3, none⟩ = some (.int .i64 tm) ∧ V.cell? ⟨w.heap.size, 4, none⟩ = some (.int .i64 ix) ∧ V.cell? ⟨w.heap.size, 5, none⟩ = some (.int .i64 lt) ∧ V.cell? ⟨w.heap.size, 6, none⟩ = some (.int .i64 cm) ∧ V.cell? ⟨w.heap.size, 7, none⟩ = some (.int .i64 ro) ∧ V.cell? ⟨w.heap.size, 8, none⟩ = some (.bool ok) ∧ V.cell? ⟨w.heap.size, 9, none⟩ = some (.int .i64 off) ∧ V.cell? ⟨w.heap.size, 10, none⟩ = some (.slice da dn dc) ∧ V.cell? ⟨w.heap.size, 11, none⟩ = some (.slice ea en ec)) → Hid (HoldB w.heap.size V a n c L3) → Calls Tryz.prog 47 #[.slice a n c, .int .u64 u4] V fun e w' => (∃ a n c, e = .returned (.slice a n c) ∧ Hid (HoldB w.heap.size w' a n c L4)) ∧ (Hid (Below (w.heap.size + 1) Wa w') ∧ w'.cell? ⟨w.heap.size, 0, none⟩ = some (.int .i64 kd) ∧ w'.cell? ⟨w.heap.size, 1, none⟩ = some (.int .i64 fr) ∧ w'.cell? ⟨w.heap.size, 2, none⟩ = some (.int .i64 to) ∧ w'.cell? ⟨w.heap.size, 3, none⟩ = some (.int .i64 tm) ∧ w'.cell? ⟨w.heap.size, 4, none⟩ = some (.int .i64 ix) ∧ w'.cell? ⟨w.heap.size, 5, none⟩ = some (.int .i64 lt) ∧ w'.cell? ⟨w.heap.size, 6, none⟩ = some (.int .i64 cm) ∧ w'.cell? ⟨w.heap.size, 7, none⟩ = some (.int .i64 ro) ∧ w'.cell? ⟨w.heap.size, 8, none⟩ = some (.bool ok) ∧ w'.cell? ⟨w.heap.size, 9, none⟩ = some (.int .i64 off) ∧ w'.cell? ⟨w.heap.size, 10, none⟩ = some (.slice da dn dc) ∧ w'.cell? ⟨w.heap.size, 11, none⟩ = some (.slice ea en ec))) := fun V a n c h hh => by
    have := CU.out V a n c L3 u4 h hh hlt4 (by simp only [roomB]; omega)
    rw [← hL4] at this
    exact this
  have C5 : Hid (∀ V a n c, (Hid (Below (w.heap.size + 1) Wa V) ∧ V.cell? ⟨w.heap.size, 0, none⟩ = some (.int .i64 kd) ∧ V.cell? ⟨w.heap.size, 1, none⟩ = some (.int .i64 fr) ∧ V.cell? ⟨w.heap.size, 2, none⟩ = some (.int .i64 to) ∧ V.cell? ⟨w.heap.size, 3, none⟩ = some (.int .i64 tm) ∧ V.cell? ⟨w.heap.size, 4, none⟩ = some (.int .i64 ix) ∧ V.cell? ⟨w.heap.size, 5, none⟩ = some (.int .i64 lt) ∧ V.cell? ⟨w.heap.size, 6, none⟩ = some (.int .i64 cm) ∧ V.cell? ⟨w.heap.size, 7, none⟩ = some (.int .i64 ro) ∧ V.cell? ⟨w.heap.size, 8, none⟩ = some (.bool ok) ∧ V.cell? ⟨w.heap.size, 9, none⟩ = some (.int .i64 off) ∧ V.cell? ⟨w.heap.size, 10, none⟩ = some (.slice da dn dc) ∧ V.cell? ⟨w.heap.size, 11, none⟩ = some (.slice ea en ec)) → Hid (HoldB w.heap.size V a n c L4) → Calls Tryz.prog 47 #[.slice a n c, .int .u64 u5] V fun e w' => (∃ a n c, e = .returned (.slice a n c) ∧ Hid (HoldB w.heap.size w' a n c L5)) ∧ (Hid (Below (w.heap.size + 1) Wa w') ∧ w'.cell? ⟨w.heap.size, 0, none⟩ = some (.int .i64 kd) ∧ w'.cell? ⟨w.heap.size, 1, none⟩ = some (.int .i64 fr) ∧ w'.cell? ⟨w.heap.size, 2, none⟩ = some (.int .i64 to) ∧ w'.cell? ⟨w.heap.size, 3, none⟩ = some (.int .i64 tm) ∧ w'.cell? ⟨w.heap.size, 4, none⟩ = some (.int .i64 ix) ∧ w'.cell? ⟨w.heap.size, 5, none⟩ = some (.int .i64 lt) ∧ w'.cell? ⟨w.heap.size, 6, none⟩ = some (.int .i64 cm) ∧ w'.cell? ⟨w.heap.size, 7, none⟩ = some (.int .i64 ro) ∧ w'.cell? ⟨w.heap.size, 8, none⟩ = some (.bool ok) ∧ w'.cell? ⟨w.heap.size, 9, none⟩ = some (.int .i64 off) ∧ w'.cell? ⟨w.heap.size, 10, none⟩ = some (.slice da dn dc) ∧ w'.cell? ⟨w.heap.size, 11, none⟩ = some (.slice ea en ec))) := fun V a n c h hh => by
    have := CU.out V a n c L4 u5 h hh hlt5 (by simp only [roomB]; omega)
    rw [← hL5] at this
    exact this
  have C6 : Hid (∀ V a n c, (Hid (Below (w.heap.size + 1) Wa V) ∧ V.cell? ⟨w.heap.size, 0, none⟩ = some (.int .i64 kd) ∧ V.cell? ⟨w.heap.size, 1, none⟩ = some (.int .i64 fr) ∧ V.cell? ⟨w.heap.size, 2, none⟩ = some (.int .i64 to) ∧ V.cell? ⟨w.heap.size, 3, none⟩ = some (.int .i64 tm) ∧ V.cell? ⟨w.heap.size, 4, none⟩ = some (.int .i64 ix) ∧ V.cell? ⟨w.heap.size, 5, none⟩ = some (.int .i64 lt) ∧ V.cell? ⟨w.heap.size, 6, none⟩ = some (.int .i64 cm) ∧ V.cell? ⟨w.heap.size, 7, none⟩ = some (.int .i64 ro) ∧ V.cell? ⟨w.heap.size, 8, none⟩ = some (.bool ok) ∧ V.cell? ⟨w.heap.size, 9, none⟩ = some (.int .i64 off) ∧ V.cell? ⟨w.heap.size, 10, none⟩ = some (.slice da dn dc) ∧ V.cell? ⟨w.heap.size, 11, none⟩ = some (.slice ea en ec)) → Hid (HoldB w.heap.size V a n c L5) → Calls Tryz.prog 47 #[.slice a n c, .int .u64 u6] V fun e w' => (∃ a n c, e = .returned (.slice a n c) ∧ Hid (HoldB w.heap.size w' a n c L6)) ∧ (Hid (Below (w.heap.size + 1) Wa w') ∧ w'.cell? ⟨w.heap.size, 0, none⟩ = some (.int .i64 kd) ∧ w'.cell? ⟨w.heap.size, 1, none⟩ = some (.int .i64 fr) ∧ w'.cell? ⟨w.heap.size, 2, none⟩ = some (.int .i64 to) ∧ w'.cell? ⟨w.heap.size, 3, none⟩ = some (.int .i64 tm) ∧ w'.cell? ⟨w.heap.size, 4, none⟩ = some (.int .i64 ix) ∧ w'.cell? ⟨w.heap.size, 5, none⟩ = some (.int .i64 lt) ∧ w'.cell? ⟨w.heap.size, 6, none⟩ = some (.int .i64 cm) ∧ w'.cell? ⟨w.heap.size, 7, none⟩ = some (.int .i64 ro) ∧ w'.cell? ⟨w.heap.size, 8, none⟩ = some (.bool ok) ∧ w'.cell? ⟨w.heap.size, 9, none⟩ = some (.int .i64 off) ∧ w'.cell? ⟨w.heap.size, 10, none⟩ = some (.slice da dn dc) ∧ w'.cell? ⟨w.heap.size, 11, none⟩ = some (.slice ea en ec))) := fun V a n c h hh => by
    have := CU.out V a n c L5 u6 h hh hlt6 (by simp only [roomB]; omega)
    rw [← hL6] at this
    exact this
  have C7 : Hid (∀ V a n c, (Hid (Below (w.heap.size + 1) Wa V) ∧ V.cell? ⟨w.heap.size, 0, none⟩ = some (.int .i64 kd) ∧ V.cell? ⟨w.heap.size, 1, none⟩ = some (.int .i64 fr) ∧ V.cell? ⟨w.heap.size, 2, none⟩ = some (.int .i64 to) ∧ V.cell? ⟨w.heap.size, 3, none⟩ = some (.int .i64 tm) ∧ V.cell? ⟨w.heap.size, 4, none⟩ = some (.int .i64 ix) ∧ V.cell? ⟨w.heap.size, 5, none⟩ = some (.int .i64 lt) ∧ V.cell? ⟨w.heap.size, 6, none⟩ = some (.int .i64 cm) ∧ V.cell? ⟨w.heap.size, 7, none⟩ = some (.int .i64 ro) ∧ V.cell? ⟨w.heap.size, 8, none⟩ = some (.bool ok) ∧ V.cell? ⟨w.heap.size, 9, none⟩ = some (.int .i64 off) ∧ V.cell? ⟨w.heap.size, 10, none⟩ = some (.slice da dn dc) ∧ V.cell? ⟨w.heap.size, 11, none⟩ = some (.slice ea en ec)) → Hid (HoldB w.heap.size V a n c L6) → Calls Tryz.prog 47 #[.slice a n c, .int .u64 u7] V fun e w' => (∃ a n c, e = .returned (.slice a n c) ∧ Hid (HoldB w.heap.size w' a n c L7)) ∧ (Hid (Below (w.heap.size + 1) Wa w') ∧ w'.cell? ⟨w.heap.size, 0, none⟩ = some (.int .i64 kd) ∧ w'.cell? ⟨w.heap.size, 1, none⟩ = some (.int .i64 fr) ∧ w'.cell? ⟨w.heap.size, 2, none⟩ = some (.int .i64 to) ∧ w'.cell? ⟨w.heap.size, 3, none⟩ = some (.int .i64 tm) ∧ w'.cell? ⟨w.heap.size, 4, none⟩ = some (.int .i64 ix) ∧ w'.cell? ⟨w.heap.size, 5, none⟩ = some (.int .i64 lt) ∧ w'.cell? ⟨w.heap.size, 6, none⟩ = some (.int .i64 cm) ∧ w'.cell? ⟨w.heap.size, 7, none⟩ = some (.int .i64 ro) ∧ w'.cell? ⟨w.heap.size, 8, none⟩ = some (.bool ok) ∧ w'.cell? ⟨w.heap.size, 9, none⟩ = some (.int .i64 off) ∧ w'.cell? ⟨w.heap.size, 10, none⟩ = some (.slice da dn dc) ∧ w'.cell? ⟨w.heap.size, 11, none⟩ = some (.slice ea en ec))) := fun V a n c h hh => by
    have := CU.out V a n c L6 u7 h hh hlt7 (by simp only [roomB]; omega)
    rw [← hL7] at this
    exact this
  have Cb : Hid (∀ V a n c, (Hid (Below (w.heap.size + 1) Wa V) ∧ V.cell? ⟨w.heap.size, 0, none⟩ = some (.int .i64 kd) ∧ V.cell? ⟨w.heap.size, 1, none⟩ = some (.int .i64 fr) ∧ V.cell? ⟨w.heap.size, 2, none⟩ = some (.int .i64 to) ∧ V.cell? ⟨w.heap.size, 3, none⟩ = some (.int .i64 tm) ∧ V.cell? ⟨w.heap.size, 4, none⟩ = some (.int .i64 ix) ∧ V.cell? ⟨w.heap.size, 5, none⟩ = some (.int .i64 lt) ∧ V.cell? ⟨w.heap.size, 6, none⟩ = some (.int .i64 cm) ∧ V.cell? ⟨w.heap.size, 7, none⟩ = some (.int .i64 ro) ∧ V.cell? ⟨w.heap.size, 8, none⟩ = some (.bool ok) ∧ V.cell? ⟨w.heap.size, 9, none⟩ = some (.int .i64 off) ∧ V.cell? ⟨w.heap.size, 10, none⟩ = some (.slice da dn dc) ∧ V.cell? ⟨w.heap.size, 11, none⟩ = some (.slice ea en ec)) → Hid (HoldB w.heap.size V a n c L7) → Calls Tryz.prog 49 #[.slice a n c, .bool ok] V fun e w' => (∃ a n c, e = .returned (.slice a n c) ∧ Hid (HoldB w.heap.size w' a n c Lb)) ∧ (Hid (Below (w.heap.size + 1) Wa w') ∧ w'.cell? ⟨w.heap.size, 0, none⟩ = some (.int .i64 kd) ∧ w'.cell? ⟨w.heap.size, 1, none⟩ = some (.int .i64 fr) ∧ w'.cell? ⟨w.heap.size, 2, none⟩ = some (.int .i64 to) ∧ w'.cell? ⟨w.heap.size, 3, none⟩ = some (.int .i64 tm) ∧ w'.cell? ⟨w.heap.size, 4, none⟩ = some (.int .i64 ix) ∧ w'.cell? ⟨w.heap.size, 5, none⟩ = some (.int .i64 lt) ∧ w'.cell? ⟨w.heap.size, 6, none⟩ = some (.int .i64 cm) ∧ w'.cell? ⟨w.heap.size, 7, none⟩ = some (.int .i64 ro) ∧ w'.cell? ⟨w.heap.size, 8, none⟩ = some (.bool ok) ∧ w'.cell? ⟨w.heap.size, 9, none⟩ = some (.int .i64 off) ∧ w'.cell? ⟨w.heap.size, 10, none⟩ = some (.slice da dn dc) ∧ w'.cell? ⟨w.heap.size, 11, none⟩ = some (.slice ea en ec))) := fun V a n c h hh =>
    (rbool_w a n c L7 ok V hh.out.1 hh.out.2.1.isB (by have := hh.out.1; simp only [roomB]; omega)).mono fun e w' r => by
      have := res.out V w' e _ h r
      rw [hLb]
      exact this
  have Co : Hid (∀ V a n c, (Hid (Below (w.heap.size + 1) Wa V) ∧ V.cell? ⟨w.heap.size, 0, none⟩ = some (.int .i64 kd) ∧ V.cell? ⟨w.heap.size, 1, none⟩ = some (.int .i64 fr) ∧ V.cell? ⟨w.heap.size, 2, none⟩ = some (.int .i64 to) ∧ V.cell? ⟨w.heap.size, 3, none⟩ = some (.int .i64 tm) ∧ V.cell? ⟨w.heap.size, 4, none⟩ = some (.int .i64 ix) ∧ V.cell? ⟨w.heap.size, 5, none⟩ = some (.int .i64 lt) ∧ V.cell? ⟨w.heap.size, 6, none⟩ = some (.int .i64 cm) ∧ V.cell? ⟨w.heap.size, 7, none⟩ = some (.int .i64 ro) ∧ V.cell? ⟨w.heap.size, 8, none⟩ = some (.bool ok) ∧ V.cell? ⟨w.heap.size, 9, none⟩ = some (.int .i64 off) ∧ V.cell? ⟨w.heap.size, 10, none⟩ = some (.slice da dn dc) ∧ V.cell? ⟨w.heap.size, 11, none⟩ = some (.slice ea en ec)) → Hid (HoldB w.heap.size V a n c Lb) → Calls Tryz.prog 47 #[.slice a n c, .int .u64 u9] V fun e w' => (∃ a n c, e = .returned (.slice a n c) ∧ Hid (HoldB w.heap.size w' a n c Lo)) ∧ (Hid (Below (w.heap.size + 1) Wa w') ∧ w'.cell? ⟨w.heap.size, 0, none⟩ = some (.int .i64 kd) ∧ w'.cell? ⟨w.heap.size, 1, none⟩ = some (.int .i64 fr) ∧ w'.cell? ⟨w.heap.size, 2, none⟩ = some (.int .i64 to) ∧ w'.cell? ⟨w.heap.size, 3, none⟩ = some (.int .i64 tm) ∧ w'.cell? ⟨w.heap.size, 4, none⟩ = some (.int .i64 ix) ∧ w'.cell? ⟨w.heap.size, 5, none⟩ = some (.int .i64 lt) ∧ w'.cell? ⟨w.heap.size, 6, none⟩ = some (.int .i64 cm) ∧ w'.cell? ⟨w.heap.size, 7, none⟩ = some (.int .i64 ro) ∧ w'.cell? ⟨w.heap.size, 8, none⟩ = some (.bool ok) ∧ w'.cell? ⟨w.heap.size, 9, none⟩ = some (.int .i64 off) ∧ w'.cell? ⟨w.heap.size, 10, none⟩ = some (.slice da dn dc) ∧ w'.cell? ⟨w.heap.size, 11, none⟩ = some (.slice ea en ec))) := fun V a n c h hh => by
    have := CU.out V a n c Lb u9 h hh hlt9 (by simp only [roomB]; omega)
    rw [← hLo] at this
    exact this
  have Cd : Hid (∀ V a n c, (Hid (Below (w.heap.size + 1) Wa V) ∧ V.cell? ⟨w.heap.size, 0, none⟩ = some (.int .i64 kd) ∧ V.cell? ⟨w.heap.size, 1, none⟩ = some (.int .i64 fr) ∧ V.cell? ⟨w.heap.size, 2, none⟩ = some (.int .i64 to) ∧ V.cell? ⟨w.heap.size, 3, none⟩ = some (.int .i64 tm) ∧ V.cell? ⟨w.heap.size, 4, none⟩ = some (.int .i64 ix) ∧ V.cell? ⟨w.heap.size, 5, none⟩ = some (.int .i64 lt) ∧ V.cell? ⟨w.heap.size, 6, none⟩ = some (.int .i64 cm) ∧ V.cell? ⟨w.heap.size, 7, none⟩ = some (.int .i64 ro) ∧ V.cell? ⟨w.heap.size, 8, none⟩ = some (.bool ok) ∧ V.cell? ⟨w.heap.size, 9, none⟩ = some (.int .i64 off) ∧ V.cell? ⟨w.heap.size, 10, none⟩ = some (.slice da dn dc) ∧ V.cell? ⟨w.heap.size, 11, none⟩ = some (.slice ea en ec)) → Hid (HoldB w.heap.size V a n c Lo) → Calls Tryz.prog 48 #[.slice a n c, .slice da dn dc] V fun e w' => (∃ a n c, e = .returned (.slice a n c) ∧ Hid (HoldB w.heap.size w' a n c Ld)) ∧ (Hid (Below (w.heap.size + 1) Wa w') ∧ w'.cell? ⟨w.heap.size, 0, none⟩ = some (.int .i64 kd) ∧ w'.cell? ⟨w.heap.size, 1, none⟩ = some (.int .i64 fr) ∧ w'.cell? ⟨w.heap.size, 2, none⟩ = some (.int .i64 to) ∧ w'.cell? ⟨w.heap.size, 3, none⟩ = some (.int .i64 tm) ∧ w'.cell? ⟨w.heap.size, 4, none⟩ = some (.int .i64 ix) ∧ w'.cell? ⟨w.heap.size, 5, none⟩ = some (.int .i64 lt) ∧ w'.cell? ⟨w.heap.size, 6, none⟩ = some (.int .i64 cm) ∧ w'.cell? ⟨w.heap.size, 7, none⟩ = some (.int .i64 ro) ∧ w'.cell? ⟨w.heap.size, 8, none⟩ = some (.bool ok) ∧ w'.cell? ⟨w.heap.size, 9, none⟩ = some (.int .i64 off) ∧ w'.cell? ⟨w.heap.size, 10, none⟩ = some (.slice da dn dc) ∧ w'.cell? ⟨w.heap.size, 11, none⟩ = some (.slice ea en ec))) := fun V a n c h hh =>
    (rbytes_w a n c Lo da dn dc d V hh.out.1 HL.out hh.out.2.1.isB (HV.out.below (fin.out V h)) (by have := hh.out.1; have := HL.out; omega)).mono fun e w' r => by
      have := res.out V w' e _ h r
      rw [hLd, PK.bB, HL.out, ← List.append_assoc]
      exact this
  have Cn : Hid (∀ V a n c, (Hid (Below (w.heap.size + 1) Wa V) ∧ V.cell? ⟨w.heap.size, 0, none⟩ = some (.int .i64 kd) ∧ V.cell? ⟨w.heap.size, 1, none⟩ = some (.int .i64 fr) ∧ V.cell? ⟨w.heap.size, 2, none⟩ = some (.int .i64 to) ∧ V.cell? ⟨w.heap.size, 3, none⟩ = some (.int .i64 tm) ∧ V.cell? ⟨w.heap.size, 4, none⟩ = some (.int .i64 ix) ∧ V.cell? ⟨w.heap.size, 5, none⟩ = some (.int .i64 lt) ∧ V.cell? ⟨w.heap.size, 6, none⟩ = some (.int .i64 cm) ∧ V.cell? ⟨w.heap.size, 7, none⟩ = some (.int .i64 ro) ∧ V.cell? ⟨w.heap.size, 8, none⟩ = some (.bool ok) ∧ V.cell? ⟨w.heap.size, 9, none⟩ = some (.int .i64 off) ∧ V.cell? ⟨w.heap.size, 10, none⟩ = some (.slice da dn dc) ∧ V.cell? ⟨w.heap.size, 11, none⟩ = some (.slice ea en ec)) → Hid (HoldB w.heap.size V a n c Ld) → Calls Tryz.prog 47 #[.slice a n c, .int .u64 en] V fun e w' => (∃ a n c, e = .returned (.slice a n c) ∧ Hid (HoldB w.heap.size w' a n c Ln)) ∧ (Hid (Below (w.heap.size + 1) Wa w') ∧ w'.cell? ⟨w.heap.size, 0, none⟩ = some (.int .i64 kd) ∧ w'.cell? ⟨w.heap.size, 1, none⟩ = some (.int .i64 fr) ∧ w'.cell? ⟨w.heap.size, 2, none⟩ = some (.int .i64 to) ∧ w'.cell? ⟨w.heap.size, 3, none⟩ = some (.int .i64 tm) ∧ w'.cell? ⟨w.heap.size, 4, none⟩ = some (.int .i64 ix) ∧ w'.cell? ⟨w.heap.size, 5, none⟩ = some (.int .i64 lt) ∧ w'.cell? ⟨w.heap.size, 6, none⟩ = some (.int .i64 cm) ∧ w'.cell? ⟨w.heap.size, 7, none⟩ = some (.int .i64 ro) ∧ w'.cell? ⟨w.heap.size, 8, none⟩ = some (.bool ok) ∧ w'.cell? ⟨w.heap.size, 9, none⟩ = some (.int .i64 off) ∧ w'.cell? ⟨w.heap.size, 10, none⟩ = some (.slice da dn dc) ∧ w'.cell? ⟨w.heap.size, 11, none⟩ = some (.slice ea en ec))) := fun V a n c h hh => by
    have := CU.out V a n c Ld en h hh hen64 (by omega)
    rw [← hLn] at this
    exact this
  have S0 := cont.out Wa.drew (Below.refl _ _).drew
  have DrS : Hid (∀ V, (Hid (Below (w.heap.size + 1) Wa V) ∧ V.cell? ⟨w.heap.size, 0, none⟩ = some (.int .i64 kd) ∧ V.cell? ⟨w.heap.size, 1, none⟩ = some (.int .i64 fr) ∧ V.cell? ⟨w.heap.size, 2, none⟩ = some (.int .i64 to) ∧ V.cell? ⟨w.heap.size, 3, none⟩ = some (.int .i64 tm) ∧ V.cell? ⟨w.heap.size, 4, none⟩ = some (.int .i64 ix) ∧ V.cell? ⟨w.heap.size, 5, none⟩ = some (.int .i64 lt) ∧ V.cell? ⟨w.heap.size, 6, none⟩ = some (.int .i64 cm) ∧ V.cell? ⟨w.heap.size, 7, none⟩ = some (.int .i64 ro) ∧ V.cell? ⟨w.heap.size, 8, none⟩ = some (.bool ok) ∧ V.cell? ⟨w.heap.size, 9, none⟩ = some (.int .i64 off) ∧ V.cell? ⟨w.heap.size, 10, none⟩ = some (.slice da dn dc) ∧ V.cell? ⟨w.heap.size, 11, none⟩ = some (.slice ea en ec)) → (Hid (Below (w.heap.size + 1) Wa V.drew) ∧ V.drew.cell? ⟨w.heap.size, 0, none⟩ = some (.int .i64 kd) ∧ V.drew.cell? ⟨w.heap.size, 1, none⟩ = some (.int .i64 fr) ∧ V.drew.cell? ⟨w.heap.size, 2, none⟩ = some (.int .i64 to) ∧ V.drew.cell? ⟨w.heap.size, 3, none⟩ = some (.int .i64 tm) ∧ V.drew.cell? ⟨w.heap.size, 4, none⟩ = some (.int .i64 ix) ∧ V.drew.cell? ⟨w.heap.size, 5, none⟩ = some (.int .i64 lt) ∧ V.drew.cell? ⟨w.heap.size, 6, none⟩ = some (.int .i64 cm) ∧ V.drew.cell? ⟨w.heap.size, 7, none⟩ = some (.int .i64 ro) ∧ V.drew.cell? ⟨w.heap.size, 8, none⟩ = some (.bool ok) ∧ V.drew.cell? ⟨w.heap.size, 9, none⟩ = some (.int .i64 off) ∧ V.drew.cell? ⟨w.heap.size, 10, none⟩ = some (.slice da dn dc) ∧ V.drew.cell? ⟨w.heap.size, 11, none⟩ = some (.slice ea en ec))) := fun V h => step.out V V.drew h (Below.refl _ _).drew
  have DrH : Hid (∀ V a n c l, Hid (HoldB w.heap.size V a n c l) → Hid (HoldB w.heap.size V.drew a n c l)) := fun V a n c l h => Lib.hid (h.out.below (Below.refl _ _).drew)
  clear CU hv he hl hel henc hroom gA cont p0 p1 p2 p3 p4 p5 p6 p7 p8 p9 pa pb hu0 hu1 hu2 hu3 hu4 hu5 hu6 hu7 hu9 hL0 hL1 hL2 hL3 hL4 hL5 hL6 hL7 hLb hLo hLd hLn len0 len1 len2 len3 len4 len5 len6 len7 lenb leno lend lenn hlt0 hlt1 hlt2 hlt3 hlt4 hlt5 hlt6 hlt7 hlt9 hen64
  go_enter Tryz.func17, Tryz.ntmps17
  go_wp2_with fail
  rw [← hWa]
  clear hWa
  refine wp_region_noPanic ?_
  refine wp_region_held_drew (S := fun V => (Hid (Below (w.heap.size + 1) Wa V) ∧ V.cell? ⟨w.heap.size, 0, none⟩ = some (.int .i64 kd) ∧ V.cell? ⟨w.heap.size, 1, none⟩ = some (.int .i64 fr) ∧ V.cell? ⟨w.heap.size, 2, none⟩ = some (.int .i64 to) ∧ V.cell? ⟨w.heap.size, 3, none⟩ = some (.int .i64 tm) ∧ V.cell? ⟨w.heap.size, 4, none⟩ = some (.int .i64 ix) ∧ V.cell? ⟨w.heap.size, 5, none⟩ = some (.int .i64 lt) ∧ V.cell? ⟨w.heap.size, 6, none⟩ = some (.int .i64 cm) ∧ V.cell? ⟨w.heap.size, 7, none⟩ = some (.int .i64 ro) ∧ V.cell? ⟨w.heap.size, 8, none⟩ = some (.bool ok) ∧ V.cell? ⟨w.heap.size, 9, none⟩ = some (.int .i64 off) ∧ V.cell? ⟨w.heap.size, 10, none⟩ = some (.slice da dn dc) ∧ V.cell? ⟨w.heap.size, 11, none⟩ = some (.slice ea en ec))) (by kernel_rfl) S0 (fun hHeld => ?_)
  refine wpAnyH_take (i := 0) (v := ?hva0) (List.getElem?_toArray.trans rfl) (by kernel_rfl) (by kernel_rfl) (by kernel_rfl) (fun _ _ _ h => h) (Or.inl ⟨by rfl, ?hya0⟩) (by assumption) ?hra0
  case hya0 => (intro wt hSw; (try dsimp only at hSw); go_simp; try (with_reducible rfl))
  try simp only [Act.put, List.setIfInBounds_toArray, List.set_cons_zero, List.set_cons_succ]
  refine wpAnyH_take (i := 1) (v := ?hva1) (List.getElem?_toArray.trans rfl) (by kernel_rfl) (by kernel_rfl) (by kernel_rfl) (fun _ _ _ h => h) (Or.inl ⟨by rfl, ?hya1⟩) (by assumption) ?hra1
  case hya1 => (intro wt hSw; (try dsimp only at hSw); go_simp; try (with_reducible rfl))
  try simp only [Act.put, List.setIfInBounds_toArray, List.set_cons_zero, List.set_cons_succ]
  refine wpAnyH_take (i := 2) (v := ?hva2) (List.getElem?_toArray.trans rfl) (by kernel_rfl) (by kernel_rfl) (by kernel_rfl) (fun _ _ _ h => h) (Or.inl ⟨by rfl, ?hya2⟩) (by assumption) ?hra2
  case hya2 => (intro wt hSw; (try dsimp only at hSw); go_simp; try (with_reducible rfl))
  try simp only [Act.put, List.setIfInBounds_toArray, List.set_cons_zero, List.set_cons_succ]
  refine wpAnyH_take (i := 4) (v := ?hva4) (List.getElem?_toArray.trans rfl) (by kernel_rfl) (by kernel_rfl) (by kernel_rfl) (fun _ _ _ h => h) (Or.inl ⟨by rfl, ?hya4⟩) (by assumption) ?hra4
  case hya4 => (intro wt hSw; (try dsimp only at hSw); go_simp; try (with_reducible rfl))
  try simp only [Act.put, List.setIfInBounds_toArray, List.set_cons_zero, List.set_cons_succ]
  refine wpAnyH_take (i := 5) (v := ?hva5) (List.getElem?_toArray.trans rfl) (by kernel_rfl) (by kernel_rfl) (by kernel_rfl) (fun _ _ _ h => h) (Or.inl ⟨by rfl, ?hya5⟩) (by assumption) ?hra5
  case hya5 => (intro wt hSw; (try dsimp only at hSw); go_simp; try (with_reducible rfl))
  try simp only [Act.put, List.setIfInBounds_toArray, List.set_cons_zero, List.set_cons_succ]
  refine wpAnyH_take (i := 6) (v := ?hva6) (List.getElem?_toArray.trans rfl) (by kernel_rfl) (by kernel_rfl) (by kernel_rfl) (fun _ _ _ h => h) (Or.inl ⟨by rfl, ?hya6⟩) (by assumption) ?hra6
  case hya6 => (intro wt hSw; (try dsimp only at hSw); go_simp; try (with_reducible rfl))
  try simp only [Act.put, List.setIfInBounds_toArray, List.set_cons_zero, List.set_cons_succ]
  refine wpAnyH_take (i := 8) (v := ?hva8) (List.getElem?_toArray.trans rfl) (by kernel_rfl) (by kernel_rfl) (by kernel_rfl) (fun _ _ _ h => h) (Or.inl ⟨by rfl, ?hya8⟩) (by assumption) ?hra8
  case hya8 => (intro wt hSw; (try dsimp only at hSw); go_simp; try (with_reducible rfl))
  try simp only [Act.put, List.setIfInBounds_toArray, List.set_cons_zero, List.set_cons_succ]
  refine wpAnyH_take (i := 9) (v := ?hva9) (List.getElem?_toArray.trans rfl) (by kernel_rfl) (by kernel_rfl) (by kernel_rfl) (fun _ _ _ h => h) (Or.inl ⟨by rfl, ?hya9⟩) (by assumption) ?hra9
  case hya9 => (intro wt hSw; (try dsimp only at hSw); go_simp; try (with_reducible rfl))
  try simp only [Act.put, List.setIfInBounds_toArray, List.set_cons_zero, List.set_cons_succ]
  refine wpAnyH_take (i := 10) (v := ?hva10) (List.getElem?_toArray.trans rfl) (by kernel_rfl) (by kernel_rfl) (by kernel_rfl) (fun _ _ _ h => h) (Or.inl ⟨by rfl, ?hya10⟩) (by assumption) ?hra10
  case hya10 => (intro wt hSw; (try dsimp only at hSw); go_simp; try (with_reducible rfl))
  try simp only [Act.put, List.setIfInBounds_toArray, List.set_cons_zero, List.set_cons_succ]
  refine wpAnyH_take (i := 12) (v := ?hva12) (List.getElem?_toArray.trans rfl) (by kernel_rfl) (by kernel_rfl) (by kernel_rfl) (fun _ _ _ h => h) (Or.inl ⟨by rfl, ?hya12⟩) (by assumption) ?hra12
  case hya12 => (intro wt hSw; (try dsimp only at hSw); go_simp; try (with_reducible rfl))
  try simp only [Act.put, List.setIfInBounds_toArray, List.set_cons_zero, List.set_cons_succ]
  refine wpAnyH_take (i := 13) (v := ?hva13) (List.getElem?_toArray.trans rfl) (by kernel_rfl) (by kernel_rfl) (by kernel_rfl) (fun _ _ _ h => h) (Or.inl ⟨by rfl, ?hya13⟩) (by assumption) ?hra13
  case hya13 => (intro wt hSw; (try dsimp only at hSw); go_simp; try (with_reducible rfl))
  try simp only [Act.put, List.setIfInBounds_toArray, List.set_cons_zero, List.set_cons_succ]
  refine wpAnyH_take (i := 14) (v := ?hva14) (List.getElem?_toArray.trans rfl) (by kernel_rfl) (by kernel_rfl) (by kernel_rfl) (fun _ _ _ h => h) (Or.inl ⟨by rfl, ?hya14⟩) (by assumption) ?hra14
  case hya14 => (intro wt hSw; (try dsimp only at hSw); go_simp; try (with_reducible rfl))
  try simp only [Act.put, List.setIfInBounds_toArray, List.set_cons_zero, List.set_cons_succ]
  refine wpAnyH_ready (rs := [3]) (by kernel_rfl) (by simp) ?_
  refine AllReadyH.cons (List.getElem?_toArray.trans rfl) (fun K hK => ?_) AllReadyH.nil
  go_simp
  go_at_call 47
  refine (C0.out _ ?_).mono ?_
  assumption
  rintro e v0 ⟨⟨a0, n0, c0, rfl, r0⟩, k0⟩
  clear C0
  try (go_wp2_with fail)
  refine hK.out _ _ ?_ (fun hHeld => ?_)
  · (try dsimp only)
    assumption
  clear hK K
  try simp only [Act.put, List.setIfInBounds_toArray, List.set_cons_zero, List.set_cons_succ]
  refine wpAnyH_ready (rs := [7]) (by kernel_rfl) (by simp) ?_
  refine AllReadyH.cons (List.getElem?_toArray.trans rfl) (fun K hK => ?_) AllReadyH.nil
  go_simp
  go_at_call 47
  refine (C1.out _ _ _ _ ?_ r0).mono ?_
  assumption
  rintro e v1 ⟨⟨a1, n1, c1, rfl, r1⟩, k1⟩
  clear C1 r0
  try (go_wp2_with fail)
  refine hK.out _ _ ?_ (fun hHeld => ?_)
  · (try dsimp only)
    assumption
  clear hK K
  try simp only [Act.put, List.setIfInBounds_toArray, List.set_cons_zero, List.set_cons_succ]
  refine wpAnyH_ready (rs := [11]) (by kernel_rfl) (by simp) ?_
  refine AllReadyH.cons (List.getElem?_toArray.trans rfl) (fun K hK => ?_) AllReadyH.nil
  go_simp
  go_at_call 47
  refine (C2.out _ _ _ _ ?_ r1).mono ?_
  assumption
  rintro e v2 ⟨⟨a2, n2, c2, rfl, r2⟩, k2⟩
  clear C2 r1
  try (go_wp2_with fail)
  refine hK.out _ _ ?_ (fun hHeld => ?_)
  · (try dsimp only)
    assumption
  clear hK K
  try simp only [Act.put, List.setIfInBounds_toArray, List.set_cons_zero, List.set_cons_succ]
  refine wpAnyH_ready (rs := [15]) (by kernel_rfl) (by simp) ?_
  refine AllReadyH.cons (List.getElem?_toArray.trans rfl) (fun K hK => ?_) AllReadyH.nil
  go_simp
  go_at_call 47
  refine (C3.out _ _ _ _ ?_ r2).mono ?_
  assumption
  rintro e v3 ⟨⟨a3, n3, c3, rfl, r3⟩, k3⟩
  clear C3 r2
  try (go_wp2_with fail)
  refine hK.out _ _ ?_ (fun hHeld => ?_)
  · (try dsimp only)
    assumption
  clear hK K
  try simp only [Act.put, List.setIfInBounds_toArray, List.set_cons_zero, List.set_cons_succ]
  refine wpAnyH_take (i := 16) (v := ?hva16) (List.getElem?_toArray.trans rfl) (by kernel_rfl) (by kernel_rfl) (by kernel_rfl) (fun _ _ _ h => h) (Or.inl ⟨by rfl, ?hya16⟩) (by assumption) ?hra16
  case hya16 => (intro wt hSw; (try dsimp only at hSw); go_simp; try (with_reducible rfl))
  try simp only [Act.put, List.setIfInBounds_toArray, List.set_cons_zero, List.set_cons_succ]
  refine wpAnyH_done (by kernel_rfl) ?_ _
  refine NoPanic.normal ?_
  have S1 := DrS.out _ k3
  have r3 := DrH.out _ _ _ _ _ r3
  clear k0 k1 k2 k3 S0
  go_wp2_with fail
  refine wp_region_noPanic ?_
  refine wp_region_held_drew (S := fun V => (Hid (Below (w.heap.size + 1) Wa V) ∧ V.cell? ⟨w.heap.size, 0, none⟩ = some (.int .i64 kd) ∧ V.cell? ⟨w.heap.size, 1, none⟩ = some (.int .i64 fr) ∧ V.cell? ⟨w.heap.size, 2, none⟩ = some (.int .i64 to) ∧ V.cell? ⟨w.heap.size, 3, none⟩ = some (.int .i64 tm) ∧ V.cell? ⟨w.heap.size, 4, none⟩ = some (.int .i64 ix) ∧ V.cell? ⟨w.heap.size, 5, none⟩ = some (.int .i64 lt) ∧ V.cell? ⟨w.heap.size, 6, none⟩ = some (.int .i64 cm) ∧ V.cell? ⟨w.heap.size, 7, none⟩ = some (.int .i64 ro) ∧ V.cell? ⟨w.heap.size, 8, none⟩ = some (.bool ok) ∧ V.cell? ⟨w.heap.size, 9, none⟩ = some (.int .i64 off) ∧ V.cell? ⟨w.heap.size, 10, none⟩ = some (.slice da dn dc) ∧ V.cell? ⟨w.heap.size, 11, none⟩ = some (.slice ea en ec))) (by kernel_rfl) S1 (fun hHeld => ?_)
  refine wpAnyH_take (i := 0) (v := ?hvb0) (List.getElem?_toArray.trans rfl) (by kernel_rfl) (by kernel_rfl) (by kernel_rfl) (fun _ _ _ h => h) (Or.inl ⟨by rfl, ?hyb0⟩) (by assumption) ?hrb0
  case hyb0 => (intro wt hSw; (try dsimp only at hSw); go_simp; try (with_reducible rfl))
  try simp only [Act.put, List.setIfInBounds_toArray, List.set_cons_zero, List.set_cons_succ]
  refine wpAnyH_take (i := 1) (v := ?hvb1) (List.getElem?_toArray.trans rfl) (by kernel_rfl) (by kernel_rfl) (by kernel_rfl) (fun _ _ _ h => h) (Or.inl ⟨by rfl, ?hyb1⟩) (by assumption) ?hrb1
  case hyb1 => (intro wt hSw; (try dsimp only at hSw); go_simp; try (with_reducible rfl))
  try simp only [Act.put, List.setIfInBounds_toArray, List.set_cons_zero, List.set_cons_succ]
  refine wpAnyH_take (i := 2) (v := ?hvb2) (List.getElem?_toArray.trans rfl) (by kernel_rfl) (by kernel_rfl) (by kernel_rfl) (fun _ _ _ h => h) (Or.inl ⟨by rfl, ?hyb2⟩) (by assumption) ?hrb2
  case hyb2 => (intro wt hSw; (try dsimp only at hSw); go_simp; try (with_reducible rfl))
  try simp only [Act.put, List.setIfInBounds_toArray, List.set_cons_zero, List.set_cons_succ]
  refine wpAnyH_take (i := 3) (v := ?hvb3) (List.getElem?_toArray.trans rfl) (by kernel_rfl) (by kernel_rfl) (by kernel_rfl) (fun _ _ _ h => h) (Or.inl ⟨by rfl, ?hyb3⟩) (by assumption) ?hrb3
  case hyb3 => (intro wt hSw; (try dsimp only at hSw); go_simp; try (with_reducible rfl))
  try simp only [Act.put, List.setIfInBounds_toArray, List.set_cons_zero, List.set_cons_succ]
  refine wpAnyH_take (i := 5) (v := ?hvb5) (List.getElem?_toArray.trans rfl) (by kernel_rfl) (by kernel_rfl) (by kernel_rfl) (fun _ _ _ h => h) (Or.inl ⟨by rfl, ?hyb5⟩) (by assumption) ?hrb5
  case hyb5 => (intro wt hSw; (try dsimp only at hSw); go_simp; try (with_reducible rfl))
  try simp only [Act.put, List.setIfInBounds_toArray, List.set_cons_zero, List.set_cons_succ]
  refine wpAnyH_take (i := 6) (v := ?hvb6) (List.getElem?_toArray.trans rfl) (by kernel_rfl) (by kernel_rfl) (by kernel_rfl) (fun _ _ _ h => h) (Or.inl ⟨by rfl, ?hyb6⟩) (by assumption) ?hrb6
  case hyb6 => (intro wt hSw; (try dsimp only at hSw); go_simp; try (with_reducible rfl))
  try simp only [Act.put, List.setIfInBounds_toArray, List.set_cons_zero, List.set_cons_succ]
  refine wpAnyH_take (i := 7) (v := ?hvb7) (List.getElem?_toArray.trans rfl) (by kernel_rfl) (by kernel_rfl) (by kernel_rfl) (fun _ _ _ h => h) (Or.inl ⟨by rfl, ?hyb7⟩) (by assumption) ?hrb7
  case hyb7 => (intro wt hSw; (try dsimp only at hSw); go_simp; try (with_reducible rfl))
  try simp only [Act.put, List.setIfInBounds_toArray, List.set_cons_zero, List.set_cons_succ]
  refine wpAnyH_take (i := 9) (v := ?hvb9) (List.getElem?_toArray.trans rfl) (by kernel_rfl) (by kernel_rfl) (by kernel_rfl) (fun _ _ _ h => h) (Or.inl ⟨by rfl, ?hyb9⟩) (by assumption) ?hrb9
  case hyb9 => (intro wt hSw; (try dsimp only at hSw); go_simp; try (with_reducible rfl))
  try simp only [Act.put, List.setIfInBounds_toArray, List.set_cons_zero, List.set_cons_succ]
  refine wpAnyH_take (i := 10) (v := ?hvb10) (List.getElem?_toArray.trans rfl) (by kernel_rfl) (by kernel_rfl) (by kernel_rfl) (fun _ _ _ h => h) (Or.inl ⟨by rfl, ?hyb10⟩) (by assumption) ?hrb10
  case hyb10 => (intro wt hSw; (try dsimp only at hSw); go_simp; try (with_reducible rfl))
  try simp only [Act.put, List.setIfInBounds_toArray, List.set_cons_zero, List.set_cons_succ]
  refine wpAnyH_take (i := 11) (v := ?hvb11) (List.getElem?_toArray.trans rfl) (by kernel_rfl) (by kernel_rfl) (by kernel_rfl) (fun _ _ _ h => h) (Or.inl ⟨by rfl, ?hyb11⟩) (by assumption) ?hrb11
  case hyb11 => (intro wt hSw; (try dsimp only at hSw); go_simp; try (with_reducible rfl))
  try simp only [Act.put, List.setIfInBounds_toArray, List.set_cons_zero, List.set_cons_succ]
  refine wpAnyH_take (i := 13) (v := ?hvb13) (List.getElem?_toArray.trans rfl) (by kernel_rfl) (by kernel_rfl) (by kernel_rfl) (fun _ _ _ h => h) (Or.inl ⟨by rfl, ?hyb13⟩) (by assumption) ?hrb13
  case hyb13 => (intro wt hSw; (try dsimp only at hSw); go_simp; try (with_reducible rfl))
  try simp only [Act.put, List.setIfInBounds_toArray, List.set_cons_zero, List.set_cons_succ]
  refine wpAnyH_take (i := 14) (v := ?hvb14) (List.getElem?_toArray.trans rfl) (by kernel_rfl) (by kernel_rfl) (by kernel_rfl) (fun _ _ _ h => h) (Or.inl ⟨by rfl, ?hyb14⟩) (by assumption) ?hrb14
  case hyb14 => (intro wt hSw; (try dsimp only at hSw); go_simp; try (with_reducible rfl))
  try simp only [Act.put, List.setIfInBounds_toArray, List.set_cons_zero, List.set_cons_succ]
  refine wpAnyH_take (i := 15) (v := ?hvb15) (List.getElem?_toArray.trans rfl) (by kernel_rfl) (by kernel_rfl) (by kernel_rfl) (fun _ _ _ h => h) (Or.inl ⟨by rfl, ?hyb15⟩) (by assumption) ?hrb15
  case hyb15 => (intro wt hSw; (try dsimp only at hSw); go_simp; try (with_reducible rfl))
  try simp only [Act.put, List.setIfInBounds_toArray, List.set_cons_zero, List.set_cons_succ]
  refine wpAnyH_ready (rs := [4]) (by kernel_rfl) (by simp) ?_
  refine AllReadyH.cons (List.getElem?_toArray.trans rfl) (fun K hK => ?_) AllReadyH.nil
  go_simp
  go_at_call 47
  refine (C4.out _ _ _ _ ?_ r3).mono ?_
  assumption
  rintro e v4 ⟨⟨a4, n4, c4, rfl, r4⟩, k4⟩
  clear C4 r3
  try (go_wp2_with fail)
  refine hK.out _ _ ?_ (fun hHeld => ?_)
  · (try dsimp only)
    assumption
  clear hK K
  try simp only [Act.put, List.setIfInBounds_toArray, List.set_cons_zero, List.set_cons_succ]
  refine wpAnyH_ready (rs := [8]) (by kernel_rfl) (by simp) ?_
  refine AllReadyH.cons (List.getElem?_toArray.trans rfl) (fun K hK => ?_) AllReadyH.nil
  go_simp
  go_at_call 47
  refine (C5.out _ _ _ _ ?_ r4).mono ?_
  assumption
  rintro e v5 ⟨⟨a5, n5, c5, rfl, r5⟩, k5⟩
  clear C5 r4
  try (go_wp2_with fail)
  refine hK.out _ _ ?_ (fun hHeld => ?_)
  · (try dsimp only)
    assumption
  clear hK K
  try simp only [Act.put, List.setIfInBounds_toArray, List.set_cons_zero, List.set_cons_succ]
  refine wpAnyH_ready (rs := [12]) (by kernel_rfl) (by simp) ?_
  refine AllReadyH.cons (List.getElem?_toArray.trans rfl) (fun K hK => ?_) AllReadyH.nil
  go_simp
  go_at_call 47
  refine (C6.out _ _ _ _ ?_ r5).mono ?_
  assumption
  rintro e v6 ⟨⟨a6, n6, c6, rfl, r6⟩, k6⟩
  clear C6 r5
  try (go_wp2_with fail)
  refine hK.out _ _ ?_ (fun hHeld => ?_)
  · (try dsimp only)
    assumption
  clear hK K
  try simp only [Act.put, List.setIfInBounds_toArray, List.set_cons_zero, List.set_cons_succ]
  refine wpAnyH_ready (rs := [16]) (by kernel_rfl) (by simp) ?_
  refine AllReadyH.cons (List.getElem?_toArray.trans rfl) (fun K hK => ?_) AllReadyH.nil
  go_simp
  go_at_call 47
  refine (C7.out _ _ _ _ ?_ r6).mono ?_
  assumption
  rintro e v7 ⟨⟨a7, n7, c7, rfl, r7⟩, k7⟩
  clear C7 r6
  try (go_wp2_with fail)
  refine hK.out _ _ ?_ (fun hHeld => ?_)
  · (try dsimp only)
    assumption
  clear hK K
  try simp only [Act.put, List.setIfInBounds_toArray, List.set_cons_zero, List.set_cons_succ]
  refine wpAnyH_take (i := 17) (v := ?hvb17) (List.getElem?_toArray.trans rfl) (by kernel_rfl) (by kernel_rfl) (by kernel_rfl) (fun _ _ _ h => h) (Or.inl ⟨by rfl, ?hyb17⟩) (by assumption) ?hrb17
  case hyb17 => (intro wt hSw; (try dsimp only at hSw); go_simp; try (with_reducible rfl))
  try simp only [Act.put, List.setIfInBounds_toArray, List.set_cons_zero, List.set_cons_succ]
  refine wpAnyH_done (by kernel_rfl) ?_ _
  refine NoPanic.normal ?_
  have S2 := DrS.out _ k7
  have r7 := DrH.out _ _ _ _ _ r7
  clear k4 k5 k6 k7 S1
  go_wp2_with fail
  refine wp_region_noPanic ?_
  refine wp_region_held_drew (S := fun V => (Hid (Below (w.heap.size + 1) Wa V) ∧ V.cell? ⟨w.heap.size, 0, none⟩ = some (.int .i64 kd) ∧ V.cell? ⟨w.heap.size, 1, none⟩ = some (.int .i64 fr) ∧ V.cell? ⟨w.heap.size, 2, none⟩ = some (.int .i64 to) ∧ V.cell? ⟨w.heap.size, 3, none⟩ = some (.int .i64 tm) ∧ V.cell? ⟨w.heap.size, 4, none⟩ = some (.int .i64 ix) ∧ V.cell? ⟨w.heap.size, 5, none⟩ = some (.int .i64 lt) ∧ V.cell? ⟨w.heap.size, 6, none⟩ = some (.int .i64 cm) ∧ V.cell? ⟨w.heap.size, 7, none⟩ = some (.int .i64 ro) ∧ V.cell? ⟨w.heap.size, 8, none⟩ = some (.bool ok) ∧ V.cell? ⟨w.heap.size, 9, none⟩ = some (.int .i64 off) ∧ V.cell? ⟨w.heap.size, 10, none⟩ = some (.slice da dn dc) ∧ V.cell? ⟨w.heap.size, 11, none⟩ = some (.slice ea en ec))) (by kernel_rfl) S2 (fun hHeld => ?_)
  refine wpAnyH_take (i := 0) (v := ?hvc0) (List.getElem?_toArray.trans rfl) (by kernel_rfl) (by kernel_rfl) (by kernel_rfl) (fun _ _ _ h => h) (Or.inl ⟨by rfl, ?hyc0⟩) (by assumption) ?hrc0
  case hyc0 => (intro wt hSw; (try dsimp only at hSw); go_simp; try (with_reducible rfl))
  try simp only [Act.put, List.setIfInBounds_toArray, List.set_cons_zero, List.set_cons_succ]
  refine wpAnyH_take (i := 1) (v := ?hvc1) (List.getElem?_toArray.trans rfl) (by kernel_rfl) (by kernel_rfl) (by kernel_rfl) (fun _ _ _ h => h) (Or.inl ⟨by rfl, ?hyc1⟩) (by assumption) ?hrc1
  case hyc1 => (intro wt hSw; (try dsimp only at hSw); go_simp; try (with_reducible rfl))
  try simp only [Act.put, List.setIfInBounds_toArray, List.set_cons_zero, List.set_cons_succ]
  refine wpAnyH_take (i := 2) (v := ?hvc2) (List.getElem?_toArray.trans rfl) (by kernel_rfl) (by kernel_rfl) (by kernel_rfl) (fun _ _ _ h => h) (Or.inl ⟨by rfl, ?hyc2⟩) (by assumption) ?hrc2
  case hyc2 => (intro wt hSw; (try dsimp only at hSw); go_simp; try (with_reducible rfl))
  try simp only [Act.put, List.setIfInBounds_toArray, List.set_cons_zero, List.set_cons_succ]
  refine wpAnyH_take (i := 4) (v := ?hvc4) (List.getElem?_toArray.trans rfl) (by kernel_rfl) (by kernel_rfl) (by kernel_rfl) (fun _ _ _ h => h) (Or.inl ⟨by rfl, ?hyc4⟩) (by assumption) ?hrc4
  case hyc4 => (intro wt hSw; (try dsimp only at hSw); go_simp; try (with_reducible rfl))
  try simp only [Act.put, List.setIfInBounds_toArray, List.set_cons_zero, List.set_cons_succ]
  refine wpAnyH_take (i := 5) (v := ?hvc5) (List.getElem?_toArray.trans rfl) (by kernel_rfl) (by kernel_rfl) (by kernel_rfl) (fun _ _ _ h => h) (Or.inl ⟨by rfl, ?hyc5⟩) (by assumption) ?hrc5
  case hyc5 => (intro wt hSw; (try dsimp only at hSw); go_simp; try (with_reducible rfl))
  try simp only [Act.put, List.setIfInBounds_toArray, List.set_cons_zero, List.set_cons_succ]
  refine wpAnyH_take (i := 6) (v := ?hvc6) (List.getElem?_toArray.trans rfl) (by kernel_rfl) (by kernel_rfl) (by kernel_rfl) (fun _ _ _ h => h) (Or.inl ⟨by rfl, ?hyc6⟩) (by assumption) ?hrc6
  case hyc6 => (intro wt hSw; (try dsimp only at hSw); go_simp; try (with_reducible rfl))
  try simp only [Act.put, List.setIfInBounds_toArray, List.set_cons_zero, List.set_cons_succ]
  refine wpAnyH_take (i := 8) (v := ?hvc8) (List.getElem?_toArray.trans rfl) (by kernel_rfl) (by kernel_rfl) (by kernel_rfl) (fun _ _ _ h => h) (Or.inl ⟨by rfl, ?hyc8⟩) (by assumption) ?hrc8
  case hyc8 => (intro wt hSw; (try dsimp only at hSw); go_simp; try (with_reducible rfl))
  try simp only [Act.put, List.setIfInBounds_toArray, List.set_cons_zero, List.set_cons_succ]
  refine wpAnyH_take (i := 9) (v := ?hvc9) (List.getElem?_toArray.trans rfl) (by kernel_rfl) (by kernel_rfl) (by kernel_rfl) (fun _ _ _ h => h) (Or.inl ⟨by rfl, ?hyc9⟩) (by assumption) ?hrc9
  case hyc9 => (intro wt hSw; (try dsimp only at hSw); go_simp; try (with_reducible rfl))
  try simp only [Act.put, List.setIfInBounds_toArray, List.set_cons_zero, List.set_cons_succ]
  refine wpAnyH_ready (rs := [3]) (by kernel_rfl) (by simp) ?_
  refine AllReadyH.cons (List.getElem?_toArray.trans rfl) (fun K hK => ?_) AllReadyH.nil
  go_simp
  go_at_call 49
  refine (Cb.out _ _ _ _ ?_ r7).mono ?_
  assumption
  rintro e vb ⟨⟨ab, nb, cb, rfl, rb⟩, kb⟩
  clear Cb r7
  try (go_wp2_with fail)
  refine hK.out _ _ ?_ (fun hHeld => ?_)
  · (try dsimp only)
    assumption
  clear hK K
  try simp only [Act.put, List.setIfInBounds_toArray, List.set_cons_zero, List.set_cons_succ]
  refine wpAnyH_ready (rs := [7]) (by kernel_rfl) (by simp) ?_
  refine AllReadyH.cons (List.getElem?_toArray.trans rfl) (fun K hK => ?_) AllReadyH.nil
  go_simp
  go_at_call 47
  refine (Co.out _ _ _ _ ?_ rb).mono ?_
  assumption
  rintro e vo ⟨⟨ao, no, co, rfl, ro⟩, ko⟩
  clear Co rb
  try (go_wp2_with fail)
  refine hK.out _ _ ?_ (fun hHeld => ?_)
  · (try dsimp only)
    assumption
  clear hK K
  try simp only [Act.put, List.setIfInBounds_toArray, List.set_cons_zero, List.set_cons_succ]
  refine wpAnyH_ready (rs := [10]) (by kernel_rfl) (by simp) ?_
  refine AllReadyH.cons (List.getElem?_toArray.trans rfl) (fun K hK => ?_) AllReadyH.nil
  go_simp
  go_at_call 48
  refine (Cd.out _ _ _ _ ?_ ro).mono ?_
  assumption
  rintro e vd ⟨⟨ad, nd, cd, rfl, rd⟩, kdd⟩
  clear Cd ro
  try (go_wp2_with fail)
  refine hK.out _ _ ?_ (fun hHeld => ?_)
  · (try dsimp only)
    assumption
  clear hK K
  try simp only [Act.put, List.setIfInBounds_toArray, List.set_cons_zero, List.set_cons_succ]
  refine wpAnyH_take (i := 11) (v := ?hvc11) (List.getElem?_toArray.trans rfl) (by kernel_rfl) (by kernel_rfl) (by kernel_rfl) (fun _ _ _ h => h) (Or.inl ⟨by rfl, ?hyc11⟩) (by assumption) ?hrc11
  case hyc11 => (intro wt hSw; (try dsimp only at hSw); go_simp; try (with_reducible rfl))
  try simp only [Act.put, List.setIfInBounds_toArray, List.set_cons_zero, List.set_cons_succ]
  refine wpAnyH_done (by kernel_rfl) ?_ _
  refine NoPanic.normal ?_
  obtain ⟨hFd, q0, q1, q2, q3, q4, q5, q6, q7, q8, q9, qa, qb⟩ := id kdd
  go_wp2_with fail
  refine (Cn.out _ _ _ _ ?_ rd).mono ?_
  assumption
  rintro e vn ⟨⟨an, nn, cn, rfl, rn⟩, kn⟩
  clear Cn rd kb ko hFd q0 q1 q2 q3 q4 q5 q6 q7 q8 q9 qa qb S2
  go_wp2_with fail
  go_loopw [3, 4] (fun v3 v4 V => ∃ (k : Nat) (a' : Option Addr) (n' c' : Nat), k ≤ en ∧ v4 = .int .i64 k ∧ v3 = .slice a' n' c' ∧ Hid (HoldB w.heap.size V a' n' c' (Ln ++ PK.encEs ((es.take k).map RE.ent))) ∧ Hid ((Hid (Below (w.heap.size + 1) Wa V) ∧ V.cell? ⟨w.heap.size, 0, none⟩ = some (.int .i64 kd) ∧ V.cell? ⟨w.heap.size, 1, none⟩ = some (.int .i64 fr) ∧ V.cell? ⟨w.heap.size, 2, none⟩ = some (.int .i64 to) ∧ V.cell? ⟨w.heap.size, 3, none⟩ = some (.int .i64 tm) ∧ V.cell? ⟨w.heap.size, 4, none⟩ = some (.int .i64 ix) ∧ V.cell? ⟨w.heap.size, 5, none⟩ = some (.int .i64 lt) ∧ V.cell? ⟨w.heap.size, 6, none⟩ = some (.int .i64 cm) ∧ V.cell? ⟨w.heap.size, 7, none⟩ = some (.int .i64 ro) ∧ V.cell? ⟨w.heap.size, 8, none⟩ = some (.bool ok) ∧ V.cell? ⟨w.heap.size, 9, none⟩ = some (.int .i64 off) ∧ V.cell? ⟨w.heap.size, 10, none⟩ = some (.slice da dn dc) ∧ V.cell? ⟨w.heap.size, 11, none⟩ = some (.slice ea en ec)))) (fun _ v4 _ => en - (intOf v4).toNat)
  case atStart => exact ⟨0, an, nn, cn, Nat.zero_le _, rfl, rfl, Lib.hid (by simpa [PK.encEs] using rn.out), Lib.hid kn⟩
  case round =>
    obtain ⟨k, a', n', c', hk, rfl, rfl, X1, K1⟩ := hrel
    obtain ⟨_, q0, q1, q2, q3, q4, q5, q6, q7, q8, q9, qa, qb⟩ := K1.out
    clear q0 q1 q2 q3 q4 q5 q6 q7 q8 q9 qa rn kn
    by_cases hlt : k < en
    · have hkl : k < es.length := by rw [HEL.out]; exact hlt
      obtain ⟨x, hx⟩ : ∃ x, es[k]? = some x := ⟨_, List.getElem?_eq_getElem hkl⟩
      obtain ⟨⟨b, o, rfl, c0, c1, c2, c3⟩, hf⟩ := (HES.out.below (fin.out wr K1.out)).at k x hx
      have henc := encEs_take hx
      have hle := encEs_take_le es (k + 1)
      rw [henc, List.length_append, bB_len_eq] at hle
      have hge := encE_ge x.ent
      have hrm := HR.out
      have hdl : x.d.length ≤ (PK.encE x.ent).length := hge
      have r1 : x.d.length + 400 ≤ roomB := by omega
      have hnl := X1.out.1
      rw [List.length_append] at hnl
      have r2 : n' + (PK.encE x.ent).length + 100 ≤ roomB := by omega
      have hnext : Ln ++ PK.encEs ((es.take (k + 1)).map RE.ent) = Ln ++ PK.encEs ((es.take k).map RE.ent) ++ PK.bB (PK.encE x.ent) := by rw [henc, List.append_assoc]
      have HEn := Lib.hid (rencE_any x.ent x.a x.n x.c wr hf.bytes r1)
      have Hnext := Lib.hid hnext
      have R2 := Lib.hid r2
      generalize PK.encE x.ent = E at *
      generalize Ln ++ PK.encEs ((es.take k).map RE.ent) = Lk at *
      simp only [RE.ent] at HEn
      generalize x.i = xi at *
      generalize x.t = xt at *
      generalize x.k = xk at *
      generalize x.a = xa at *
      generalize x.n = xn at *
      generalize x.c = xc at *
      clear hx hf henc hle hge hrm hdl r1 r2 hnext hkl hnl
      go_wp2_with fail
      refine HEn.out.mono ?_
      rintro e V2 ⟨⟨a5, n5, c5, rfl, hn5, o5, _⟩, b5⟩
      have HC := Lib.hid (rbytes_w a' n' c' Lk a5 n5 c5 E V2 X1.out.1 hn5 (X1.out.below b5).2.1.isB o5.isB (by have := R2.out; omega))
      have K2 := Lib.hid (step.out wr V2 K1.out b5)
      have HN5 := Lib.hid hn5
      clear o5 hn5 b5 HEn X1 K1 c0 c1 c2 c3 qb
      go_wp2_with fail
      refine HC.out.mono ?_
      rintro e V3 hr
      obtain ⟨⟨a6, n6, c6, rfl, r6⟩, k6⟩ := res.out V2 V3 e _ K2.out hr
      have X6 : Hid (HoldB w.heap.size V3 a6 n6 c6 (Ln ++ PK.encEs ((es.take (k + 1)).map RE.ent))) := Lib.hid (by rw [Hnext.out, PK.bB, HN5.out, ← List.append_assoc]; exact r6.out)
      have K6 := Lib.hid k6
      clear hr HC K2 r6 k6
      go_wp2
      exact ⟨⟨k + 1, a6, n6, c6, hlt, by simp, rfl, X6, K6⟩, by simp [intOf]; omega⟩
    · obtain rfl : k = en := by omega
      have X7 : Hid (HoldB w.heap.size wr a' n' c' (Ln ++ PK.encEs (es.map RE.ent))) := Lib.hid (by have := X1.out; rwa [List.take_of_length_le (by rw [HEL.out]; exact Nat.le_refl _)] at this)
      have B7 := Lib.hid (fin.out wr K1.out)
      clear X1 K1
      go_wp2
      go_ret
      exact ⟨⟨a', n', c', rfl, X7.out⟩, B7.out⟩
end Go.Proofs.YtbgockggbpmhnaaGreatDoor

namespace Go.Proofs.YtbgockggbpmhnaaGreatDoor
open Go Go.RowKit
theorem encEs_short : ∀ (l : List RE), (∀ x ∈ l, x.d.length ≤ 30000) → (PK.encEs (l.map RE.ent)).length ≤ 30200 * l.length
  | [], _ => by simp [PK.encEs]
  | x :: r, h => by
    have h0 := h x (by simp)
    have h1 := PK.encE_len x.ent (by show x.d.length < _; omega)
    have h2 := PK.bB_len (PK.encE x.ent) (by have : x.ent.d.length = x.d.length := rfl; omega)
    have h3 := encEs_short r (fun y hy => h y (by simp [hy]))
    have h4 : x.ent.d.length = x.d.length := rfl
    simp only [List.map_cons, PK.encEs, List.length_append, List.length_cons]
    omega
theorem short_room {w : World} {x : RM} (hf : x.Fit w) (h : x.long = false) : (PK.encM x.msg).length + 1000 ≤ roomB ∧ x.en ≤ 1000 := by
  unfold RM.long at h
  rw [Bool.or_eq_false_iff] at h
  have h1 := of_decide_eq_false h.1
  obtain ⟨h2, h3⟩ := longE_no h.2
  have h4 := encEs_short x.es (fun y hy => by
    obtain ⟨i, hi⟩ := List.mem_iff_getElem?.1 hy
    have := (hf.ents.at i y hi).2.len
    have := h3 y hy
    omega)
  have h5 := hf.len
  have h6 := hf.ents.len.1
  have h7 := PK.encM_len x.msg (by show x.d.length < _; omega) (by show (x.es.map RE.ent).length < _; rw [List.length_map]; omega)
  have h8 : x.msg.d.length = x.d.length := rfl
  have h9 : x.msg.es = x.es.map RE.ent := rfl
  rw [h9] at h7
  refine ⟨by simp only [roomB]; omega, by omega⟩
end Go.Proofs.YtbgockggbpmhnaaGreatDoor
