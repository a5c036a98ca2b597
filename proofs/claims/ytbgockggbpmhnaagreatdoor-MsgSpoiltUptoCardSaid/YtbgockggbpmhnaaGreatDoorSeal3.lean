/-
  Open of the program and of the document, by contracts.
  Conditions: what is opened reads as bytes and is at most 2^47 long.
-/
import Derived.Test.YtbgockggbpmhnaaGreatDoorSeal2
namespace Go.Proofs.YtbgockggbpmhnaaGreatDoor
open Go Go.RowKit

/-- What Open hands back. -/
def OpenR (er : Nat → Value) (w w' : World) (e : Ending) (l : List UInt8) : Prop :=
  ((PK.openE l ≠ 0 ∧ e = .returned (.tuple #[.int .u8 0, .slice none 0 0, er (PK.openE l)])) ∨ (PK.openE l = 0 ∧ ∃ a n c, e = .returned (.tuple #[.int .u8 (at8 l 0), .slice a n c, er 0]) ∧ (PK.openD l).length = n ∧ IsB w' (.slice a n c) (PK.openD l))) ∧ Below w.heap.size w w'
theorem eq_four (a b c d e f g h : Int) (W : World) : (Op.equalIn 10000 137 (.agg #[.int .u8 a, .int .u8 b, .int .u8 c, .int .u8 d]) (.agg #[.int .u8 e, .int .u8 f, .int .u8 g, .int .u8 h])).run Tryz.prog W = .ok (a == e && (b == f && (c == g && d == h))) W := by
  have hu : Tryz.prog.underlying 137 = some (.array 4 5) := Tryz.underlying137
  obtain ⟨i, hi, _⟩ := T22.parts
  have hc : Tryz.prog.cellsOf 5 = 1 := by kernel_rfl
  rw [run_equalIn_array W 9999 _ _ hu hi, hc]
  have hr : List.range 4 = [0, 1, 2, 3] := rfl
  have h8 : Tryz.prog.underlying 5 = some (.int .u8) := Tryz.underlying5
  rw [hr]
  have he : ∀ x y, (Op.equalIn 9999 5 (.int .u8 x) (.int .u8 y)).run Tryz.prog W = .ok (x == y) W := fun x y => run_equalIn_int W 9998 5 .u8 .u8 x y h8
  have hp : ∀ (x0 x1 x2 x3 : Int), (part 5 #[.int .u8 x0, .int .u8 x1, .int .u8 x2, .int .u8 x3] 0).run Tryz.prog W = .ok (.int .u8 x0) W ∧ (part 5 #[.int .u8 x0, .int .u8 x1, .int .u8 x2, .int .u8 x3] 1).run Tryz.prog W = .ok (.int .u8 x1) W ∧ (part 5 #[.int .u8 x0, .int .u8 x1, .int .u8 x2, .int .u8 x3] 2).run Tryz.prog W = .ok (.int .u8 x2) W ∧ (part 5 #[.int .u8 x0, .int .u8 x1, .int .u8 x2, .int .u8 x3] 3).run Tryz.prog W = .ok (.int .u8 x3) W := by
    intro x0 x1 x2 x3
    simp [part]
  obtain ⟨p0, p1, p2, p3⟩ := hp a b c d
  obtain ⟨q0, q1, q2, q3⟩ := hp e f g h
  simp only [Op.eqItems, Sem.run_bind, Nat.mul_one, p0, q0, he, Result.andThen_ok]
  cases h1 : a == e <;> cases h2 : b == f <;> cases h3 : c == g <;> cases h4 : d == h <;> simp [p1, p2, p3, q1, q2, q3, he, h2, h3, h4]
theorem tail_eq (s : Nat) (t : List UInt8) (ht : t.length = 4) : (at8 (PK.tailP s) 0 == at8 t 0 && (at8 (PK.tailP s) 1 == at8 t 1 && (at8 (PK.tailP s) 2 == at8 t 2 && at8 (PK.tailP s) 3 == at8 t 3))) = decide (PK.tailP s = t) := by
  match t, ht with
  | [a, b, c, d], _ =>
    have key : ∀ (x y : UInt8), ((x.toNat : Int) == (y.toNat : Int)) = decide (x = y) := by
      intro x y
      by_cases h : x = y
      · subst h; simp
      · rw [decide_eq_false h, beq_eq_false_iff_ne]
        exact fun e => h (at8_inj e)
    show ((((UInt8.ofNat (s % 256)).toNat : Int) == (a.toNat : Int)) && ((((UInt8.ofNat (s / 256 % 256)).toNat : Int) == (b.toNat : Int)) && ((((UInt8.ofNat (s / 65536 % 256)).toNat : Int) == (c.toNat : Int)) && (((UInt8.ofNat (s / 16777216 % 256)).toNat : Int) == (d.toNat : Int))))) = _
    rw [key, key, key, key]
    simp [PK.tailP]

set_option maxRecDepth 100000 in
set_option maxHeartbeats 4000000 in
theorem sopen_any (a : Option Addr) (n c : Nat) (l : List UInt8) (w : World) (hl : l.length = n) (hv : IsB w (.slice a n c) l) (hl47 : l.length ≤ roomB) :
    Calls Tryz.prog 54 #[.slice a n c] w fun e w' => OpenR errV w w' e l := by
  have hw : IntKind.i64.wrap ((n : Int) - 4) = (n : Int) - 4 := by simp only [roomB] at hl47; rw [IntKind.wrap_i64]; omega
  by_cases h5 : n < 5
  · have h : (n : Int) - 4 < 1 := by omega
    have he : PK.openE l = 12 := by unfold PK.openE; rw [if_pos (by omega)]
    have HR : Hid (OpenR errV w w (.returned (.tuple #[.int .u8 0, .slice none 0 0, .iface 60 (.int .i64 12)])) l) := Lib.hid ⟨.inl ⟨by rw [he]; decide, by rw [he]; rfl⟩, Below.refl _ _⟩
    clear h5 hl hv hl47 he
    go_enter Tryz.func54, Tryz.ntmps54
    go_wp2
    go_ret3
    exact HR.out
  · have h : ¬ ((n : Int) - 4 < 1) := by omega
    obtain ⟨m, rfl⟩ : ∃ m, n = m + 4 := ⟨n - 4, by omega⟩
    obtain ⟨b, o, rfl, hc0⟩ := hv.at hl 0 (by omega)
    have hcap : m + 4 ≤ c := by obtain ⟨_, cap', he', h1, _⟩ := hv; simp at he'; omega
    have hm4 : ((m + 4 : Nat) : Int) - 4 = (m : Int) := by omega
    have hm1 : ¬ m = 0 := by omega
    have h1 : ∀ W : World, (Instr.sliceAt 22 (.slice (some ⟨b, o, none⟩) (m + 4) c) none (some (.int .i64 (((m + 4 : Nat) : Int) - 4))) none).run Tryz.prog W = .ok (.slice (some ⟨b, o, none⟩) m c) W := by
      intro W
      rw [hm4, run_sliceAt_h T22 (some ⟨b, o, none⟩) (m + 4) c (m : Int) (by omega) (by omega) W]
      congr 2
      unfold cutAt
      split <;> simp [Addr.add]
    have h2 : ∀ W : World, (Instr.sliceAt 22 (.slice (some ⟨b, o, none⟩) (m + 4) c) (some (.int .i64 (((m + 4 : Nat) : Int) - 4))) none none).run Tryz.prog W = .ok (.slice (some ⟨b, o + m, none⟩) 4 (c - m)) W := by
      intro W
      rw [hm4, run_sliceAt_l T22 (some ⟨b, o, none⟩) (m + 4) c (m : Int) (by omega) (by omega) W]
      have e1 : (m : Int).toNat = m := by omega
      rw [e1]
      have e2 : cutAt (some ⟨b, o, none⟩) m c = some ⟨b, o + m, none⟩ := by unfold cutAt; rw [if_neg (by omega)]; simp [Addr.add, hm1]
      rw [e2]
      congr 2
      omega
    have h3 : ∀ W : World, (Instr.arrayAt 137 (.slice (some ⟨b, o + m, none⟩) 4 (c - m))).run Tryz.prog W = .ok (.pointer (some ⟨b, o + m, none⟩)) W := fun W => run_arrayAt W 137 _ 4 _ 4 (c - m) Tryz.underlying137 (Nat.le_refl _)
    have h4 : ∀ W : World, (Instr.sliceAt 22 (.slice (some ⟨b, o, none⟩) (m + 4) c) (some (.int .i64 1)) (some (.int .i64 (((m + 4 : Nat) : Int) - 4))) none).run Tryz.prog W = .ok (.slice (some ⟨b, o + 1, none⟩) (m - 1) (c - 1)) W := by
      intro W
      rw [hm4, run_sliceAt_lh T22 (some ⟨b, o, none⟩) (m + 4) c 1 (m : Int) (by omega) (by omega) (by omega) W]
      have e2 : cutAt (some ⟨b, o, none⟩) 1 c = some ⟨b, o + 1, none⟩ := by unfold cutAt; rw [if_neg (by omega)]; simp [Addr.add]
      have e1 : (m : Int).toNat = m := by omega
      rw [show (1 : Int).toNat = 1 from rfl, e1, e2]
    have Hrest : Hid (IsB w (.slice (some ⟨b, o, none⟩) m c) (l.take m) ∧ IsB w (.slice (some ⟨b, o + 1, none⟩) (m - 1) (c - 1)) (PK.openD l) ∧ (PK.openD l).length = m - 1) := by
      have i1 := (isB_cut hv 0 m (by omega) (by omega)).1
      have i2 := (isB_cut hv 1 m (by omega) (by omega)).1
      have c1 : cutAt (some ⟨b, o, none⟩) 0 c = some ⟨b, o, none⟩ := by unfold cutAt; split <;> simp [Addr.add]
      have c2 : cutAt (some ⟨b, o, none⟩) 1 c = some ⟨b, o + 1, none⟩ := by unfold cutAt; rw [if_neg (by omega)]; simp [Addr.add]
      rw [c1] at i1
      rw [c2] at i2
      have e : PK.openD l = (l.take m).drop 1 := by unfold PK.openD; rw [hl]; rfl
      rw [e]
      exact ⟨i1, i2, by simp; omega⟩
    have hcells : ∀ j, j < 4 → w.cell? ⟨b, o + m + j, none⟩ = some (.int .u8 (at8 (l.drop m) j)) := by
      intro j hj
      obtain ⟨b', o', e, h⟩ := hv.at hl (m + j) (by omega)
      simp only [Option.some.injEq, Addr.mk.injEq] at e
      obtain ⟨rfl, rfl, _⟩ := e
      rw [Nat.add_assoc, h, at8_drop]; rfl
    have d0 : w.cell? ⟨b, o + m, none⟩ = some (.int .u8 (at8 (l.drop m) 0)) := hcells 0 (by omega)
    have d1 := hcells 1 (by omega)
    have d2 := hcells 2 (by omega)
    have d3 := hcells 3 (by omega)
    have hf0 : w.cell? ⟨b, o, none⟩ = some (.int .u8 (at8 l 0)) := hc0
    have hopen : PK.openE l = if PK.tailP (PK.crcP (l.take m)) ≠ l.drop m then 11 else if at8 l 0 = 0 then 1 else if 1048577 < m then 2 else 0 := by
      unfold PK.openE
      rw [hl, if_neg h5, show m + 4 - 4 = m from rfl]
      have e0 : (l.head? = some 0) ↔ at8 l 0 = 0 := by
        cases l with
        | nil => simp at hl
        | cons x r =>
          simp only [List.head?_cons, Option.some.injEq]
          exact ⟨fun e => by rw [e]; rfl, fun e => at8_inj e⟩
      simp only [e0]
    have Hopen := Lib.hid hopen
    have Htail := Lib.hid (tail_eq (PK.crcP (l.take m)) (l.drop m) (by simp; omega))
    have hltm : (l.take m).length = m := by simp; omega
    have hm47 : m - 1 ≤ roomB := by omega
    have Hltm := Lib.hid hltm
    have Hm47 := Lib.hid hm47
    have Hm63 : ((m : Int)) ≤ 9223372036854775807 := by simp only [roomB] at hl47; omega
    have Hbl : Hid (b < w.heap.size) := World.block_lt_of_cell? _ _ hf0
    rw [hm4] at hw h
    simp only [hm4] at h1 h2 h4
    have HSum := Lib.hid (fun (W : World) (hb : Below w.heap.size w W) => sum_any (some ⟨b, o, none⟩) m c (l.take m) W Hltm.out (Hrest.out.1.below hb))
    have HFour := Lib.hid (fun (W : World) => four_any (PK.crcP (l.take m)) W (PK.crcP_lt _))
    have Heq := fun (W : World) => eq_four (at8 (PK.tailP (PK.crcP (l.take m))) 0) (at8 (PK.tailP (PK.crcP (l.take m))) 1) (at8 (PK.tailP (PK.crcP (l.take m))) 2) (at8 (PK.tailP (PK.crcP (l.take m))) 3) (at8 (l.drop m) 0) (at8 (l.drop m) 1) (at8 (l.drop m) 2) (at8 (l.drop m) 3) W
    simp only [Htail.out] at Heq
    have HClone := Lib.hid (fun (W : World) (hb : Below w.heap.size w W) => clone_any _ _ W (Hrest.out.2.1.below hb) (by rw [Hrest.out.2.2]; exact Hm47.out))
    generalize hoe : PK.openE l = oe at *
    generalize hod : PK.openD l = od at *
    generalize hT : PK.tailP (PK.crcP (l.take m)) = T at *
    generalize hD : l.drop m = D at *
    generalize hA : at8 l 0 = A0 at *
    have Hlen := Lib.hid Hrest.out.2.2
    unfold four at HFour
    generalize PK.crcP (l.take m) = s at *
    generalize l.take m = lm at *
    clear hv hl47 hl h5 hcap hm1 hc0 hcells hopen Htail hltm hm47 Hrest Hltm Hm47 hT hD
    generalize hx0 : at8 T 0 = t0 at *
    generalize hx1 : at8 T 1 = t1 at *
    generalize hx2 : at8 T 2 = t2 at *
    generalize hx3 : at8 T 3 = t3 at *
    generalize hy0 : at8 D 0 = y0 at *
    generalize hy1 : at8 D 1 = y1 at *
    generalize hy2 : at8 D 2 = y2 at *
    generalize hy3 : at8 D 3 = y3 at *
    clear hx0 hx1 hx2 hx3 hy0 hy1 hy2 hy3
    generalize hb : decide (T = D) = bb at *
    have hcont : Hid (∀ W, Below w.heap.size w W → (Hid (Below w.heap.size w W) ∧ W.cell? ⟨b, o + m, none⟩ = some (.int .u8 y0) ∧ W.cell? ⟨b, o + m + 1, none⟩ = some (.int .u8 y1) ∧ W.cell? ⟨b, o + m + 2, none⟩ = some (.int .u8 y2) ∧ W.cell? ⟨b, o + m + 3, none⟩ = some (.int .u8 y3) ∧ W.cell? ⟨b, o, none⟩ = some (.int .u8 A0))) := by
      intro W hW
      have hk := hW.block b Hbl.out
      exact ⟨Lib.hid hW, (World.cell?_of_block hk).trans d0, (World.cell?_of_block hk).trans d1, (World.cell?_of_block hk).trans d2, (World.cell?_of_block hk).trans d3, (World.cell?_of_block hk).trans hf0⟩
    have CS : Hid (∀ W, (Hid (Below w.heap.size w W) ∧ W.cell? ⟨b, o + m, none⟩ = some (.int .u8 y0) ∧ W.cell? ⟨b, o + m + 1, none⟩ = some (.int .u8 y1) ∧ W.cell? ⟨b, o + m + 2, none⟩ = some (.int .u8 y2) ∧ W.cell? ⟨b, o + m + 3, none⟩ = some (.int .u8 y3) ∧ W.cell? ⟨b, o, none⟩ = some (.int .u8 A0)) → Calls Tryz.prog 80 #[.slice (some ⟨b, o, none⟩) m c] W fun e w' => e = .returned (.int .u32 s) ∧ (Hid (Below w.heap.size w w') ∧ w'.cell? ⟨b, o + m, none⟩ = some (.int .u8 y0) ∧ w'.cell? ⟨b, o + m + 1, none⟩ = some (.int .u8 y1) ∧ w'.cell? ⟨b, o + m + 2, none⟩ = some (.int .u8 y2) ∧ w'.cell? ⟨b, o + m + 3, none⟩ = some (.int .u8 y3) ∧ w'.cell? ⟨b, o, none⟩ = some (.int .u8 A0))) := fun W h => (HSum.out W h.1.out).mono fun e w' ⟨e1, e2⟩ => ⟨e1, e2 ▸ h⟩
    have CF : Hid (∀ W, (Hid (Below w.heap.size w W) ∧ W.cell? ⟨b, o + m, none⟩ = some (.int .u8 y0) ∧ W.cell? ⟨b, o + m + 1, none⟩ = some (.int .u8 y1) ∧ W.cell? ⟨b, o + m + 2, none⟩ = some (.int .u8 y2) ∧ W.cell? ⟨b, o + m + 3, none⟩ = some (.int .u8 y3) ∧ W.cell? ⟨b, o, none⟩ = some (.int .u8 A0)) → Calls Tryz.prog 79 #[.int .u32 s] W fun e w' => e = .returned (.agg #[.int .u8 t0, .int .u8 t1, .int .u8 t2, .int .u8 t3]) ∧ (Hid (Below w.heap.size w w') ∧ w'.cell? ⟨b, o + m, none⟩ = some (.int .u8 y0) ∧ w'.cell? ⟨b, o + m + 1, none⟩ = some (.int .u8 y1) ∧ w'.cell? ⟨b, o + m + 2, none⟩ = some (.int .u8 y2) ∧ w'.cell? ⟨b, o + m + 3, none⟩ = some (.int .u8 y3) ∧ w'.cell? ⟨b, o, none⟩ = some (.int .u8 A0))) := fun W h => (HFour.out W).mono fun e w' ⟨e1, e2⟩ => ⟨e1, hcont.out w' (h.1.out.trans (e2.mono h.1.out.size))⟩
    have CC : Hid (∀ W, (Hid (Below w.heap.size w W) ∧ W.cell? ⟨b, o + m, none⟩ = some (.int .u8 y0) ∧ W.cell? ⟨b, o + m + 1, none⟩ = some (.int .u8 y1) ∧ W.cell? ⟨b, o + m + 2, none⟩ = some (.int .u8 y2) ∧ W.cell? ⟨b, o + m + 3, none⟩ = some (.int .u8 y3) ∧ W.cell? ⟨b, o, none⟩ = some (.int .u8 A0)) → Calls Tryz.prog 72 #[.slice (some ⟨b, o + 1, none⟩) (m - 1) (c - 1)] W fun e w' => (∃ a' c', e = .returned (.slice a' (m - 1) c') ∧ Hid (IsB w' (.slice a' (m - 1) c') od)) ∧ (Hid (Below w.heap.size w w') ∧ w'.cell? ⟨b, o + m, none⟩ = some (.int .u8 y0) ∧ w'.cell? ⟨b, o + m + 1, none⟩ = some (.int .u8 y1) ∧ w'.cell? ⟨b, o + m + 2, none⟩ = some (.int .u8 y2) ∧ w'.cell? ⟨b, o + m + 3, none⟩ = some (.int .u8 y3) ∧ w'.cell? ⟨b, o, none⟩ = some (.int .u8 A0))) := fun W h => (HClone.out W h.1.out).mono fun e w' ⟨⟨a', c', e1, e2, _⟩, e3⟩ => by
      rw [Hlen.out] at e1 e2
      exact ⟨⟨a', c', e1, Lib.hid e2.isB⟩, hcont.out w' (h.1.out.trans (e3.mono h.1.out.size))⟩
    have S0 := hcont.out w.drew (Below.refl _ _).drew
    clear HSum HFour HClone
    have hi1 : (0 : Int) < ((m + 4 : Nat) : Int) := by omega
    have hi2 : (0 : Int) < (m : Int) + 4 := by omega
    have HDw : Hid (∀ W, (Hid (Below w.heap.size w W) ∧ W.cell? ⟨b, o + m, none⟩ = some (.int .u8 y0) ∧ W.cell? ⟨b, o + m + 1, none⟩ = some (.int .u8 y1) ∧ W.cell? ⟨b, o + m + 2, none⟩ = some (.int .u8 y2) ∧ W.cell? ⟨b, o + m + 3, none⟩ = some (.int .u8 y3) ∧ W.cell? ⟨b, o, none⟩ = some (.int .u8 A0)) → (Hid (Below w.heap.size w W.drew) ∧ W.drew.cell? ⟨b, o + m, none⟩ = some (.int .u8 y0) ∧ W.drew.cell? ⟨b, o + m + 1, none⟩ = some (.int .u8 y1) ∧ W.drew.cell? ⟨b, o + m + 2, none⟩ = some (.int .u8 y2) ∧ W.drew.cell? ⟨b, o + m + 3, none⟩ = some (.int .u8 y3) ∧ W.drew.cell? ⟨b, o, none⟩ = some (.int .u8 A0))) := Lib.hid (fun W h => hcont.out W.drew h.1.out.drew)
    clear hf0 d0 d1 d2 d3 hcont Hbl
    by_cases hTD : T = D
    · have hbb : bb = true := by rw [← hb]; exact decide_eq_true hTD
      subst hbb
      by_cases hA0 : A0 = 0
      · have he : oe = 1 := by rw [Hopen.out, if_neg (by simpa using hTD), if_pos hA0]
        have HR : Hid (∀ W, (Hid (Below w.heap.size w W) ∧ W.cell? ⟨b, o + m, none⟩ = some (.int .u8 y0) ∧ W.cell? ⟨b, o + m + 1, none⟩ = some (.int .u8 y1) ∧ W.cell? ⟨b, o + m + 2, none⟩ = some (.int .u8 y2) ∧ W.cell? ⟨b, o + m + 3, none⟩ = some (.int .u8 y3) ∧ W.cell? ⟨b, o, none⟩ = some (.int .u8 A0)) → OpenR errV w W (.returned (.tuple #[.int .u8 0, .slice none 0 0, .iface 60 (.int .i64 1)])) l) := Lib.hid (fun W h => ⟨.inl ⟨by rw [hoe, he]; decide, by rw [hoe, he]; rfl⟩, h.1.out⟩)
        clear CC Hopen h4 hTD hb he
        have hA1 : (A0 == 0) = true := by simp [hA0]
        go_enter Tryz.func54, Tryz.ntmps54
        go_wp2
        go_region_held3 (fun W => (Hid (Below w.heap.size w W) ∧ W.cell? ⟨b, o + m, none⟩ = some (.int .u8 y0) ∧ W.cell? ⟨b, o + m + 1, none⟩ = some (.int .u8 y1) ∧ W.cell? ⟨b, o + m + 2, none⟩ = some (.int .u8 y2) ∧ W.cell? ⟨b, o + m + 3, none⟩ = some (.int .u8 y3) ∧ W.cell? ⟨b, o, none⟩ = some (.int .u8 A0))) (assumption)
          (first
            | (go_at_call 80; refine (CS.out _ ?_).mono ?_; assumption; rintro e w' ⟨rfl, k1⟩)
            | (go_at_call 79; refine (CF.out _ ?_).mono ?_; assumption; rintro e w' ⟨rfl, k2⟩))
        all_goals go_wp2
        all_goals go_ret3
        all_goals exact HR.out _ (by assumption)
      · have hA1 : ¬ (A0 = 0) := hA0
        by_cases hbig : 1048577 < m
        · have hb2 : (1048576 : Int) < (m : Int) - 1 := by omega
          have hw2 : IntKind.i64.wrap ((m : Int) - 1) = (m : Int) - 1 := by rw [IntKind.wrap_i64]; omega
          have he : oe = 2 := by rw [Hopen.out, if_neg (by simpa using hTD), if_neg hA0, if_pos hbig]
          have HR : Hid (∀ W, (Hid (Below w.heap.size w W) ∧ W.cell? ⟨b, o + m, none⟩ = some (.int .u8 y0) ∧ W.cell? ⟨b, o + m + 1, none⟩ = some (.int .u8 y1) ∧ W.cell? ⟨b, o + m + 2, none⟩ = some (.int .u8 y2) ∧ W.cell? ⟨b, o + m + 3, none⟩ = some (.int .u8 y3) ∧ W.cell? ⟨b, o, none⟩ = some (.int .u8 A0)) → OpenR errV w W (.returned (.tuple #[.int .u8 0, .slice none 0 0, .iface 60 (.int .i64 2)])) l) := Lib.hid (fun W h => ⟨.inl ⟨by rw [hoe, he]; decide, by rw [hoe, he]; rfl⟩, h.1.out⟩)
          clear CC Hopen h4 hTD hb he hbig
          go_enter Tryz.func54, Tryz.ntmps54
          go_wp2
          go_region_held3 (fun W => (Hid (Below w.heap.size w W) ∧ W.cell? ⟨b, o + m, none⟩ = some (.int .u8 y0) ∧ W.cell? ⟨b, o + m + 1, none⟩ = some (.int .u8 y1) ∧ W.cell? ⟨b, o + m + 2, none⟩ = some (.int .u8 y2) ∧ W.cell? ⟨b, o + m + 3, none⟩ = some (.int .u8 y3) ∧ W.cell? ⟨b, o, none⟩ = some (.int .u8 A0))) (assumption)
            (first
              | (go_at_call 80; refine (CS.out _ ?_).mono ?_; assumption; rintro e w' ⟨rfl, k1⟩)
              | (go_at_call 79; refine (CF.out _ ?_).mono ?_; assumption; rintro e w' ⟨rfl, k2⟩))
          all_goals go_wp2
          all_goals go_ret3
          all_goals exact HR.out _ (by assumption)
        · have hb2 : ¬ ((1048576 : Int) < (m : Int) - 1) := by omega
          have hw2 : IntKind.i64.wrap ((m : Int) - 1) = (m : Int) - 1 := by rw [IntKind.wrap_i64]; omega
          have he : oe = 0 := by rw [Hopen.out, if_neg (by simpa using hTD), if_neg hA0, if_neg hbig]
          have HR : Hid (∀ W a' c', Hid (IsB W (.slice a' (m - 1) c') od) → (Hid (Below w.heap.size w W) ∧ W.cell? ⟨b, o + m, none⟩ = some (.int .u8 y0) ∧ W.cell? ⟨b, o + m + 1, none⟩ = some (.int .u8 y1) ∧ W.cell? ⟨b, o + m + 2, none⟩ = some (.int .u8 y2) ∧ W.cell? ⟨b, o + m + 3, none⟩ = some (.int .u8 y3) ∧ W.cell? ⟨b, o, none⟩ = some (.int .u8 A0)) → OpenR errV w W (.returned (.tuple #[.int .u8 A0, .slice a' (m - 1) c', .nilIface])) l) := Lib.hid (fun W a' c' h0 h => ⟨.inr ⟨by rw [hoe, he], a', _, c', by rw [hA]; rfl, by rw [hod]; exact Hlen.out, by rw [hod]; exact h0.out⟩, h.1.out⟩)
          clear Hopen hTD hb he hbig
          go_enter Tryz.func54, Tryz.ntmps54
          go_wp2
          go_region_held3 (fun W => (Hid (Below w.heap.size w W) ∧ W.cell? ⟨b, o + m, none⟩ = some (.int .u8 y0) ∧ W.cell? ⟨b, o + m + 1, none⟩ = some (.int .u8 y1) ∧ W.cell? ⟨b, o + m + 2, none⟩ = some (.int .u8 y2) ∧ W.cell? ⟨b, o + m + 3, none⟩ = some (.int .u8 y3) ∧ W.cell? ⟨b, o, none⟩ = some (.int .u8 A0))) (assumption)
            (first
              | (go_at_call 80; refine (CS.out _ ?_).mono ?_; assumption; rintro e w' ⟨rfl, k1⟩)
              | (go_at_call 79; refine (CF.out _ ?_).mono ?_; assumption; rintro e w' ⟨rfl, k2⟩))
          all_goals go_wp2
          all_goals (have S1 := HDw.out _ (by assumption))
          all_goals (go_region_held3 (fun W => (Hid (Below w.heap.size w W) ∧ W.cell? ⟨b, o + m, none⟩ = some (.int .u8 y0) ∧ W.cell? ⟨b, o + m + 1, none⟩ = some (.int .u8 y1) ∧ W.cell? ⟨b, o + m + 2, none⟩ = some (.int .u8 y2) ∧ W.cell? ⟨b, o + m + 3, none⟩ = some (.int .u8 y3) ∧ W.cell? ⟨b, o, none⟩ = some (.int .u8 A0))) (assumption)
            (first
              | (go_at_call 72; refine (CC.out _ ?_).mono ?_; assumption; rintro e w2 ⟨⟨a2, c2, rfl, k4⟩, k3⟩)))
          all_goals go_wp2
          all_goals go_ret3
          all_goals exact HR.out _ _ _ (by assumption) (by assumption)
    · have hbb : bb = false := by rw [← hb]; exact decide_eq_false hTD
      subst hbb
      have he : oe = 11 := by rw [Hopen.out, if_pos hTD]
      have HR : Hid (∀ W, (Hid (Below w.heap.size w W) ∧ W.cell? ⟨b, o + m, none⟩ = some (.int .u8 y0) ∧ W.cell? ⟨b, o + m + 1, none⟩ = some (.int .u8 y1) ∧ W.cell? ⟨b, o + m + 2, none⟩ = some (.int .u8 y2) ∧ W.cell? ⟨b, o + m + 3, none⟩ = some (.int .u8 y3) ∧ W.cell? ⟨b, o, none⟩ = some (.int .u8 A0)) → OpenR errV w W (.returned (.tuple #[.int .u8 0, .slice none 0 0, .iface 60 (.int .i64 11)])) l) := Lib.hid (fun W h => ⟨.inl ⟨by rw [hoe, he]; decide, by rw [hoe, he]; rfl⟩, h.1.out⟩)
      clear CC Hopen h4 hTD hb he
      go_enter Tryz.func54, Tryz.ntmps54
      go_wp2
      go_region_held3 (fun W => (Hid (Below w.heap.size w W) ∧ W.cell? ⟨b, o + m, none⟩ = some (.int .u8 y0) ∧ W.cell? ⟨b, o + m + 1, none⟩ = some (.int .u8 y1) ∧ W.cell? ⟨b, o + m + 2, none⟩ = some (.int .u8 y2) ∧ W.cell? ⟨b, o + m + 3, none⟩ = some (.int .u8 y3) ∧ W.cell? ⟨b, o, none⟩ = some (.int .u8 A0))) (assumption)
        (first
          | (go_at_call 80; refine (CS.out _ ?_).mono ?_; assumption; rintro e w' ⟨rfl, k1⟩)
          | (go_at_call 79; refine (CF.out _ ?_).mono ?_; assumption; rintro e w' ⟨rfl, k2⟩))
      all_goals go_wp2
      all_goals go_ret3
      all_goals exact HR.out _ (by assumption)
end Go.Proofs.YtbgockggbpmhnaaGreatDoor
