/-
  The program's answers and replies off bytes: order.amount, order.DecodeAnswer, session.DecodeReply.
  Conditions: the listed variables read as listed ('Env'); the bytes read as such and are at most 2^47 many.
  The program's map of sessions (keys: integers): what the operations on it give, over lists.
  Conditions: keys of 64 bits.
-/
import Derived.Test.YtkanjdijmdjbaaaGreatDoorG14
import Derived.Test.YtkanjdijmdjbaaaGreatDoorG18
import Derived.Test.YtkanjdijmdjbaaaGreatDoorRd5
import Derived.Test.YtkanjdijmdjbaaaGreatDoorG12
import Derived.Test.YtkanjdijmdjbaaaGreatDoorG7
import Derived.Maps.Keyed
namespace Go.Proofs.YtkanjdijmdjbaaaGreatDoor
open Go Go.RowKit

def vAn (x : QT.An) : Value := .agg #[.int .i64 x.er, .complex .f64 (FL.fB x.u1) (FL.fB x.u2), .complex .f64 (FL.fB x.t1) (FL.fB x.t2)]
def vRp (x : QT.Rp) : Value := .agg #[.int .i64 x.er, .int .i64 x.se, .int .i64 x.an.er, .complex .f64 (FL.fB x.an.u1) (FL.fB x.an.u2), .complex .f64 (FL.fB x.an.t1) (FL.fB x.an.t2)]
/-- What DecodeAnswer, DecodeReply answer. -/
def EAn : Option QT.An → Ending
  | some x => .returned (.tuple #[vAn x, .nilIface])
  | none => .returned (.tuple #[vAn QT.an0, .iface 78 (.int .i64 3)])
def ERp : Option QT.Rp → Ending
  | some x => .returned (.tuple #[vRp x, .nilIface])
  | none => .returned (.tuple #[vRp QT.rp0, .iface 78 (.int .i64 3)])
theorem QT.int_rest (l : List UInt8) (k : Nat) : (PK.intP l k).2.1.length ≤ l.length := by
  unfold PK.intP
  split
  · exact Nat.le_refl _
  · split
    · split
      · exact Nat.le_refl _
      · split
        · exact Nat.le_refl _
        · simp
    · split
      · exact Nat.le_refl _
      · simp
theorem QT.runG (lc : UInt8) (m : Int) (l : List UInt8) (k : Nat) : (PK.runP lc m l k).2.1.length ≤ l.length ∧ (PK.runP lc m l k).1.length ≤ l.length := by
  unfold PK.runP
  split
  · exact ⟨Nat.le_refl _, Nat.zero_le _⟩
  · split
    · exact ⟨Nat.le_refl _, Nat.zero_le _⟩
    · split
      · exact ⟨Nat.le_refl _, Nat.zero_le _⟩
      · split
        · exact ⟨Nat.le_refl _, Nat.zero_le _⟩
        · simp only [List.length_drop, List.length_take]
          omega
theorem doneP_bad {l : List UInt8} {k : Nat} (h : ¬ (k = 0 ∧ l = [])) : ∃ d, PK.doneP l k = d + 1 := by
  unfold PK.doneP
  split
  · exact ⟨2, rfl⟩
  · rename_i h'
    cases k with
    | zero => exact (h' ⟨rfl, fun e => h ⟨rfl, e⟩⟩).elim
    | succ k => exact ⟨k, rfl⟩
theorem fr3s (w : World) (M : Nat) (y0 y1 y2 : Value) : Fr (fun j => j = M) w (((w.setCell ⟨M, 0, none⟩ y0).setCell ⟨M, 1, none⟩ y1).setCell ⟨M, 2, none⟩ y2) :=
  ((Fr.setCell (X := fun j => j = M) (Fr.refl _ _) (fun _ => rfl) _).trans (Fr.setCell (X := fun j => j = M) (Fr.refl _ _) (fun _ => rfl) _)).trans (Fr.setCell (X := fun j => j = M) (Fr.refl _ _) (fun _ => rfl) _)
theorem stored3s {w : World} {M : Nat} {x0 x1 x2 : Value} {t : TypeId} (h : w.heap[M]? = some (.cells #[x0, x1, x2] t)) (y0 y1 y2 : Value) :
    (((w.setCell ⟨M, 0, none⟩ y0).setCell ⟨M, 1, none⟩ y1).setCell ⟨M, 2, none⟩ y2).heap[M]? = some (.cells #[y0, y1, y2] t) := by
  simp only [World.setCell, Array.getElem?_modify, if_true, h, Option.map_some]
  simp
theorem belowSet {w V V' : World} {B : Nat} (h : Below w.heap.size w V) (f : Fr (fun j => j = B) V V') (hB : w.heap.size ≤ B) : Below w.heap.size w V' :=
  h.trans ⟨f.os, f.tape, f.output, f.size, fun q hq => f.block q (Nat.lt_of_lt_of_le hq h.size) (by omega)⟩
set_option maxRecDepth 100000 in
set_option maxHeartbeats 2000000 in
/-- An amount off what is read. -/
theorem oamount_any (M : Nat) (l l1 l2 : List UInt8) (k k1 k2 x y : Nat) (w : World) (hE : Env w) (h : Rd w M l k) (h1 : PK.uintP QT.cap l k = (x, l1, k1)) (h2 : PK.uintP QT.cap l1 k1 = (y, l2, k2)) :
    Calls Tryz.prog 104 #[.pointer (some ⟨M, 0, none⟩)] w fun e w' => e = .returned (.complex .f64 (FL.fB x) (FL.fB y)) ∧ Rd w' M l2 k2 ∧ Fr (fun j => j = M) w w' := by
  have hg := h.glob
  have C1 := Lib.hid (uint_any M QT.cap l k w hE h)
  rw [h1] at C1
  have C2 : Hid (∀ V, Fr (fun j => j = M) w V → Rd V M l1 k1 → Calls Tryz.prog 19 #[.pointer (some ⟨M, 0, none⟩), .int .u64 (QT.cap : Nat)] V fun e w' => e = .returned (.int .u64 y) ∧ Rd w' M l2 k2 ∧ Fr (fun j => j = M) V w') := Lib.hid (fun V f r => by
    have := uint_any M QT.cap l1 k1 V (hE.kept f (fun k hk e => by omega)) r
    rw [h2] at this
    exact this)
  have cx : floatOfInt .f64 (x : Int) = FL.fB x := rfl
  have cy : floatOfInt .f64 (y : Int) = FL.fB y := rfl
  clear h hg hE h1 h2
  rw [show (QT.cap : Int) = 1099511627776 from rfl] at C1 C2
  go_enter Tryz.func104, Tryz.ntmps104
  go_wp2_with fail
  refine C1.out.mono ?_
  rintro e v1 ⟨rfl, r1, f1⟩
  have C3 := Lib.hid (C2.out v1 f1 r1)
  have F1 := Lib.hid f1
  clear C1 C2 r1 f1
  go_wp2_with fail
  refine C3.out.mono ?_
  rintro e v2 ⟨rfl, r2, f2⟩
  have R2 := Lib.hid r2
  have F2 := Lib.hid (F1.out.trans f2)
  clear C3 r2 f2
  go_wp2
  go_ret
  exact ⟨rfl, R2.out, F2.out⟩
set_option maxRecDepth 100000 in
set_option maxHeartbeats 4000000 in
/-- The answer of bytes. -/
theorem danswer_any (a : Option Addr) (n c : Nat) (l : List UInt8) (w : World) (hE : Env w) (hn : l.length = n) (hv : IsB w (.slice a n c) l) :
    Calls Tryz.prog 57 #[.slice a n c] w fun e w' => e = EAn (QT.decAn l) ∧ Below w.heap.size w w' := by
  subst hn
  have hstc := @run_store_complex Tryz.prog
  obtain ⟨e0, l1, k1, h1⟩ : ∃ v l' k', PK.intP l 0 = (v, l', k') := ⟨_, _, _, rfl⟩
  obtain ⟨n1, l2, k2, h2⟩ : ∃ v l' k', PK.uintP QT.cap l1 k1 = (v, l', k') := ⟨_, _, _, rfl⟩
  obtain ⟨n2, l3, k3, h3⟩ : ∃ v l' k', PK.uintP QT.cap l2 k2 = (v, l', k') := ⟨_, _, _, rfl⟩
  obtain ⟨n3, l4, k4, h4⟩ : ∃ v l' k', PK.uintP QT.cap l3 k3 = (v, l', k') := ⟨_, _, _, rfl⟩
  obtain ⟨n4, l5, k5, h5⟩ : ∃ v l' k', PK.uintP QT.cap l4 k4 = (v, l', k') := ⟨_, _, _, rfl⟩
  have hdec : QT.decAn l = if k5 = 0 ∧ l5 = [] then some ⟨e0, n1, n2, n3, n4⟩ else none := by
    unfold QT.decAn
    rw [QT.readAn_at h1 h2 h3 h4 h5]
  obtain ⟨W0, hW0⟩ : ∃ W, W = w.alloc (.cells #[.int .i64 0, .complex .f64 0 0, .complex .f64 0 0] 45) := ⟨_, rfl⟩
  obtain ⟨B, hB⟩ : ∃ B, B = w.heap.size := ⟨_, rfl⟩
  have b0 : Below w.heap.size w W0 := by rw [hW0]; exact (Below.refl _ _).alloc (Nat.le_refl _) _
  have g0 : W0.heap[B]? = some (.cells #[.int .i64 0, .complex .f64 0 0, .complex .f64 0 0] 45) := by rw [hW0, hB]; exact heap_alloc_new _ _
  have hBlt : B < W0.heap.size := (Array.getElem?_eq_some_iff.1 g0).1
  obtain ⟨RM, hRM⟩ : ∃ B, B = W0.heap.size := ⟨_, rfl⟩
  have hRd := Lib.hid (read_any a c l W0 (hE.below b0) (hv.below b0))
  rw [← hRM] at hRd
  have hEg := hE.big
  have HEn := Lib.hid (fun (V : World) (b : Below w.heap.size w V) => hE.wr b hEg)
  have step : Hid (∀ V V', (Below w.heap.size w V ∧ V.heap[B]? = some (.cells #[.int .i64 0, .complex .f64 0 0, .complex .f64 0 0] 45)) → Fr (fun j => j = RM) V V' → (Below w.heap.size w V' ∧ V'.heap[B]? = some (.cells #[.int .i64 0, .complex .f64 0 0, .complex .f64 0 0] 45))) := Lib.hid (fun V V' h f => ⟨belowSet h.1 f (by omega), f.heap h.2 (by omega)⟩)
  have st0 : Hid (∀ V, Below RM W0 V → (Below w.heap.size w V ∧ V.heap[B]? = some (.cells #[.int .i64 0, .complex .f64 0 0, .complex .f64 0 0] 45))) := Lib.hid (fun V b => ⟨b0.trans (b.mono (by omega)), (b.block B (by omega)).trans g0⟩)
  have HW0 := Lib.hid hW0.symm
  have HB := Lib.hid hB.symm
  have Hdec := Lib.hid hdec
  have H1 := Lib.hid h1
  have H2 := Lib.hid h2
  have H3 := Lib.hid h3
  have H4 := Lib.hid h4
  have H5 := Lib.hid h5
  have hlB : Hid (w.heap.size ≤ B) := Lib.hid (by omega)
  clear hW0 hB b0 g0 hBlt hRM hdec h1 h2 h3 h4 h5 hE hv hEg
  go_enter Tryz.func57, Tryz.ntmps57
  go_wp2_with fail
  rw [HW0.out, HB.out]
  clear HW0 HB
  refine hRd.out.mono ?_
  rintro e v1 ⟨rfl, r1, b1⟩
  have S1 := Lib.hid (st0.out v1 b1)
  have C1 := Lib.hid (int_any RM l 0 v1 (HEn.out v1 S1.out.1) r1)
  rw [H1.out] at C1
  clear hRd st0 r1 b1
  go_wp2_with fail
  refine C1.out.mono ?_
  rintro e v2 ⟨rfl, r2, f2⟩
  have S2 := Lib.hid (step.out v1 v2 S1.out f2)
  have C2 := Lib.hid (oamount_any RM l1 l2 l3 k1 k2 k3 n1 n2 v2 (HEn.out v2 S2.out.1) r2 H2.out H3.out)
  clear C1 S1 r2 f2
  go_wp2_with fail
  refine C2.out.mono ?_
  rintro e v3 ⟨rfl, r3, f3⟩
  have S3 := Lib.hid (step.out v2 v3 S2.out f3)
  have C3 := Lib.hid (oamount_any RM l3 l4 l5 k3 k4 k5 n3 n4 v3 (HEn.out v3 S3.out.1) r3 H4.out H5.out)
  clear C2 S2 r3 f3
  go_wp2_with fail
  refine C3.out.mono ?_
  rintro e v4 ⟨rfl, r4, f4⟩
  have S4 := step.out v3 v4 S3.out f4
  obtain ⟨w5, hw5⟩ : ∃ W, W = v4.alloc (.cells #[.int .i64 e0, .complex .f64 (FL.fB n1) (FL.fB n2), .complex .f64 (FL.fB n3) (FL.fB n4)] 45) := ⟨_, rfl⟩
  obtain ⟨B5, hB5⟩ : ∃ B, B = v4.heap.size := ⟨_, rfl⟩
  have b45 : Below v4.heap.size v4 w5 := by rw [hw5]; exact (Below.refl _ _).alloc (Nat.le_refl _) _
  have g5 : w5.heap[B5]? = some (.cells #[.int .i64 e0, .complex .f64 (FL.fB n1) (FL.fB n2), .complex .f64 (FL.fB n3) (FL.fB n4)] 45) := by rw [hw5, hB5]; exact heap_alloc_new _ _
  have r5 := r4.below' b45
  have gB5 := (b45.block B (Array.getElem?_eq_some_iff.1 S4.2).1).trans S4.2
  have B05 := Lib.hid (S4.1.trans (b45.mono S4.1.size))
  have C4 := Lib.hid (done_any RM l5 k5 w5 r5)
  obtain ⟨⟨x0, x1, x2⟩, _⟩ := cells3f g5
  obtain ⟨⟨y0, y1, y2⟩, q0, q1, q2⟩ := cells3f gB5
  have GB5 := Lib.hid gB5
  have HW5 := Lib.hid hw5.symm
  have HB5 := Lib.hid hB5.symm
  clear hw5 hB5 b45 g5 r5 gB5 S4 C3 S3 r4 f4 step
  go_wp2_with fail
  rw [HW5.out, HB5.out]
  clear HW5 HB5
  refine C4.out.mono ?_
  rintro e v5 ⟨rfl, rfl⟩
  clear C4
  by_cases hz : k5 = 0 ∧ l5 = []
  · obtain ⟨rfl, rfl⟩ := hz
    have hd := Hdec.out
    rw [if_pos ⟨rfl, rfl⟩] at hd
    obtain ⟨w6, hw6⟩ : ∃ W, W = (((w5.setCell ⟨B, 0, none⟩ (.int .i64 e0)).setCell ⟨B, 1, none⟩ (.complex .f64 (FL.fB n1) (FL.fB n2))).setCell ⟨B, 2, none⟩ (.complex .f64 (FL.fB n3) (FL.fB n4))) := ⟨_, rfl⟩
    have g6 : w6.heap[B]? = some (.cells #[.int .i64 e0, .complex .f64 (FL.fB n1) (FL.fB n2), .complex .f64 (FL.fB n3) (FL.fB n4)] 45) := by rw [hw6]; exact stored3s GB5.out _ _ _
    have b6 : Below w.heap.size w w6 := by rw [hw6]; exact belowSet B05.out (fr3s w5 B _ _ _) hlB.out
    have EW := Lib.hid (cells3f g6).1
    have Fin : Hid ((Ending.returned (.tuple #[.agg #[.int .i64 e0, .complex .f64 (FL.fB n1) (FL.fB n2), .complex .f64 (FL.fB n3) (FL.fB n4)], .nilIface])) = EAn (QT.decAn l) ∧ Below w.heap.size w w6) := Lib.hid ⟨by rw [hd]; rfl, b6⟩
    have HW6 := Lib.hid hw6.symm
    rw [PK.doneP_zero]
    unfold errV
    clear hd hw6 g6 b6 Hdec
    go_wp2_with (rw [HW6.out]; obtain ⟨e0', e1, e2⟩ := EW.out; refine bodyPost_ret (v := .tuple #[.agg #[.int .i64 e0, .complex .f64 (FL.fB n1) (FL.fB n2), .complex .f64 (FL.fB n3) (FL.fB n4)], .nilIface]) (by simp [results, Tryz.results57, go_sem, e0', e1, e2]) rfl ?_; exact Fin.out)
  · have hd := Hdec.out
    rw [if_neg hz] at hd
    obtain ⟨d, hdn⟩ := doneP_bad hz
    obtain ⟨w6, hw6⟩ : ∃ W, W = (((w5.setCell ⟨B, 0, none⟩ (.int .i64 0)).setCell ⟨B, 1, none⟩ (.complex .f64 0 0)).setCell ⟨B, 2, none⟩ (.complex .f64 0 0)) := ⟨_, rfl⟩
    have g6 : w6.heap[B]? = some (.cells #[.int .i64 0, .complex .f64 0 0, .complex .f64 0 0] 45) := by rw [hw6]; exact stored3s GB5.out _ _ _
    have b6 : Below w.heap.size w w6 := by rw [hw6]; exact belowSet B05.out (fr3s w5 B _ _ _) hlB.out
    have EW := Lib.hid (cells3f g6).1
    have Fin : Hid ((Ending.returned (.tuple #[.agg #[.int .i64 0, .complex .f64 0 0, .complex .f64 0 0], .iface 78 (.int .i64 3)])) = EAn (QT.decAn l) ∧ Below w.heap.size w w6) := Lib.hid ⟨by rw [hd, EAn, vAn, QT.an0, fB_zero], b6⟩
    have HW6 := Lib.hid hw6.symm
    rw [hdn]
    unfold errV
    clear hd hw6 g6 b6 Hdec hz hdn
    go_wp2_with (rw [HW6.out]; obtain ⟨e0', e1, e2⟩ := EW.out; refine bodyPost_ret (v := .tuple #[.agg #[.int .i64 0, .complex .f64 0 0, .complex .f64 0 0], .iface 78 (.int .i64 3)]) (by simp [results, Tryz.results57, go_sem, e0', e1, e2]) rfl ?_; exact Fin.out)
end Go.Proofs.YtkanjdijmdjbaaaGreatDoor

namespace Go.Proofs.YtkanjdijmdjbaaaGreatDoor
open Go Go.RowKit Go.Maps

def zSn : Value := .agg #[.int .i64 0, .int .i64 0, .int .i64 0, .int .i64 0, .complex .f64 0 0, .complex .f64 0 0]
/-- What a session asked for last, as a value. -/
def vSn (x : QT.Sn) : Value := .agg #[.int .i64 (x.sq : Nat), .int .i64 x.rp.er, .int .i64 x.rp.se, .int .i64 x.rp.an.er, .complex .f64 (FL.fB x.rp.an.u1) (FL.fB x.rp.an.u2), .complex .f64 (FL.fB x.rp.an.t1) (FL.fB x.rp.an.t2)]
theorem zSn_val : zSn = vSn ⟨0, 0, QT.rp0⟩ := by
  simp only [zSn, vSn, QT.rp0, QT.an0, fB_zero]
  rfl
theorem KI : Tryz.prog.underlying 3 = some (.int .i64) := Tryz.underlying3
theorem KKI : Keyed Tryz.prog 3 := int_keyed KI
theorem zeroSn (w : World) : (zeroValue 76).run Tryz.prog w = .ok zSn w := by
  simp [zeroValue, zSn, Tryz.t76]
theorem wfI (s : Nat) (h : s ≤ 1099511627776) : (Lit.int .i64 (s : Nat)).wf = true := by
  have h1 : IntKind.i64.min = -9223372036854775808 := by decide
  have h2 : IntKind.i64.max = 9223372036854775807 := by decide
  simp only [Lit.wf, h1, h2, Bool.and_eq_true, decide_eq_true_eq]
  omega
theorem keyI (s : Nat) (h : s ≤ 1099511627776) : keyOf Tryz.prog 3 (.int .i64 (s : Nat)) = some (.int .i64 (s : Nat)) := keyOf_int_mk KI (wfI s h)
section
variable {w w' : World} {b n : Nat} {N : List QT.Sn} {ok : Bool} {y : QT.Sn}
def QT.fnI (N : List QT.Sn) (s : Nat) : Option QT.Sn := N.find? fun x => x.n == s
theorem QT.fnI_snoc_same {x : QT.Sn} (h : QT.fnI N x.n = none) : QT.fnI (N ++ [x]) x.n = some x := by
  unfold QT.fnI at *
  rw [List.find?_append, h]
  simp
def QT.fnZ (N : List QT.Sn) (s : Int) : Option QT.Sn := N.find? fun x => (x.n : Int) == s
theorem QT.fnZ_nat (N : List QT.Sn) (s : Nat) : QT.fnZ N (s : Nat) = QT.fnI N s := by
  unfold QT.fnZ QT.fnI
  have : (fun x : QT.Sn => ((x.n : Int) == (s : Int))) = fun x => x.n == s := by
    funext x
    by_cases h : x.n = s
    · rw [h, beq_self_eq_true, beq_self_eq_true]
    · rw [beq_eq_false_iff_ne.2 h, beq_eq_false_iff_ne.2 (fun e => h (by omega))]
  rw [this]
theorem QT.fnZ_snoc_other {x : QT.Sn} {s : Int} (h : (x.n : Int) ≠ s) : QT.fnZ (N ++ [x]) s = QT.fnZ N s := by
  unfold QT.fnZ
  rw [List.find?_append]
  simp [h]
def ReadsI (D : DataW Value) (N : List QT.Sn) : Prop :=
  (∀ (s : Int) z, D.atKey (.int .i64 s) z = ((QT.fnZ N s).map fun x => DataW.held (vSn x)).getD z) ∧ Maps.size D = N.length
/-- BLOCK b IS A MAP OF AT MOST n ENTRIES; where all is right ('ok') it holds the list's. -/
def MapI (ok : Bool) (w : World) (b n : Nat) (N : List QT.Sn) : Prop :=
  ∃ D : DataW Value, w.ownsMap Tryz.prog 3 (heldG vSn) b n D ∧ (ok = true → ReadsI D N)
theorem MapI.lt (h : MapI ok w b n N) : b < w.heap.size := by obtain ⟨D, h, _⟩ := h; exact h.lt
theorem MapI.kept {X : Nat → Prop} (h : MapI ok w b n N) (f : Fr X w w') (hx : ¬ X b) : MapI ok w' b n N := by
  obtain ⟨D, ⟨es, clock, hb, r⟩, q⟩ := h
  exact ⟨D, ⟨es, clock, f.heap hb hx, r⟩, q⟩
theorem MapI.below (h : MapI ok w b n N) (f : Below w.heap.size w w') : MapI ok w' b n N := h.kept (X := fun _ => False) (Fr.of_below f) (fun x => x)
theorem MapI.made (w : World) : MapI ok (w.alloc (.map #[] 0)) w.heap.size 0 ([] : List QT.Sn) :=
  ⟨.map [], World.ownsMap_made _ _ _ _, fun _ => ⟨fun s z => by simp [DataW.atKey, QT.fnZ], rfl⟩⟩
theorem ReadsI.hasZ {D : DataW Value} (h : ReadsI D N) (s : Int) : Maps.has D (.int .i64 s) = (QT.fnZ N s).isSome := by
  cases hf : QT.fnZ N s with
  | none => exact Maps.has_false_of_atKey (fun z => by rw [h.1 s z, hf]; rfl)
  | some x => exact Maps.has_true_of_atKey (y := .held (vSn x)) (fun z => by rw [h.1 s z, hf]; rfl)
theorem ReadsI.has {D : DataW Value} (h : ReadsI D N) (s : Nat) : Maps.has D (.int .i64 (s : Nat)) = (QT.fnI N s).isSome := by rw [h.hasZ, QT.fnZ_nat]
/-- 'm[k]'. -/
theorem MapI.look (h : MapI true w b n N) {t e : TypeId} {z : Value} (ht : Tryz.prog.underlying t = some (.map 3 e)) (hz : (zeroValue e).run Tryz.prog w = .ok z w) (hz0 : ∃ x, z = vSn x) (s : Nat) (hs : s ≤ 1099511627776) :
    (Instr.lookup t (.map (some b)) (.int .i64 (s : Nat)) false).run Tryz.prog w = .ok (((QT.fnI N s).map vSn).getD z) w := by
  obtain ⟨D, hown, hr⟩ := h
  obtain ⟨v, ps, hrun, hv⟩ := hown.lookup KKI ht hz (zd := .held z) (zp := []) (by obtain ⟨x, rfl⟩ := hz0; exact heldG_val vSn x) (keyI s hs)
  rw [hrun, (hr rfl).1 s, QT.fnZ_nat] at *
  cases hf : QT.fnI N s with
  | none => rw [hf] at hv; rw [held_inj hv]; rfl
  | some x => rw [hf] at hv; rw [held_inj hv]; rfl
/-- 'v, ok := m[k]'. -/
theorem MapI.lookOk (h : MapI true w b n N) {t e : TypeId} {z : Value} (ht : Tryz.prog.underlying t = some (.map 3 e)) (hz : (zeroValue e).run Tryz.prog w = .ok z w) (hz0 : ∃ x, z = vSn x) (s : Nat) (hs : s ≤ 1099511627776) :
    (Instr.lookup t (.map (some b)) (.int .i64 (s : Nat)) true).run Tryz.prog w = .ok (.tuple #[((QT.fnI N s).map vSn).getD z, .bool (QT.fnI N s).isSome]) w := by
  obtain ⟨D, hown, hr⟩ := h
  obtain ⟨v, ps, hrun, hv⟩ := hown.look_ok KKI ht hz (zd := .held z) (zp := []) (by obtain ⟨x, rfl⟩ := hz0; exact heldG_val vSn x) (keyI s hs)
  rw [(hr rfl).has] at hrun
  rw [hrun, (hr rfl).1 s, QT.fnZ_nat] at *
  cases hf : QT.fnI N s with
  | none => rw [hf] at hv; rw [held_inj hv]; rfl
  | some x => rw [hf] at hv; rw [held_inj hv]; rfl
/-- 'len(m)'. -/
theorem MapI.len (h : MapI true w b n N) {t e : TypeId} (ht : Tryz.prog.underlying t = some (.map 3 e)) (ty : TypeId) : (Builtin.len_ #[t] ty #[.map (some b)]).run Tryz.prog w = .ok (.int .i64 (N.length : Nat)) w := by
  obtain ⟨D, hown, hr⟩ := h
  rw [hown.len ht ty, (hr rfl).2]
/-- 'm[k] = v'. -/
theorem MapI.put (h : MapI ok w b n N) {t e : TypeId} (ht : Tryz.prog.underlying t = some (.map 3 e)) (hn : n < 1099511627776) (x : QT.Sn) (hs : x.n ≤ 1099511627776) {ok' : Bool} (hk : ok' = true → ok = true ∧ QT.fnI N x.n = none) :
    ∃ w', (Instr.mapUpdate t (.map (some b)) (.int .i64 (x.n : Nat)) (vSn x)).run Tryz.prog w = .ok () w' ∧ MapI ok' w' b (n + 1) (N ++ [x]) ∧ Fr (fun j => j = b) w w' := by
  obtain ⟨D, hown, hr⟩ := h
  obtain ⟨w', hrun, ho, ht⟩ := hown.store KKI ht (by simp only [maxLen]; omega) (keyI _ hs) (heldG_val vSn x)
  refine ⟨w', hrun, ⟨_, ho, fun e => ?_⟩, fr_of_turned ht⟩
  obtain ⟨h1, h2⟩ := hk e
  obtain ⟨ha, hsz⟩ := hr h1
  refine ⟨fun s z => ?_, ?_⟩
  · by_cases hq : (x.n : Int) = s
    · subst hq
      rw [Maps.atKey_put_same hown.isMap (show WideAt.IsKeyLit (.int .i64 _) from trivial), QT.fnZ_nat, QT.fnI_snoc_same h2]
      rfl
    · rw [Maps.atKey_put_other (fun e => hq (by have := (Lit.int.inj e).2; omega)), QT.fnZ_snoc_other hq]
      exact ha s z
  · rw [Maps.size_put (hown.tidy KKI), ReadsI.has ⟨ha, hsz⟩, h2, hsz]
    simp
/-- 'm[k] = v', where the one entry has that key. -/
theorem MapI.set (h : MapI true w b n [y]) {t e : TypeId} (ht : Tryz.prog.underlying t = some (.map 3 e)) (hn : n < 1099511627776) (x : QT.Sn) (hs : x.n ≤ 1099511627776) (hk : y.n = x.n) :
    ∃ w', (Instr.mapUpdate t (.map (some b)) (.int .i64 (x.n : Nat)) (vSn x)).run Tryz.prog w = .ok () w' ∧ MapI true w' b (n + 1) [x] ∧ Fr (fun j => j = b) w w' := by
  obtain ⟨D, hown, hr⟩ := h
  obtain ⟨w', hrun, ho, ht⟩ := hown.store KKI ht (by simp only [maxLen]; omega) (keyI _ hs) (heldG_val vSn x)
  have hh := ReadsI.has (hr rfl) x.n
  refine ⟨w', hrun, ⟨_, ho, fun _ => ⟨fun s z => ?_, ?_⟩⟩, fr_of_turned ht⟩
  · by_cases hq : (x.n : Int) = s
    · subst hq
      rw [Maps.atKey_put_same hown.isMap (show WideAt.IsKeyLit (.int .i64 _) from trivial)]
      simp [QT.fnZ]
    · rw [Maps.atKey_put_other (fun e => hq (by have := (Lit.int.inj e).2; omega)), (hr rfl).1]
      simp [QT.fnZ, hq, hk]
  · rw [Maps.size_put (hown.tidy KKI), hh, (hr rfl).2]
    simp [QT.fnI, hk]
end
end Go.Proofs.YtkanjdijmdjbaaaGreatDoor
