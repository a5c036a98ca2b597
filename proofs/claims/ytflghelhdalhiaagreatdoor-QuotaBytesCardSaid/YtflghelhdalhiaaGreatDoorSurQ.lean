/-
  The plain facts of what 'sure' does: a root with two children.
  Conditions: none.
-/
import Derived.Test.YtflghelhdalhiaaGreatDoorAdmQ
namespace Go.Proofs.YtflghelhdalhiaaGreatDoor
open Go Go.RowKit

theorem QT.fnd_perm {α : Type} {key : α → QT.Str} {N N' : List α} (hp : N.Perm N') (hd : N.Pairwise (fun a b => key a ≠ key b)) (s : QT.Str) : QT.fnd key N' s = QT.fnd key N s := by
  have un : ∀ (L : List α), L.Pairwise (fun a b => key a ≠ key b) → ∀ a ∈ L, ∀ b ∈ L, key a = key b → a = b := by
    intro L
    induction L with
    | nil => intro _ a ha; cases ha
    | cons y r ih =>
      intro h a ha b hb e
      obtain ⟨h1, h2⟩ := List.pairwise_cons.1 h
      rcases List.mem_cons.1 ha with rfl | ha'
      · rcases List.mem_cons.1 hb with rfl | hb'
        · rfl
        · exact absurd e (h1 b hb')
      · rcases List.mem_cons.1 hb with rfl | hb'
        · exact absurd e.symm (h1 a ha')
        · exact ih h2 a ha' b hb' e
  cases h : QT.fnd key N s with
  | none =>
    cases h' : QT.fnd key N' s with
    | none => rfl
    | some y =>
      have := List.find?_eq_none.1 h y (hp.mem_iff.2 (QT.fnd_mem h'))
      simp [QT.fnd_key h'] at this
  | some x =>
    cases h' : QT.fnd key N' s with
    | none =>
      have := List.find?_eq_none.1 h' x (hp.mem_iff.1 (QT.fnd_mem h))
      simp [QT.fnd_key h] at this
    | some y =>
      rw [un N hd x (QT.fnd_mem h) y (hp.mem_iff.2 (QT.fnd_mem h')) ((QT.fnd_key h).trans (QT.fnd_key h').symm)]
def qr : QT.Nd := ⟨[114], [], 2, 2, 0, 0, 0, 0⟩
def qa : QT.Nd := ⟨[97], [114], 4, 4, 9, 9, 0, 0⟩
def qb : QT.Nd := ⟨[98], [114], 4, 4, 0, 0, 1, 1⟩
def qx : QT.Us := ⟨[120], [97], 8, 0⟩
def qy : QT.Us := ⟨[120], [97], 7, 7⟩
theorem fullQ_of {N : List QT.Nd} {U : List QT.Us} (h1 : N.Pairwise (fun a b => Op.bytesLess a.nm b.nm = true)) (h2 : U.Pairwise (fun a b => Op.bytesLess a.id b.id = true)) (h3 : ∀ x ∈ N, QT.fineNd x) (h4 : ∀ x ∈ U, QT.fineUs x)
    (h5 : N.length ≤ 256) (h6 : U.length ≤ 1024) (h7 : ∀ x ∈ N, x.nm ≠ []) (h8 : QT.rootedB N = true) (h9 : ∀ u ∈ U, ∃ n ∈ N, n.nm = u.nd) : FullQ N U := by
  have hR : RiseQ N U := ⟨h1, h2, h3, h4, h5, h6⟩
  refine ⟨hR, ⟨h7, fun a ha b hb e => QT.rises_un QT.Nd.nm N h1 a ha b hb e, ?_⟩, (QT.rootedB_iff N).1 h8, h9⟩
  exact h1.imp (fun {a b} q e => by rw [e, QT.less_irr] at q; cases q)
theorem qN1 : FullQ [qr] [] := fullQ_of (by decide) (by decide) (by unfold QT.fineNd QT.cap; decide) (by unfold QT.fineUs QT.cap; decide) (by decide) (by decide) (by decide) (by decide) (by decide)
theorem qN2 : FullQ [qa, qr] [] := fullQ_of (by decide) (by decide) (by unfold QT.fineNd QT.cap; decide) (by unfold QT.fineUs QT.cap; decide) (by decide) (by decide) (by decide) (by decide) (by decide)
theorem qN3 : FullQ [qa, qb, qr] [] := fullQ_of (by decide) (by decide) (by unfold QT.fineNd QT.cap; decide) (by unfold QT.fineUs QT.cap; decide) (by decide) (by decide) (by decide) (by decide) (by decide)
theorem qN4 : FullQ [qa, qb, qr] [qx] := fullQ_of (by decide) (by decide) (by unfold QT.fineNd QT.cap; decide) (by unfold QT.fineUs QT.cap; decide) (by decide) (by decide) (by decide) (by decide) (by decide)
theorem qN5 : FullQ [qa, qb, qr] [qy] := fullQ_of (by decide) (by decide) (by unfold QT.fineNd QT.cap; decide) (by unfold QT.fineUs QT.cap; decide) (by decide) (by decide) (by decide) (by decide) (by decide)
theorem qF1 : QT.fitsB [qr] [] = true := by decide
theorem qF2 : QT.fitsB [qa, qr] [] = true := by decide
theorem qF3 : QT.fitsB [qa, qb, qr] [] = true := by decide
theorem qF4 : QT.fitsB [qa, qb, qr] [qx] = true := by decide
theorem qF5 : QT.fitsB [qa, qb, qr] [qy] = true := by decide
theorem qH4 : QT.holdsB [qa, qb, qr] [qx] = false := by decide
theorem qH5 : QT.holdsB [qa, qb, qr] [qy] = true := by decide
theorem qT1 : QT.Total [qa, qb, qr] QT.Nd.o1 qr.nm = 10 := by decide
theorem qT2 : QT.Total [qa, qb, qr] QT.Nd.o2 qr.nm = 10 := by decide
theorem b2 : FL.fB 2 = 4611686018427387904 := by kernel_rfl
theorem b4 : FL.fB 4 = 4616189618054758400 := by kernel_rfl
theorem b9 : FL.fB 9 = 4621256167635550208 := by kernel_rfl
theorem b1' : FL.fB 1 = 4607182418800017408 := by kernel_rfl
theorem b8 : FL.fB 8 = 4620693217682128896 := by kernel_rfl
theorem b7 : FL.fB 7 = 4619567317775286272 := by kernel_rfl
theorem b10 : FL.fB 10 = 4621819117588971520 := by kernel_rfl
theorem Fr.bel {j : Nat} {w V V' : World} (h : Below w.heap.size w V) (f : Fr (fun i => i = j) V V') (hj : w.heap.size ≤ j) : Below w.heap.size w V' :=
  h.trans ⟨f.os, f.tape, f.output, f.size, fun q hq => f.block q (Nat.lt_of_lt_of_le hq h.size) (by omega)⟩
set_option maxRecDepth 100000 in
set_option maxHeartbeats 4000000 in
/-- sure. -/
theorem sureQ_any (w : World) (hE : Env w) :
    Calls Tryz.prog 4 #[] w fun e w' => e = .returned (.bool true) ∧ Below w.heap.size w w' := by
  obtain ⟨T, hT⟩ : ∃ b, b = w.heap.size + 1 + 1 := ⟨_, rfl⟩
  obtain ⟨bu, hbu⟩ : ∃ b, b = w.heap.size + 1 := ⟨_, rfl⟩
  obtain ⟨bn, hbn⟩ : ∃ b, b = w.heap.size := ⟨_, rfl⟩
  have H0 := Lib.hid (newQ_any w)
  rw [← hT, ← hbu, ← hbn] at H0
  have A1 : Hid (∀ V, TreeD V T bn bu true true 0 0 [] [] → Calls Tryz.prog 11 #[.pointer (some ⟨T, 0, none⟩), .agg #[.string ⟨#[114]⟩, .string ⟨#[]⟩, .complex .f64 4611686018427387904 4611686018427387904, .complex .f64 0 0, .complex .f64 0 0]] V fun e w' => e = .returned .nilIface ∧ Hid (TreeD w' T bn bu true true 1 0 [qr] [] ∧ Fr (fun j => j = bn) V w')) := Lib.hid (fun V h => by
    have h1 := addNode_any T bn bu 0 0 [] [qr] [] qr V h (qN1.rise.fN qr (by simp)) (by decide) (by decide) (.inr rfl) (by decide) (by decide) (fun s => rfl) rfl qN1 qF1
    have h2 : Calls Tryz.prog 11 #[.pointer (some ⟨T, 0, none⟩), .agg #[.string ⟨#[114]⟩, .string ⟨#[]⟩, .complex .f64 (FL.fB 2) (FL.fB 2), .complex .f64 (FL.fB 0) (FL.fB 0), .complex .f64 (FL.fB 0) (FL.fB 0)]] V fun e w' => e = .returned .nilIface ∧ TreeD w' T bn bu true true 1 0 [qr] [] ∧ Fr (fun j => j = bn) V w' := h1
    rw [b2, fB_zero] at h2
    exact h2.mono fun e w' ⟨q1, q2⟩ => ⟨q1, Lib.hid q2⟩)
  have A2 : Hid (∀ V, TreeD V T bn bu true true 1 0 [qr] [] → Calls Tryz.prog 11 #[.pointer (some ⟨T, 0, none⟩), .agg #[.string ⟨#[97]⟩, .string ⟨#[114]⟩, .complex .f64 4616189618054758400 4616189618054758400, .complex .f64 4621256167635550208 4621256167635550208, .complex .f64 0 0]] V fun e w' => e = .returned .nilIface ∧ Hid (TreeD w' T bn bu true true 2 0 [qa, qr] [] ∧ Fr (fun j => j = bn) V w')) := Lib.hid (fun V h => by
    have h1 := addNode_any T bn bu 1 0 [qr] [qa, qr] [] qa V h (qN2.rise.fN qa (by simp)) (by decide) (by decide) (.inl (by decide)) (by decide) (by decide) (fun s => QT.fnd_perm (by decide) (by decide) s) rfl qN2 qF2
    have h2 : Calls Tryz.prog 11 #[.pointer (some ⟨T, 0, none⟩), .agg #[.string ⟨#[97]⟩, .string ⟨#[114]⟩, .complex .f64 (FL.fB 4) (FL.fB 4), .complex .f64 (FL.fB 9) (FL.fB 9), .complex .f64 (FL.fB 0) (FL.fB 0)]] V fun e w' => e = .returned .nilIface ∧ TreeD w' T bn bu true true 2 0 [qa, qr] [] ∧ Fr (fun j => j = bn) V w' := h1
    rw [b4, b9, fB_zero] at h2
    exact h2.mono fun e w' ⟨q1, q2⟩ => ⟨q1, Lib.hid q2⟩)
  have A3 : Hid (∀ V, TreeD V T bn bu true true 2 0 [qa, qr] [] → Calls Tryz.prog 11 #[.pointer (some ⟨T, 0, none⟩), .agg #[.string ⟨#[98]⟩, .string ⟨#[114]⟩, .complex .f64 4616189618054758400 4616189618054758400, .complex .f64 0 0, .complex .f64 4607182418800017408 4607182418800017408]] V fun e w' => e = .returned .nilIface ∧ Hid (TreeD w' T bn bu true true 3 0 [qa, qb, qr] [] ∧ Fr (fun j => j = bn) V w')) := Lib.hid (fun V h => by
    have h1 := addNode_any T bn bu 2 0 [qa, qr] [qa, qb, qr] [] qb V h (qN3.rise.fN qb (by simp)) (by decide) (by decide) (.inl (by decide)) (by decide) (by decide) (fun s => QT.fnd_perm (by decide) (by decide) s) rfl qN3 qF3
    have h2 : Calls Tryz.prog 11 #[.pointer (some ⟨T, 0, none⟩), .agg #[.string ⟨#[98]⟩, .string ⟨#[114]⟩, .complex .f64 (FL.fB 4) (FL.fB 4), .complex .f64 (FL.fB 0) (FL.fB 0), .complex .f64 (FL.fB 1) (FL.fB 1)]] V fun e w' => e = .returned .nilIface ∧ TreeD w' T bn bu true true 3 0 [qa, qb, qr] [] ∧ Fr (fun j => j = bn) V w' := h1
    rw [b4, b1', fB_zero] at h2
    exact h2.mono fun e w' ⟨q1, q2⟩ => ⟨q1, Lib.hid q2⟩)
  have A4 : Hid (∀ V, TreeD V T bn bu true true 3 0 [qa, qb, qr] [] → Calls Tryz.prog 12 #[.pointer (some ⟨T, 0, none⟩), .agg #[.string ⟨#[120]⟩, .string ⟨#[97]⟩, .complex .f64 4620693217682128896 0]] V fun e w' => e = .returned (errV 20) ∧ Hid (TreeD w' T bn bu true true 3 1 [qa, qb, qr] [] ∧ Fr (fun j => j = bu) V w')) := Lib.hid (fun V h => by
    have h1 := admit_any T bn bu 3 0 [qa, qb, qr] [] [qx] qx qa V h (qN4.rise.fU qx (by simp)) (by decide) (by decide) (by decide) (by decide) (by decide) (fun s => rfl) rfl qN4 qF4
    have h2 : Calls Tryz.prog 12 #[.pointer (some ⟨T, 0, none⟩), .agg #[.string ⟨#[120]⟩, .string ⟨#[97]⟩, .complex .f64 (FL.fB 8) (FL.fB 0)]] V fun e w' => AdmQ V w' e T bn bu 3 0 [qa, qb, qr] [] [qx] := h1
    rw [b8, fB_zero] at h2
    refine h2.mono fun e w' q => ?_
    unfold AdmQ at q
    rw [qH4] at q
    exact ⟨q.1, Lib.hid q.2⟩)
  have A5 : Hid (∀ V, TreeD V T bn bu true true 3 1 [qa, qb, qr] [] → Calls Tryz.prog 12 #[.pointer (some ⟨T, 0, none⟩), .agg #[.string ⟨#[120]⟩, .string ⟨#[97]⟩, .complex .f64 4619567317775286272 4619567317775286272]] V fun e w' => e = .returned .nilIface ∧ Hid (TreeD w' T bn bu true true 3 2 [qa, qb, qr] [qy] ∧ Fr (fun j => j = bu) V w')) := Lib.hid (fun V h => by
    have h1 := admit_any T bn bu 3 1 [qa, qb, qr] [] [qy] qy qa V h (qN5.rise.fU qy (by simp)) (by decide) (by decide) (by decide) (by decide) (by decide) (fun s => rfl) rfl qN5 qF5
    have h2 : Calls Tryz.prog 12 #[.pointer (some ⟨T, 0, none⟩), .agg #[.string ⟨#[120]⟩, .string ⟨#[97]⟩, .complex .f64 (FL.fB 7) (FL.fB 7)]] V fun e w' => AdmQ V w' e T bn bu 3 1 [qa, qb, qr] [] [qy] := h1
    rw [b7] at h2
    refine h2.mono fun e w' q => ?_
    unfold AdmQ at q
    rw [qH5] at q
    exact ⟨q.1, Lib.hid q.2⟩)
  have A6 : Hid (∀ V, TreeD V T bn bu true true 3 2 [qa, qb, qr] [qy] → Calls Tryz.prog 13 #[.pointer (some ⟨T, 0, none⟩), .string ⟨#[114]⟩] V fun e w' => e = .returned (.tuple #[.complex .f64 4621819117588971520 4621819117588971520, .nilIface]) ∧ Below V.heap.size V w') := Lib.hid (fun V h => by
    have h1 := total_any T bn bu 3 2 [qa, qb, qr] [qy] qr V h.tree qN5 (by simp)
    rw [qT1, qT2, b10] at h1
    exact h1)
  have A7 : Hid (∀ V, Below w.heap.size w V → Calls Tryz.prog 7 #[errV 20] V fun e w' => e = .returned (.int .i64 20) ∧ Below V.heap.size V w') := Lib.hid (fun V b => num_any 20 V (hE.wr b hE.big))
  have hjn : w.heap.size ≤ bn := by omega
  have hju : w.heap.size ≤ bu := by omega
  have Hjn := Lib.hid hjn
  have Hju := Lib.hid hju
  have Hbn := Lib.hid hbn
  clear hT hbu hbn hjn hju hE
  unfold errV at A4 A7
  go_enter Tryz.func4, Tryz.ntmps4
  go_wp2_with fail
  refine H0.out.mono ?_
  rintro e w1 ⟨rfl, t1, b1⟩
  have B1 : Hid (Below w.heap.size w w1) := Lib.hid (by rw [← Hbn.out]; exact b1)
  have C1 := Lib.hid (A1.out w1 (t1 true true))
  clear t1 b1 A1 H0
  go_wp2_with fail
  refine C1.out.mono ?_
  rintro e w2 ⟨rfl, R2⟩
  have B2 := Lib.hid (Fr.bel B1.out R2.out.2 Hjn.out)
  have C2 := Lib.hid (A2.out w2 R2.out.1)
  clear C1 R2 A2 B1
  go_wp2_with fail
  refine C2.out.mono ?_
  rintro e w3 ⟨rfl, R3⟩
  have B3 := Lib.hid (Fr.bel B2.out R3.out.2 Hjn.out)
  have C3 := Lib.hid (A3.out w3 R3.out.1)
  clear C2 R3 A3 B2
  go_wp2_with fail
  refine C3.out.mono ?_
  rintro e w4 ⟨rfl, R4⟩
  have B4 := Lib.hid (Fr.bel B3.out R4.out.2 Hjn.out)
  have C4 := Lib.hid (A4.out w4 R4.out.1)
  clear C3 R4 A4 B3
  go_wp2_with fail
  refine C4.out.mono ?_
  rintro e w5 ⟨rfl, R5⟩
  have B5 := Lib.hid (Fr.bel B4.out R5.out.2 Hju.out)
  have C5 := Lib.hid (A5.out w5 R5.out.1)
  clear C4 R5 A5 B4
  go_wp2_with fail
  refine C5.out.mono ?_
  rintro e w6 ⟨rfl, R6⟩
  have B6 := Lib.hid (Fr.bel B5.out R6.out.2 Hju.out)
  have C6 := Lib.hid (A6.out w6 R6.out.1)
  clear C5 R6 A6 B5
  go_wp2_with fail
  refine C6.out.mono ?_
  rintro e w7 ⟨rfl, b7⟩
  have B7 := Lib.hid (B6.out.trans (b7.mono B6.out.size))
  have C7 := Lib.hid (A7.out w7 B7.out)
  clear C6 b7 B6 A7
  go_wp2_with fail
  refine C7.out.mono ?_
  rintro e w8 ⟨rfl, b8⟩
  have B8 := Lib.hid (B7.out.trans (b8.mono B7.out.size))
  clear C7 b8 B7
  go_wp2
  go_ret
  exact ⟨rfl, B8.out⟩
end Go.Proofs.YtflghelhdalhiaaGreatDoor
