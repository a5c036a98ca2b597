/-
  THE LAW 'MsgSeals' (tollbarlaw11), in its second form (what comes in is of bulk at most 1,048,576): for every message it answers true and leaves what came in as it was: the given row, and the card that ties the row's listed variables to the program's text.
  Conditions: the given row's own, no other.
-/
import Derived.Test.YtbgockggbpmhnaaGreatDoorCards
import Derived.Test.YtbgockggbpmhnaaGreatDoorTie
import Derived.Test.YtbgockggbpmhnaaGreatDoorMsgA
import Derived.WalkKit
import Derived.ProofKit
import Derived.OpenShut
import Derived.ChangeOld
import Derived.Below
import Derived.Carry
import Derived.Deep.DeepHandedRow
import Derived.SevenTiedAt
namespace Go.Proofs.YtbgockggbpmhnaaGreatDoor
open Go Go.RowKit

theorem HoldB.below {H : Nat} {w w' : World} {a : Option Addr} {n c : Nat} {l : List UInt8} (h : HoldB H w a n c l) (f : Below w.heap.size w w') : HoldB H w' a n c l := ⟨h.1, h.2.1.kept (X := fun _ => False) (Fr.of_below f) (fun _ _ x => x), h.2.2⟩
set_option maxRecDepth 100000 in
set_option maxHeartbeats 16000000 in
theorem rencM_any (x : RM) (w : World) (hf : x.Fit w) (hroom : (PK.encM x.msg).length + 1000 ≤ roomB) :
    Calls Tryz.prog 17 #[x.val] w fun e w' => RW w w' e (PK.encM x.msg) := by
  obtain ⟨kd, fr, to, tm, ix, lt, cm, ro, ok, off, da, dn, dc, d, ea, en, ec, es⟩ := x
  obtain ⟨hl, hv, he⟩ := hf
  simp only at hl hv he
  simp only [RM.val]
  have hel := he.len.1
  have he63 : (en : Int) ≤ 9223372036854775807 := by have := he.len; simp only [maxLen] at this; omega
  obtain ⟨u0, hu0⟩ : ∃ u, u = PK.u64 kd := ⟨_, rfl⟩
  obtain ⟨u1, hu1⟩ : ∃ u, u = PK.u64 fr := ⟨_, rfl⟩
  obtain ⟨u2, hu2⟩ : ∃ u, u = PK.u64 to := ⟨_, rfl⟩
  obtain ⟨u3, hu3⟩ : ∃ u, u = PK.u64 tm := ⟨_, rfl⟩
  obtain ⟨u4, hu4⟩ : ∃ u, u = PK.u64 ix := ⟨_, rfl⟩
  obtain ⟨u5, hu5⟩ : ∃ u, u = PK.u64 lt := ⟨_, rfl⟩
  obtain ⟨u6, hu6⟩ : ∃ u, u = PK.u64 cm := ⟨_, rfl⟩
  obtain ⟨u7, hu7⟩ : ∃ u, u = PK.u64 ro := ⟨_, rfl⟩
  obtain ⟨u9, hu9⟩ : ∃ u, u = PK.u64 off := ⟨_, rfl⟩
  obtain ⟨L0, hL0⟩ : ∃ L, L = PK.uB u0 := ⟨_, rfl⟩
  obtain ⟨L1, hL1⟩ : ∃ L, L = L0 ++ PK.uB u1 := ⟨_, rfl⟩
  obtain ⟨L2, hL2⟩ : ∃ L, L = L1 ++ PK.uB u2 := ⟨_, rfl⟩
  obtain ⟨L3, hL3⟩ : ∃ L, L = L2 ++ PK.uB u3 := ⟨_, rfl⟩
  obtain ⟨L4, hL4⟩ : ∃ L, L = L3 ++ PK.uB u4 := ⟨_, rfl⟩
  obtain ⟨L5, hL5⟩ : ∃ L, L = L4 ++ PK.uB u5 := ⟨_, rfl⟩
  obtain ⟨L6, hL6⟩ : ∃ L, L = L5 ++ PK.uB u6 := ⟨_, rfl⟩
  obtain ⟨L7, hL7⟩ : ∃ L, L = L6 ++ PK.uB u7 := ⟨_, rfl⟩
  obtain ⟨Lb, hLb⟩ : ∃ L, L = L7 ++ PK.tB ok := ⟨_, rfl⟩
  obtain ⟨Lo, hLo⟩ : ∃ L, L = Lb ++ PK.uB u9 := ⟨_, rfl⟩
  obtain ⟨Ld, hLd⟩ : ∃ L, L = Lo ++ PK.bB d := ⟨_, rfl⟩
  obtain ⟨Ln, hLn⟩ : ∃ L, L = Ld ++ PK.uB en := ⟨_, rfl⟩
  have henc : PK.encM (RM.msg ⟨kd, fr, to, tm, ix, lt, cm, ro, ok, off, da, dn, dc, d, ea, en, ec, es⟩) = Ln ++ PK.encEs (es.map RE.ent) := by
    rw [hLn, hLd, hLo, hLb, hL7, hL6, hL5, hL4, hL3, hL2, hL1, hL0, hu0, hu1, hu2, hu3, hu4, hu5, hu6, hu7, hu9]
    simp [PK.encM, RM.msg, hel]
  rw [henc, List.length_append] at hroom
  rw [henc]
  have hen64 : en < 18446744073709551616 := by omega
  have wu0 := wrap_u64_nat kd
  rw [← hu0] at wu0
  have hlt0 : u0 < 18446744073709551616 := by rw [hu0]; exact PK.u64_lt _
  have wu1 := wrap_u64_nat fr
  rw [← hu1] at wu1
  have hlt1 : u1 < 18446744073709551616 := by rw [hu1]; exact PK.u64_lt _
  have wu2 := wrap_u64_nat to
  rw [← hu2] at wu2
  have hlt2 : u2 < 18446744073709551616 := by rw [hu2]; exact PK.u64_lt _
  have wu3 := wrap_u64_nat tm
  rw [← hu3] at wu3
  have hlt3 : u3 < 18446744073709551616 := by rw [hu3]; exact PK.u64_lt _
  have wu4 := wrap_u64_nat ix
  rw [← hu4] at wu4
  have hlt4 : u4 < 18446744073709551616 := by rw [hu4]; exact PK.u64_lt _
  have wu5 := wrap_u64_nat lt
  rw [← hu5] at wu5
  have hlt5 : u5 < 18446744073709551616 := by rw [hu5]; exact PK.u64_lt _
  have wu6 := wrap_u64_nat cm
  rw [← hu6] at wu6
  have hlt6 : u6 < 18446744073709551616 := by rw [hu6]; exact PK.u64_lt _
  have wu7 := wrap_u64_nat ro
  rw [← hu7] at wu7
  have hlt7 : u7 < 18446744073709551616 := by rw [hu7]; exact PK.u64_lt _
  have wu9 := wrap_u64_nat off
  rw [← hu9] at wu9
  have hlt9 : u9 < 18446744073709551616 := by rw [hu9]; exact PK.u64_lt _
  have len0 : L0.length ≤ 22 := by rw [hL0]; exact PK.uB_len _ hlt0
  have len1 : L1.length ≤ 44 := by rw [hL1, List.length_append]; have := PK.uB_len _ hlt1; omega
  have len2 : L2.length ≤ 66 := by rw [hL2, List.length_append]; have := PK.uB_len _ hlt2; omega
  have len3 : L3.length ≤ 88 := by rw [hL3, List.length_append]; have := PK.uB_len _ hlt3; omega
  have len4 : L4.length ≤ 110 := by rw [hL4, List.length_append]; have := PK.uB_len _ hlt4; omega
  have len5 : L5.length ≤ 132 := by rw [hL5, List.length_append]; have := PK.uB_len _ hlt5; omega
  have len6 : L6.length ≤ 154 := by rw [hL6, List.length_append]; have := PK.uB_len _ hlt6; omega
  have len7 : L7.length ≤ 176 := by rw [hL7, List.length_append]; have := PK.uB_len _ hlt7; omega
  have lenb : Lb.length ≤ 177 := by rw [hLb, List.length_append]; simp [PK.tB]; omega
  have leno : Lo.length ≤ 199 := by rw [hLo, List.length_append]; have := PK.uB_len _ hlt9; omega
  have lend : Ld.length = Lo.length + (PK.bB d).length := by rw [hLd, List.length_append]
  have lenn : Ld.length ≤ Ln.length := by rw [hLn, List.length_append]; omega
  rw [bB_len_eq] at lend
  have wn : IntKind.u64.wrap (en : Int) = (en : Int) := by rw [IntKind.wrap_u64]; omega
  have HV := Lib.hid hv
  have HES := Lib.hid he
  have HL := Lib.hid hl
  have HEL := Lib.hid hel
  have HR := Lib.hid hroom
  obtain ⟨Wa, hWa⟩ : ∃ W, W = w.alloc (.cells #[.int .i64 kd, .int .i64 fr, .int .i64 to, .int .i64 tm, .int .i64 ix, .int .i64 lt, .int .i64 cm, .int .i64 ro, .bool ok, .int .i64 off, .slice da dn dc, .slice ea en ec] 25) := ⟨_, rfl⟩
  have gA : Wa.heap[w.heap.size]? = some (.cells #[.int .i64 kd, .int .i64 fr, .int .i64 to, .int .i64 tm, .int .i64 ix, .int .i64 lt, .int .i64 cm, .int .i64 ro, .bool ok, .int .i64 off, .slice da dn dc, .slice ea en ec] 25) := by rw [hWa]; exact heap_alloc_new _ _
  obtain ⟨⟨p0, p1, p2, p3, p4, p5, p6, p7, p8, p9, pa, pb⟩, _⟩ := cells12 gA
  have hBa : Hid (Below w.heap.size w Wa) := Lib.hid (by rw [hWa]; exact (Below.refl _ _).alloc (Nat.le_refl _) _)
  have hsz : Hid (Wa.heap.size = w.heap.size + 1) := Lib.hid (by rw [hWa]; simp)
  have cont : Hid (∀ V, Below (w.heap.size + 1) Wa V → (Hid (Below (w.heap.size + 1) Wa V) ∧ V.cell? ⟨w.heap.size, 0, none⟩ = some (.int .i64 kd) ∧ V.cell? ⟨w.heap.size, 1, none⟩ = some (.int .i64 fr) ∧ V.cell? ⟨w.heap.size, 2, none⟩ = some (.int .i64 to) ∧ V.cell? ⟨w.heap.size, 3, none⟩ = some (.int .i64 tm) ∧ V.cell? ⟨w.heap.size, 4, none⟩ = some (.int .i64 ix) ∧ V.cell? ⟨w.heap.size, 5, none⟩ = some (.int .i64 lt) ∧ V.cell? ⟨w.heap.size, 6, none⟩ = some (.int .i64 cm) ∧ V.cell? ⟨w.heap.size, 7, none⟩ = some (.int .i64 ro) ∧ V.cell? ⟨w.heap.size, 8, none⟩ = some (.bool ok) ∧ V.cell? ⟨w.heap.size, 9, none⟩ = some (.int .i64 off) ∧ V.cell? ⟨w.heap.size, 10, none⟩ = some (.slice da dn dc) ∧ V.cell? ⟨w.heap.size, 11, none⟩ = some (.slice ea en ec))) := fun V h => by
    have hk := h.block w.heap.size (by omega)
    exact ⟨Lib.hid h, (World.cell?_of_block hk).trans p0, (World.cell?_of_block hk).trans p1, (World.cell?_of_block hk).trans p2, (World.cell?_of_block hk).trans p3, (World.cell?_of_block hk).trans p4, (World.cell?_of_block hk).trans p5, (World.cell?_of_block hk).trans p6, (World.cell?_of_block hk).trans p7, (World.cell?_of_block hk).trans p8, (World.cell?_of_block hk).trans p9, (World.cell?_of_block hk).trans pa, (World.cell?_of_block hk).trans pb⟩
  have fin : Hid (∀ V, (Hid (Below (w.heap.size + 1) Wa V) ∧ V.cell? ⟨w.heap.size, 0, none⟩ = some (.int .i64 kd) ∧ V.cell? ⟨w.heap.size, 1, none⟩ = some (.int .i64 fr) ∧ V.cell? ⟨w.heap.size, 2, none⟩ = some (.int .i64 to) ∧ V.cell? ⟨w.heap.size, 3, none⟩ = some (.int .i64 tm) ∧ V.cell? ⟨w.heap.size, 4, none⟩ = some (.int .i64 ix) ∧ V.cell? ⟨w.heap.size, 5, none⟩ = some (.int .i64 lt) ∧ V.cell? ⟨w.heap.size, 6, none⟩ = some (.int .i64 cm) ∧ V.cell? ⟨w.heap.size, 7, none⟩ = some (.int .i64 ro) ∧ V.cell? ⟨w.heap.size, 8, none⟩ = some (.bool ok) ∧ V.cell? ⟨w.heap.size, 9, none⟩ = some (.int .i64 off) ∧ V.cell? ⟨w.heap.size, 10, none⟩ = some (.slice da dn dc) ∧ V.cell? ⟨w.heap.size, 11, none⟩ = some (.slice ea en ec)) → Below w.heap.size w V) := fun V h => hBa.out.trans (h.1.out.mono (Nat.le_succ _))
  have step : Hid (∀ V V', (Hid (Below (w.heap.size + 1) Wa V) ∧ V.cell? ⟨w.heap.size, 0, none⟩ = some (.int .i64 kd) ∧ V.cell? ⟨w.heap.size, 1, none⟩ = some (.int .i64 fr) ∧ V.cell? ⟨w.heap.size, 2, none⟩ = some (.int .i64 to) ∧ V.cell? ⟨w.heap.size, 3, none⟩ = some (.int .i64 tm) ∧ V.cell? ⟨w.heap.size, 4, none⟩ = some (.int .i64 ix) ∧ V.cell? ⟨w.heap.size, 5, none⟩ = some (.int .i64 lt) ∧ V.cell? ⟨w.heap.size, 6, none⟩ = some (.int .i64 cm) ∧ V.cell? ⟨w.heap.size, 7, none⟩ = some (.int .i64 ro) ∧ V.cell? ⟨w.heap.size, 8, none⟩ = some (.bool ok) ∧ V.cell? ⟨w.heap.size, 9, none⟩ = some (.int .i64 off) ∧ V.cell? ⟨w.heap.size, 10, none⟩ = some (.slice da dn dc) ∧ V.cell? ⟨w.heap.size, 11, none⟩ = some (.slice ea en ec)) → Below V.heap.size V V' → (Hid (Below (w.heap.size + 1) Wa V') ∧ V'.cell? ⟨w.heap.size, 0, none⟩ = some (.int .i64 kd) ∧ V'.cell? ⟨w.heap.size, 1, none⟩ = some (.int .i64 fr) ∧ V'.cell? ⟨w.heap.size, 2, none⟩ = some (.int .i64 to) ∧ V'.cell? ⟨w.heap.size, 3, none⟩ = some (.int .i64 tm) ∧ V'.cell? ⟨w.heap.size, 4, none⟩ = some (.int .i64 ix) ∧ V'.cell? ⟨w.heap.size, 5, none⟩ = some (.int .i64 lt) ∧ V'.cell? ⟨w.heap.size, 6, none⟩ = some (.int .i64 cm) ∧ V'.cell? ⟨w.heap.size, 7, none⟩ = some (.int .i64 ro) ∧ V'.cell? ⟨w.heap.size, 8, none⟩ = some (.bool ok) ∧ V'.cell? ⟨w.heap.size, 9, none⟩ = some (.int .i64 off) ∧ V'.cell? ⟨w.heap.size, 10, none⟩ = some (.slice da dn dc) ∧ V'.cell? ⟨w.heap.size, 11, none⟩ = some (.slice ea en ec))) := fun V V' h b => cont.out V' (h.1.out.trans (b.mono (by have := h.1.out.size; have := hsz.out; omega)))
  have res : Hid (∀ (V V' : World) (e : Ending) (l : List UInt8), (Hid (Below (w.heap.size + 1) Wa V) ∧ V.cell? ⟨w.heap.size, 0, none⟩ = some (.int .i64 kd) ∧ V.cell? ⟨w.heap.size, 1, none⟩ = some (.int .i64 fr) ∧ V.cell? ⟨w.heap.size, 2, none⟩ = some (.int .i64 to) ∧ V.cell? ⟨w.heap.size, 3, none⟩ = some (.int .i64 tm) ∧ V.cell? ⟨w.heap.size, 4, none⟩ = some (.int .i64 ix) ∧ V.cell? ⟨w.heap.size, 5, none⟩ = some (.int .i64 lt) ∧ V.cell? ⟨w.heap.size, 6, none⟩ = some (.int .i64 cm) ∧ V.cell? ⟨w.heap.size, 7, none⟩ = some (.int .i64 ro) ∧ V.cell? ⟨w.heap.size, 8, none⟩ = some (.bool ok) ∧ V.cell? ⟨w.heap.size, 9, none⟩ = some (.int .i64 off) ∧ V.cell? ⟨w.heap.size, 10, none⟩ = some (.slice da dn dc) ∧ V.cell? ⟨w.heap.size, 11, none⟩ = some (.slice ea en ec)) → RW V V' e l → (∃ a n c, e = .returned (.slice a n c) ∧ Hid (HoldB w.heap.size V' a n c l)) ∧ (Hid (Below (w.heap.size + 1) Wa V') ∧ V'.cell? ⟨w.heap.size, 0, none⟩ = some (.int .i64 kd) ∧ V'.cell? ⟨w.heap.size, 1, none⟩ = some (.int .i64 fr) ∧ V'.cell? ⟨w.heap.size, 2, none⟩ = some (.int .i64 to) ∧ V'.cell? ⟨w.heap.size, 3, none⟩ = some (.int .i64 tm) ∧ V'.cell? ⟨w.heap.size, 4, none⟩ = some (.int .i64 ix) ∧ V'.cell? ⟨w.heap.size, 5, none⟩ = some (.int .i64 lt) ∧ V'.cell? ⟨w.heap.size, 6, none⟩ = some (.int .i64 cm) ∧ V'.cell? ⟨w.heap.size, 7, none⟩ = some (.int .i64 ro) ∧ V'.cell? ⟨w.heap.size, 8, none⟩ = some (.bool ok) ∧ V'.cell? ⟨w.heap.size, 9, none⟩ = some (.int .i64 off) ∧ V'.cell? ⟨w.heap.size, 10, none⟩ = some (.slice da dn dc) ∧ V'.cell? ⟨w.heap.size, 11, none⟩ = some (.slice ea en ec))) := fun V V' e l h r => by
    obtain ⟨⟨a, n, c, e1, e2, e3, e4⟩, b⟩ := r
    exact ⟨⟨a, n, c, e1, Lib.hid ⟨e2, e3, fun q hq => Nat.le_trans (fin.out V h).size (e4 q hq)⟩⟩, step.out V V' h b⟩
  have CU : Hid (∀ (V : World) (a : Option Addr) (n c : Nat) (l : List UInt8) (u : Nat), (Hid (Below (w.heap.size + 1) Wa V) ∧ V.cell? ⟨w.heap.size, 0, none⟩ = some (.int .i64 kd) ∧ V.cell? ⟨w.heap.size, 1, none⟩ = some (.int .i64 fr) ∧ V.cell? ⟨w.heap.size, 2, none⟩ = some (.int .i64 to) ∧ V.cell? ⟨w.heap.size, 3, none⟩ = some (.int .i64 tm) ∧ V.cell? ⟨w.heap.size, 4, none⟩ = some (.int .i64 ix) ∧ V.cell? ⟨w.heap.size, 5, none⟩ = some (.int .i64 lt) ∧ V.cell? ⟨w.heap.size, 6, none⟩ = some (.int .i64 cm) ∧ V.cell? ⟨w.heap.size, 7, none⟩ = some (.int .i64 ro) ∧ V.cell? ⟨w.heap.size, 8, none⟩ = some (.bool ok) ∧ V.cell? ⟨w.heap.size, 9, none⟩ = some (.int .i64 off) ∧ V.cell? ⟨w.heap.size, 10, none⟩ = some (.slice da dn dc) ∧ V.cell? ⟨w.heap.size, 11, none⟩ = some (.slice ea en ec)) → Hid (HoldB w.heap.size V a n c l) → u < 18446744073709551616 → l.length + 100 ≤ roomB → Calls Tryz.prog 47 #[.slice a n c, .int .u64 u] V fun e w' => (∃ a n c, e = .returned (.slice a n c) ∧ Hid (HoldB w.heap.size w' a n c (l ++ PK.uB u))) ∧ (Hid (Below (w.heap.size + 1) Wa w') ∧ w'.cell? ⟨w.heap.size, 0, none⟩ = some (.int .i64 kd) ∧ w'.cell? ⟨w.heap.size, 1, none⟩ = some (.int .i64 fr) ∧ w'.cell? ⟨w.heap.size, 2, none⟩ = some (.int .i64 to) ∧ w'.cell? ⟨w.heap.size, 3, none⟩ = some (.int .i64 tm) ∧ w'.cell? ⟨w.heap.size, 4, none⟩ = some (.int .i64 ix) ∧ w'.cell? ⟨w.heap.size, 5, none⟩ = some (.int .i64 lt) ∧ w'.cell? ⟨w.heap.size, 6, none⟩ = some (.int .i64 cm) ∧ w'.cell? ⟨w.heap.size, 7, none⟩ = some (.int .i64 ro) ∧ w'.cell? ⟨w.heap.size, 8, none⟩ = some (.bool ok) ∧ w'.cell? ⟨w.heap.size, 9, none⟩ = some (.int .i64 off) ∧ w'.cell? ⟨w.heap.size, 10, none⟩ = some (.slice da dn dc) ∧ w'.cell? ⟨w.heap.size, 11, none⟩ = some (.slice ea en ec))) := fun V a n c l u h hh hu hr =>
    (ruint_w a n c l u V hh.out.1 hh.out.2.1.isB hu (by have := hh.out.1; omega)).mono fun e w' r => res.out V w' e _ h r
  have C0 : Hid (∀ V, (Hid (Below (w.heap.size + 1) Wa V) ∧ V.cell? ⟨w.heap.size, 0, none⟩ = some (.int .i64 kd) ∧ V.cell? ⟨w.heap.size, 1, none⟩ = some (.int .i64 fr) ∧ V.cell? ⟨w.heap.size, 2, none⟩ = some (.int .i64 to) ∧ V.cell? ⟨w.heap.size, 3, none⟩ = some (.int .i64 tm) ∧ V.cell? ⟨w.heap.size, 4, none⟩ = some (.int .i64 ix) ∧ V.cell? ⟨w.heap.size, 5, none⟩ = some (.int .i64 lt) ∧ V.cell? ⟨w.heap.size, 6, none⟩ = some (.int .i64 cm) ∧ V.cell? ⟨w.heap.size, 7, none⟩ = some (.int .i64 ro) ∧ V.cell? ⟨w.heap.size, 8, none⟩ = some (.bool ok) ∧ V.cell? ⟨w.heap.size, 9, none⟩ = some (.int .i64 off) ∧ V.cell? ⟨w.heap.size, 10, none⟩ = some (.slice da dn dc) ∧ V.cell? ⟨w.heap.size, 11, none⟩ = some (.slice ea en ec)) → Calls Tryz.prog 47 #[.slice none 0 0, .int .u64 u0] V fun e w' => (∃ a n c, e = .returned (.slice a n c) ∧ Hid (HoldB w.heap.size w' a n c L0)) ∧ (Hid (Below (w.heap.size + 1) Wa w') ∧ w'.cell? ⟨w.heap.size, 0, none⟩ = some (.int .i64 kd) ∧ w'.cell? ⟨w.heap.size, 1, none⟩ = some (.int .i64 fr) ∧ w'.cell? ⟨w.heap.size, 2, none⟩ = some (.int .i64 to) ∧ w'.cell? ⟨w.heap.size, 3, none⟩ = some (.int .i64 tm) ∧ w'.cell? ⟨w.heap.size, 4, none⟩ = some (.int .i64 ix) ∧ w'.cell? ⟨w.heap.size, 5, none⟩ = some (.int .i64 lt) ∧ w'.cell? ⟨w.heap.size, 6, none⟩ = some (.int .i64 cm) ∧ w'.cell? ⟨w.heap.size, 7, none⟩ = some (.int .i64 ro) ∧ w'.cell? ⟨w.heap.size, 8, none⟩ = some (.bool ok) ∧ w'.cell? ⟨w.heap.size, 9, none⟩ = some (.int .i64 off) ∧ w'.cell? ⟨w.heap.size, 10, none⟩ = some (.slice da dn dc) ∧ w'.cell? ⟨w.heap.size, 11, none⟩ = some (.slice ea en ec))) := fun V h => by
    have := CU.out V none 0 0 [] u0 h (Lib.hid ⟨rfl, OwnB.nil _, fun b hb => by simp [Value.ownBlock] at hb⟩) hlt0 (by simp only [roomB, List.length_nil]; omega)
    rw [List.nil_append, ← hL0] at this
    exact this
  have C1 : Hid (∀ V a n c, (Hid (Below (w.heap.size + 1) Wa V) ∧ V.cell? ⟨w.heap.size, 0, none⟩ = some (.int .i64 kd) ∧ V.cell? ⟨w.heap.size, 1, none⟩ = some (.int .i64 fr) ∧ V.cell? ⟨w.heap.size, 2, none⟩ = some (.int .i64 to) ∧ V.cell? ⟨w.heap.size, 3, none⟩ = some (.int .i64 tm) ∧ V.cell? ⟨w.heap.size, 4, none⟩ = some (.int .i64 ix) ∧ V.cell? ⟨w.heap.size, 5, none⟩ = some (.int .i64 lt) ∧ V.cell? ⟨w.heap.size, 6, none⟩ = some (.int .i64 cm) ∧ V.cell? ⟨w.heap.size, 7, none⟩ = some (.int .i64 ro) ∧ V.cell? ⟨w.heap.size, 8, none⟩ = some (.bool ok) ∧ V.cell? ⟨w.heap.size, 9, none⟩ = some (.int .i64 off) ∧ V.cell? ⟨w.heap.size, 10, none⟩ = some (.slice da dn dc) ∧ V.cell? ⟨w.heap.size, 11, none⟩ = some (.slice ea en ec)) → Hid (HoldB w.heap.size V a n c L0) → Calls Tryz.prog 47 #[.slice a n c, .int .u64 u1] V fun e w' => (∃ a n c, e = .returned (.slice a n c) ∧ Hid (HoldB w.heap.size w' a n c L1)) ∧ (Hid (Below (w.heap.size + 1) Wa w') ∧ w'.cell? ⟨w.heap.size, 0, none⟩ = some (.int .i64 kd) ∧ w'.cell? ⟨w.heap.size, 1, none⟩ = some (.int .i64 fr) ∧ w'.cell? ⟨w.heap.size, 2, none⟩ = some (.int .i64 to) ∧ w'.cell? ⟨w.heap.size, 3, none⟩ = some (.int .i64 tm) ∧ w'.cell? ⟨w.heap.size, 4, none⟩ = some (.int .i64 ix) ∧ w'.cell? ⟨w.heap.size, 5, none⟩ = some (.int .i64 lt) ∧ w'.cell? ⟨w.heap.size, 6, none⟩ = some (.int .i64 cm) ∧ w'.cell? ⟨w.heap.size, 7, none⟩ = some (.int .i64 ro) ∧ w'.cell? ⟨w.heap.size, 8, none⟩ = some (.bool ok) ∧ w'.cell? ⟨w.heap.size, 9, none⟩ = some (.int .i64 off) ∧ w'.cell? ⟨w.heap.size, 10, none⟩ = some (.slice da dn dc) ∧ w'.cell? ⟨w.heap.size, 11, none⟩ = some (.slice ea en ec))) := fun V a n c h hh => by
    have := CU.out V a n c L0 u1 h hh hlt1 (by simp only [roomB]; omega)
    rw [← hL1] at this
    exact this
  have C2 : Hid (∀ V a n c, (Hid (Below (w.heap.size + 1) Wa V) ∧ V.cell? ⟨w.heap.size, 0, none⟩ = some (.int .i64 kd) ∧ V.cell? ⟨w.heap.size, 1, none⟩ = some (.int .i64 fr) ∧ V.cell? ⟨w.heap.size, 2, none⟩ = some (.int .i64 to) ∧ V.cell? ⟨w.heap.size, 3, none⟩ = some (.int .i64 tm) ∧ V.cell? ⟨w.heap.size, 4, none⟩ = some (.int .i64 ix) ∧ V.cell? ⟨w.heap.size, 5, none⟩ = some (.int .i64 lt) ∧ V.cell? ⟨w.heap.size, 6, none⟩ = some (.int .i64 cm) ∧ V.cell? ⟨w.heap.size, 7, none⟩ = some (.int .i64 ro) ∧ V.cell? ⟨w.heap.size, 8, none⟩ = some (.bool ok) ∧ V.cell? ⟨w.heap.size, 9, none⟩ = some (.int .i64 off) ∧ V.cell? ⟨w.heap.size, 10, none⟩ = some (.slice da dn dc) ∧ V.cell? ⟨w.heap.size, 11, none⟩ = some (.slice ea en ec)) → Hid (HoldB w.heap.size V a n c L1) → Calls Tryz.prog 47 #[.slice a n c, .int .u64 u2] V fun e w' => (∃ a n c, e = .returned (.slice a n c) ∧ Hid (HoldB w.heap.size w' a n c L2)) ∧ (Hid (Below (w.heap.size + 1) Wa w') ∧ w'.cell? ⟨w.heap.size, 0, none⟩ = some (.int .i64 kd) ∧ w'.cell? ⟨w.heap.size, 1, none⟩ = some (.int .i64 fr) ∧ w'.cell? ⟨w.heap.size, 2, none⟩ = some (.int .i64 to) ∧ w'.cell? ⟨w.heap.size, 3, none⟩ = some (.int .i64 tm) ∧ w'.cell? ⟨w.heap.size, 4, none⟩ = some (.int .i64 ix) ∧ w'.cell? ⟨w.heap.size, 5, none⟩ = some (.int .i64 lt) ∧ w'.cell? ⟨w.heap.size, 6, none⟩ = some (.int .i64 cm) ∧ w'.cell? ⟨w.heap.size, 7, none⟩ = some (.int .i64 ro) ∧ w'.cell? ⟨w.heap.size, 8, none⟩ = some (.bool ok) ∧ w'.cell? ⟨w.heap.size, 9, none⟩ = some (.int .i64 off) ∧ w'.cell? ⟨w.heap.size, 10, none⟩ = some (.slice da dn dc) ∧ w'.cell? ⟨w.heap.size, 11, none⟩ = some (.slice ea en ec))) := fun V a n c h hh => by
    have := CU.out V a n c L1 u2 h hh hlt2 (by simp only [roomB]; omega)
    rw [← hL2] at this
    exact this
  have C3 : Hid (∀ V a n c, (Hid (Below (w.heap.size + 1) Wa V) ∧ V.cell? ⟨w.heap.size, 0, none⟩ = some (.int .i64 kd) ∧ V.cell? ⟨w.heap.size, 1, none⟩ = some (.int .i64 fr) ∧ V.cell? ⟨w.heap.size, 2, none⟩ = some (.int .i64 to) ∧ V.cell? ⟨w.heap.size, 3, none⟩ = some (.int .i64 tm) ∧ V.cell? ⟨w.heap.size, 4, none⟩ = some (.int .i64 ix) ∧ V.cell? ⟨w.heap.size, 5, none⟩ = some (.int .i64 lt) ∧ V.cell? ⟨w.heap.size, 6, none⟩ = some (.int .i64 cm) ∧ V.cell? ⟨w.heap.size, 7, none⟩ = some (.int .i64 ro) ∧ V.cell? ⟨w.heap.size, 8, none⟩ = some (.bool ok) ∧ V.cell? ⟨w.heap.size, 9, none⟩ = some (.int .i64 off) ∧ V.cell? ⟨w.heap.size, 10, none⟩ = some (.slice da dn dc) ∧ V.cell? ⟨w.heap.size, 11, none⟩ = some (.slice ea en ec)) → Hid (HoldB w.heap.size V a n c L2) → Calls Tryz.prog 47 #[.slice a n c, .int .u64 u3] V fun e w' => (∃ a n c, e = .returned (.slice a n c) ∧ Hid (HoldB w.heap.size w' a n c L3)) ∧ (Hid (Below (w.heap.size + 1) Wa w') ∧ w'.cell? ⟨w.heap.size, 0, none⟩ = some (.int .i64 kd) ∧ w'.cell? ⟨w.heap.size, 1, none⟩ = some (.int .i64 fr) ∧ w'.cell? ⟨w.heap.size, 2, none⟩ = some (.int .i64 to) ∧ w'.cell? ⟨w.heap.size, 3, none⟩ = some (.int .i64 tm) ∧ w'.cell? ⟨w.heap.size, 4, none⟩ = some (.int .i64 ix) ∧ w'.cell? ⟨w.heap.size, 5, none⟩ = some (.int .i64 lt) ∧ w'.cell? ⟨w.heap.size, 6, none⟩ = some (.int .i64 cm) ∧ w'.cell? ⟨w.heap.size, 7, none⟩ = some (.int .i64 ro) ∧ w'.cell? ⟨w.heap.size, 8, none⟩ = some (.bool ok) ∧ w'.cell? ⟨w.heap.size, 9, none⟩ = some (.int .i64 off) ∧ w'.cell? ⟨w.heap.size, 10, none⟩ = some (.slice da dn dc) ∧ w'.cell? ⟨w.heap.size, 11, none⟩ = some (.slice ea en ec))) := fun V a n c h hh => by
    have := CU.out V a n c L2 u3 h hh hlt3 (by simp only [roomB]; omega)
    rw [← hL3] at this
    exact this
  have C4 : Hid (∀ V a n c, (Hid (Below (w.heap.size + 1) Wa V) ∧ V.cell? ⟨w.heap.size, 0, none⟩ = some (.int .i64 kd) ∧ V.cell? ⟨w.heap.size, 1, none⟩ = some (.int .i64 fr) ∧ V.cell? ⟨w.heap.size, 2, none⟩ = some (.int .i64 to) ∧ V.cell? ⟨w.heap.size, 3, none⟩ = some (.int .i64 tm) ∧ V.cell? ⟨w.heap.size, 4, none⟩ = some (.int .i64 ix) ∧ V.cell? ⟨w.heap.size, 5, none⟩ = some (.int .i64 lt) ∧ V.cell? ⟨w.heap.size, 6, none⟩ = some (.int .i64 cm) ∧ V.cell? ⟨w.heap.size, 7, none⟩ = some (.int .i64 ro) ∧ V.cell? ⟨w.heap.size, 8, none⟩ = some (.bool ok) ∧ V.cell? ⟨w.heap.size, 9, none⟩ = some (.int .i64 off) ∧ V.cell? ⟨w.heap.size, 10, none⟩ = some (.slice da dn dc) ∧ V.cell? ⟨w.heap.size, 11, none⟩ = some (.slice ea en ec)) → Hid (HoldB w.heap.size V a n c L3) → Calls Tryz.prog 47 #[.slice a n c, .int .u64 u4] V fun e w' => (∃ a n c, e = .returned (.slice a n c) ∧ Hid (HoldB w.heap.size w' a n c L4)) ∧ (Hid (Below (w.heap.size + 1) Wa w') ∧ w'.cell? ⟨w.heap.size, 0, none⟩ = some (.int .i64 kd) ∧ w'.cell? ⟨w.heap.size, 1, none⟩ = some (.int .i64 fr) ∧ w'.cell? ⟨w.heap.size, 2, none⟩ = some (.int .i64 to) ∧ w'.cell? ⟨w.heap.size, 3, none⟩ = some (.int .i64 tm) ∧ w'.cell? ⟨w.heap.size, 4, none⟩ = some (.int .i64 ix) ∧ w'.cell? ⟨w.heap.size, 5, none⟩ = some (.int .i64 lt) ∧ w'.cell? ⟨w.heap.size, 6, none⟩ = some (.int .i64 cm) ∧ w'.cell? ⟨w.heap.size, 7, none⟩ = some (.int .i64 ro) ∧ w'.cell? ⟨w.heap.size, 8, none⟩ = some (.bool ok) ∧ w'.cell? ⟨w.heap.size, 9, none⟩ = some (.int .i64 off) ∧ w'.cell? ⟨w.heap.size, 10, none⟩ = some (.slice da dn dc) ∧ w'.cell? ⟨w.heap.size, 11, none⟩ = some (.slice ea en ec))) := fun V a n c h hh => by
    have := CU.out V a n c L3 u4 h hh hlt4 (by simp only [roomB]; omega)
    rw [← hL4] at this
    exact this
  have C5 : Hid (∀ V a n c, (Hid (Below (w.heap.size + 1) Wa V) ∧ V.cell? ⟨w.heap.size, 0, none⟩ = some (.int .i64 kd) ∧ V.cell? ⟨w.heap.size, 1, none⟩ = some (.int .i64 fr) ∧ V.cell? ⟨w.heap.size, 2, none⟩ = some (.int .i64 to) ∧ V.cell? ⟨w.heap.size, 3, none⟩ = some (.int .i64 tm) ∧ V.cell? ⟨w.heap.size, 4, none⟩ = some (.int .i64 ix) ∧ V.cell? ⟨w.heap.size, 5, none⟩ = some (.int .i64 lt) ∧ V.cell? ⟨w.heap.size, 6, none⟩ = some (.int .i64 cm) ∧ V.cell? ⟨w.heap.size, 7, none⟩ = some (.int .i64 ro) ∧ V.cell? ⟨w.heap.size, 8, none⟩ = some (.bool ok) ∧ V.cell? ⟨w.heap.size, 9, none⟩ = some (.int .i64 off) ∧ V.cell? ⟨w.heap.size, 10, none⟩ = some (.slice da dn dc) ∧ V.cell? ⟨w.heap.size, 11, none⟩ = some (.slice ea en ec)) → Hid (HoldB w.heap.size V a n c L4) → Calls Tryz.prog 47 #[.slice a n c, .int .u64 u5] V fun e w' => (∃ a n c, e = .returned (.slice a n c) ∧ Hid (HoldB w.heap.size w' a n c L5)) ∧ (Hid (Below (w.heap.size + 1) Wa w') ∧ w'.cell? ⟨w.heap.size, 0, none⟩ = some (.int .i64 kd) ∧ w'.cell? ⟨w.heap.size, 1, none⟩ = some (.int .i64 fr) ∧ w'.cell? ⟨w.heap.size, 2, none⟩ = some (.int .i64 to) ∧ w'.cell? ⟨w.heap.size, 3, none⟩ = some (.int .i64 tm) ∧ w'.cell? ⟨w.heap.size, 4, none⟩ = some (.int .i64 ix) ∧ w'.cell? ⟨w.heap.size, 5, none⟩ = some (.int .i64 lt) ∧ w'.cell? ⟨w.heap.size, 6, none⟩ = some (.int .i64 cm) ∧ w'.cell? ⟨w.heap.size, 7, none⟩ = some (.int .i64 ro) ∧ w'.cell? ⟨w.heap.size, 8, none⟩ = some (.bool ok) ∧ w'.cell? ⟨w.heap.size, 9, none⟩ = some (.int .i64 off) ∧ w'.cell? ⟨w.heap.size, 10, none⟩ = some (.slice da dn dc) ∧ w'.cell? ⟨w.heap.size, 11, none⟩ = some (.slice ea en ec))) := fun V a n c h hh => by
    have := CU.out V a n c L4 u5 h hh hlt5 (by simp only [roomB]; omega)
    rw [← hL5] at this
    exact this
  have C6 : Hid (∀ V a n c, (Hid (Below (w.heap.size + 1) Wa V) ∧ V.cell? ⟨w.heap.size, 0, none⟩ = some (.int .i64 kd) ∧ V.cell? ⟨w.heap.size, 1, none⟩ = some (.int .i64 fr) ∧ V.cell? ⟨w.heap.size, 2, none⟩ = some (.int .i64 to) ∧ V.cell? ⟨w.heap.size, 3, none⟩ = some (.int .i64 tm) ∧ V.cell? ⟨w.heap.size, 4, none⟩ = some (.int .i64 ix) ∧ V.cell? ⟨w.heap.size, 5, none⟩ = some (.int .i64 lt) ∧ V.cell? ⟨w.heap.size, 6, none⟩ = some (.int .i64 cm) ∧ V.cell? ⟨w.heap.size, 7, none⟩ = some (.int .i64 ro) ∧ V.cell? ⟨w.heap.size, 8, none⟩ = some (.bool ok) ∧ V.cell? ⟨w.heap.size, 9, none⟩ = some (.int .i64 off) ∧ V.cell? ⟨w.heap.size, 10, none⟩ = some (.slice da dn dc) ∧ V.cell? ⟨w.heap.size, 11, none⟩ = some (.slice ea en ec)) → Hid (HoldB w.heap.size V a n c L5) → Calls Tryz.prog 47 #[.slice a n c, .int .u64 u6] V fun e w' => (∃ a n c, e = .returned (.slice a n c) ∧ Hid (HoldB w.heap.size w' a n c L6)) ∧ (Hid (Below (w.heap.size + 1) Wa w') ∧ w'.cell? ⟨w.heap.size, 0, none⟩ = some (.int .i64 kd) ∧ w'.cell? ⟨w.heap.size, 1, none⟩ = some (.int .i64 fr) ∧ w'.cell? ⟨w.heap.size, 2, none⟩ = some (.int .i64 to) ∧ w'.cell? ⟨w.heap.size, 3, none⟩ = some (.int .i64 tm) ∧ w'.cell? ⟨w.heap.size, 4, none⟩ = some (.int .i64 ix) ∧ w'.cell? ⟨w.heap.size, 5, none⟩ = some (.int .i64 lt) ∧ w'.cell? ⟨w.heap.size, 6, none⟩ = some (.int .i64 cm) ∧ w'.cell? ⟨w.heap.size, 7, none⟩ = some (.int .i64 ro) ∧ w'.cell? ⟨w.heap.size, 8, none⟩ = some (.bool ok) ∧ w'.cell? ⟨w.heap.size, 9, none⟩ = some (.int .i64 off) ∧ w'.cell? ⟨w.heap.size, 10, none⟩ = some (.slice da dn dc) ∧ w'.cell? ⟨w.heap.size, 11, none⟩ = some (.slice ea en ec))) := fun V a n c h hh => by
    have := CU.out V a n c L5 u6 h hh hlt6 (by simp only [roomB]; omega)
    rw [← hL6] at this
    exact this
  have C7 : Hid (∀ V a n c, (Hid (Below (w.heap.size + 1) Wa V) ∧ V.cell? ⟨w.heap.size, 0, none⟩ = some (.int .i64 kd) ∧ V.cell? ⟨w.heap.size, 1, none⟩ = some (.int .i64 fr) ∧ V.cell? ⟨w.heap.size, 2, none⟩ = some (.int .i64 to) ∧ V.cell? ⟨w.heap.size, 3, none⟩ = some (.int .i64 tm) ∧ V.cell? ⟨w.heap.size, 4, none⟩ = some (.int .i64 ix) ∧ V.cell? ⟨w.heap.size, 5, none⟩ = some (.int .i64 lt) ∧ V.cell? ⟨w.heap.size, 6, none⟩ = some (.int .i64 cm) ∧ V.cell? ⟨w.heap.size, 7, none⟩ = some (.int .i64 ro) ∧ V.cell? ⟨w.heap.size, 8, none⟩ = some (.bool ok) ∧ V.cell? ⟨w.heap.size, 9, none⟩ = some (.int .i64 off) ∧ V.cell? ⟨w.heap.size, 10, none⟩ = some (.slice da dn dc) ∧ V.cell? ⟨w.heap.size, 11, none⟩ = some (.slice ea en ec)) → Hid (HoldB w.heap.size V a n c L6) → Calls Tryz.prog 47 #[.slice a n c, .int .u64 u7] V fun e w' => (∃ a n c, e = .returned (.slice a n c) ∧ Hid (HoldB w.heap.size w' a n c L7)) ∧ (Hid (Below (w.heap.size + 1) Wa w') ∧ w'.cell? ⟨w.heap.size, 0, none⟩ = some (.int .i64 kd) ∧ w'.cell? ⟨w.heap.size, 1, none⟩ = some (.int .i64 fr) ∧ w'.cell? ⟨w.heap.size, 2, none⟩ = some (.int .i64 to) ∧ w'.cell? ⟨w.heap.size, 3, none⟩ = some (.int .i64 tm) ∧ w'.cell? ⟨w.heap.size, 4, none⟩ = some (.int .i64 ix) ∧ w'.cell? ⟨w.heap.size, 5, none⟩ = some (.int .i64 lt) ∧ w'.cell? ⟨w.heap.size, 6, none⟩ = some (.int .i64 cm) ∧ w'.cell? ⟨w.heap.size, 7, none⟩ = some (.int .i64 ro) ∧ w'.cell? ⟨w.heap.size, 8, none⟩ = some (.bool ok) ∧ w'.cell? ⟨w.heap.size, 9, none⟩ = some (.int .i64 off) ∧ w'.cell? ⟨w.heap.size, 10, none⟩ = some (.slice da dn dc) ∧ w'.cell? ⟨w.heap.size, 11, none⟩ = some (.slice ea en ec))) := fun V a n c h hh => by
    have := CU.out V a n c L6 u7 h hh hlt7 (by simp only [roomB]; omega)
    rw [← hL7] at this
    exact this
  have Cb : Hid (∀ V a n c, (Hid (Below (w.heap.size + 1) Wa V) ∧ V.cell? ⟨w.heap.size, 0, none⟩ = some (.int .i64 kd) ∧ V.cell? ⟨w.heap.size, 1, none⟩ = some (.int .i64 fr) ∧ V.cell? ⟨w.heap.size, 2, none⟩ = some (.int .i64 to) ∧ V.cell? ⟨w.heap.size, 3, none⟩ = some (.int .i64 tm) ∧ V.cell? ⟨w.heap.size, 4, none⟩ = some (.int .i64 ix) ∧ V.cell? ⟨w.heap.size, 5, none⟩ = some (.int .i64 lt) ∧ V.cell? ⟨w.heap.size, 6, none⟩ = some (.int .i64 cm) ∧ V.cell? ⟨w.heap.size, 7, none⟩ = some (.int .i64 ro) ∧ V.cell? ⟨w.heap.size, 8, none⟩ = some (.bool ok) ∧ V.cell? ⟨w.heap.size, 9, none⟩ = some (.int .i64 off) ∧ V.cell? ⟨w.heap.size, 10, none⟩ = some (.slice da dn dc) ∧ V.cell? ⟨w.heap.size, 11, none⟩ = some (.slice ea en ec)) → Hid (HoldB w.heap.size V a n c L7) → Calls Tryz.prog 49 #[.slice a n c, .bool ok] V fun e w' => (∃ a n c, e = .returned (.slice a n c) ∧ Hid (HoldB w.heap.size w' a n c Lb)) ∧ (Hid (Below (w.heap.size + 1) Wa w') ∧ w'.cell? ⟨w.heap.size, 0, none⟩ = some (.int .i64 kd) ∧ w'.cell? ⟨w.heap.size, 1, none⟩ = some (.int .i64 fr) ∧ w'.cell? ⟨w.heap.size, 2, none⟩ = some (.int .i64 to) ∧ w'.cell? ⟨w.heap.size, 3, none⟩ = some (.int .i64 tm) ∧ w'.cell? ⟨w.heap.size, 4, none⟩ = some (.int .i64 ix) ∧ w'.cell? ⟨w.heap.size, 5, none⟩ = some (.int .i64 lt) ∧ w'.cell? ⟨w.heap.size, 6, none⟩ = some (.int .i64 cm) ∧ w'.cell? ⟨w.heap.size, 7, none⟩ = some (.int .i64 ro) ∧ w'.cell? ⟨w.heap.size, 8, none⟩ = some (.bool ok) ∧ w'.cell? ⟨w.heap.size, 9, none⟩ = some (.int .i64 off) ∧ w'.cell? ⟨w.heap.size, 10, none⟩ = some (.slice da dn dc) ∧ w'.cell? ⟨w.heap.size, 11, none⟩ = some (.slice ea en ec))) := fun V a n c h hh =>
    (rbool_w a n c L7 ok V hh.out.1 hh.out.2.1.isB (by have := hh.out.1; simp only [roomB]; omega)).mono fun e w' r => by
      have := res.out V w' e _ h r
      rw [hLb]
      exact this
  have Co : Hid (∀ V a n c, (Hid (Below (w.heap.size + 1) Wa V) ∧ V.cell? ⟨w.heap.size, 0, none⟩ = some (.int .i64 kd) ∧ V.cell? ⟨w.heap.size, 1, none⟩ = some (.int .i64 fr) ∧ V.cell? ⟨w.heap.size, 2, none⟩ = some (.int .i64 to) ∧ V.cell? ⟨w.heap.size, 3, none⟩ = some (.int .i64 tm) ∧ V.cell? ⟨w.heap.size, 4, none⟩ = some (.int .i64 ix) ∧ V.cell? ⟨w.heap.size, 5, none⟩ = some (.int .i64 lt) ∧ V.cell? ⟨w.heap.size, 6, none⟩ = some (.int .i64 cm) ∧ V.cell? ⟨w.heap.size, 7, none⟩ = some (.int .i64 ro) ∧ V.cell? ⟨w.heap.size, 8, none⟩ = some (.bool ok) ∧ V.cell? ⟨w.heap.size, 9, none⟩ = some (.int .i64 off) ∧ V.cell? ⟨w.heap.size, 10, none⟩ = some (.slice da dn dc) ∧ V.cell? ⟨w.heap.size, 11, none⟩ = some (.slice ea en ec)) → Hid (HoldB w.heap.size V a n c Lb) → Calls Tryz.prog 47 #[.slice a n c, .int .u64 u9] V fun e w' => (∃ a n c, e = .returned (.slice a n c) ∧ Hid (HoldB w.heap.size w' a n c Lo)) ∧ (Hid (Below (w.heap.size + 1) Wa w') ∧ w'.cell? ⟨w.heap.size, 0, none⟩ = some (.int .i64 kd) ∧ w'.cell? ⟨w.heap.size, 1, none⟩ = some (.int .i64 fr) ∧ w'.cell? ⟨w.heap.size, 2, none⟩ = some (.int .i64 to) ∧ w'.cell? ⟨w.heap.size, 3, none⟩ = some (.int .i64 tm) ∧ w'.cell? ⟨w.heap.size, 4, none⟩ = some (.int .i64 ix) ∧ w'.cell? ⟨w.heap.size, 5, none⟩ = some (.int .i64 lt) ∧ w'.cell? ⟨w.heap.size, 6, none⟩ = some (.int .i64 cm) ∧ w'.cell? ⟨w.heap.size, 7, none⟩ = some (.int .i64 ro) ∧ w'.cell? ⟨w.heap.size, 8, none⟩ = some (.bool ok) ∧ w'.cell? ⟨w.heap.size, 9, none⟩ = some (.int .i64 off) ∧ w'.cell? ⟨w.heap.size, 10, none⟩ = some (.slice da dn dc) ∧ w'.cell? ⟨w.heap.size, 11, none⟩ = some (.slice ea en ec))) := fun V a n c h hh => by
    have := CU.out V a n c Lb u9 h hh hlt9 (by simp only [roomB]; omega)
    rw [← hLo] at this
    exact this
  have Cd : Hid (∀ V a n c, (Hid (Below (w.heap.size + 1) Wa V) ∧ V.cell? ⟨w.heap.size, 0, none⟩ = some (.int .i64 kd) ∧ V.cell? ⟨w.heap.size, 1, none⟩ = some (.int .i64 fr) ∧ V.cell? ⟨w.heap.size, 2, none⟩ = some (.int .i64 to) ∧ V.cell? ⟨w.heap.size, 3, none⟩ = some (.int .i64 tm) ∧ V.cell? ⟨w.heap.size, 4, none⟩ = some (.int .i64 ix) ∧ V.cell? ⟨w.heap.size, 5, none⟩ = some (.int .i64 lt) ∧ V.cell? ⟨w.heap.size, 6, none⟩ = some (.int .i64 cm) ∧ V.cell? ⟨w.heap.size, 7, none⟩ = some (.int .i64 ro) ∧ V.cell? ⟨w.heap.size, 8, none⟩ = some (.bool ok) ∧ V.cell? ⟨w.heap.size, 9, none⟩ = some (.int .i64 off) ∧ V.cell? ⟨w.heap.size, 10, none⟩ = some (.slice da dn dc) ∧ V.cell? ⟨w.heap.size, 11, none⟩ = some (.slice ea en ec)) → Hid (HoldB w.heap.size V a n c Lo) → Calls Tryz.prog 48 #[.slice a n c, .slice da dn dc] V fun e w' => (∃ a n c, e = .returned (.slice a n c) ∧ Hid (HoldB w.heap.size w' a n c Ld)) ∧ (Hid (Below (w.heap.size + 1) Wa w') ∧ w'.cell? ⟨w.heap.size, 0, none⟩ = some (.int .i64 kd) ∧ w'.cell? ⟨w.heap.size, 1, none⟩ = some (.int .i64 fr) ∧ w'.cell? ⟨w.heap.size, 2, none⟩ = some (.int .i64 to) ∧ w'.cell? ⟨w.heap.size, 3, none⟩ = some (.int .i64 tm) ∧ w'.cell? ⟨w.heap.size, 4, none⟩ = some (.int .i64 ix) ∧ w'.cell? ⟨w.heap.size, 5, none⟩ = some (.int .i64 lt) ∧ w'.cell? ⟨w.heap.size, 6, none⟩ = some (.int .i64 cm) ∧ w'.cell? ⟨w.heap.size, 7, none⟩ = some (.int .i64 ro) ∧ w'.cell? ⟨w.heap.size, 8, none⟩ = some (.bool ok) ∧ w'.cell? ⟨w.heap.size, 9, none⟩ = some (.int .i64 off) ∧ w'.cell? ⟨w.heap.size, 10, none⟩ = some (.slice da dn dc) ∧ w'.cell? ⟨w.heap.size, 11, none⟩ = some (.slice ea en ec))) := fun V a n c h hh =>
    (rbytes_w a n c Lo da dn dc d V hh.out.1 HL.out hh.out.2.1.isB (HV.out.below (fin.out V h)) (by have := hh.out.1; have := HL.out; omega)).mono fun e w' r => by
      have := res.out V w' e _ h r
      rw [hLd, PK.bB, HL.out, ← List.append_assoc]
      exact this
  have Cn : Hid (∀ V a n c, (Hid (Below (w.heap.size + 1) Wa V) ∧ V.cell? ⟨w.heap.size, 0, none⟩ = some (.int .i64 kd) ∧ V.cell? ⟨w.heap.size, 1, none⟩ = some (.int .i64 fr) ∧ V.cell? ⟨w.heap.size, 2, none⟩ = some (.int .i64 to) ∧ V.cell? ⟨w.heap.size, 3, none⟩ = some (.int .i64 tm) ∧ V.cell? ⟨w.heap.size, 4, none⟩ = some (.int .i64 ix) ∧ V.cell? ⟨w.heap.size, 5, none⟩ = some (.int .i64 lt) ∧ V.cell? ⟨w.heap.size, 6, none⟩ = some (.int .i64 cm) ∧ V.cell? ⟨w.heap.size, 7, none⟩ = some (.int .i64 ro) ∧ V.cell? ⟨w.heap.size, 8, none⟩ = some (.bool ok) ∧ V.cell? ⟨w.heap.size, 9, none⟩ = some (.int .i64 off) ∧ V.cell? ⟨w.heap.size, 10, none⟩ = some (.slice da dn dc) ∧ V.cell? ⟨w.heap.size, 11, none⟩ = some (.slice ea en ec)) → Hid (HoldB w.heap.size V a n c Ld) → Calls Tryz.prog 47 #[.slice a n c, .int .u64 en] V fun e w' => (∃ a n c, e = .returned (.slice a n c) ∧ Hid (HoldB w.heap.size w' a n c Ln)) ∧ (Hid (Below (w.heap.size + 1) Wa w') ∧ w'.cell? ⟨w.heap.size, 0, none⟩ = some (.int .i64 kd) ∧ w'.cell? ⟨w.heap.size, 1, none⟩ = some (.int .i64 fr) ∧ w'.cell? ⟨w.heap.size, 2, none⟩ = some (.int .i64 to) ∧ w'.cell? ⟨w.heap.size, 3, none⟩ = some (.int .i64 tm) ∧ w'.cell? ⟨w.heap.size, 4, none⟩ = some (.int .i64 ix) ∧ w'.cell? ⟨w.heap.size, 5, none⟩ = some (.int .i64 lt) ∧ w'.cell? ⟨w.heap.size, 6, none⟩ = some (.int .i64 cm) ∧ w'.cell? ⟨w.heap.size, 7, none⟩ = some (.int .i64 ro) ∧ w'.cell? ⟨w.heap.size, 8, none⟩ = some (.bool ok) ∧ w'.cell? ⟨w.heap.size, 9, none⟩ = some (.int .i64 off) ∧ w'.cell? ⟨w.heap.size, 10, none⟩ = some (.slice da dn dc) ∧ w'.cell? ⟨w.heap.size, 11, none⟩ = some (.slice ea en ec))) := fun V a n c h hh => by
    have := CU.out V a n c Ld en h hh hen64 (by omega)
    rw [← hLn] at this
    exact this
  have S0 := cont.out Wa.drew (Below.refl _ _).drew
  have DrS : Hid (∀ V, (Hid (Below (w.heap.size + 1) Wa V) ∧ V.cell? ⟨w.heap.size, 0, none⟩ = some (.int .i64 kd) ∧ V.cell? ⟨w.heap.size, 1, none⟩ = some (.int .i64 fr) ∧ V.cell? ⟨w.heap.size, 2, none⟩ = some (.int .i64 to) ∧ V.cell? ⟨w.heap.size, 3, none⟩ = some (.int .i64 tm) ∧ V.cell? ⟨w.heap.size, 4, none⟩ = some (.int .i64 ix) ∧ V.cell? ⟨w.heap.size, 5, none⟩ = some (.int .i64 lt) ∧ V.cell? ⟨w.heap.size, 6, none⟩ = some (.int .i64 cm) ∧ V.cell? ⟨w.heap.size, 7, none⟩ = some (.int .i64 ro) ∧ V.cell? ⟨w.heap.size, 8, none⟩ = some (.bool ok) ∧ V.cell? ⟨w.heap.size, 9, none⟩ = some (.int .i64 off) ∧ V.cell? ⟨w.heap.size, 10, none⟩ = some (.slice da dn dc) ∧ V.cell? ⟨w.heap.size, 11, none⟩ = some (.slice ea en ec)) → (Hid (Below (w.heap.size + 1) Wa V.drew) ∧ V.drew.cell? ⟨w.heap.size, 0, none⟩ = some (.int .i64 kd) ∧ V.drew.cell? ⟨w.heap.size, 1, none⟩ = some (.int .i64 fr) ∧ V.drew.cell? ⟨w.heap.size, 2, none⟩ = some (.int .i64 to) ∧ V.drew.cell? ⟨w.heap.size, 3, none⟩ = some (.int .i64 tm) ∧ V.drew.cell? ⟨w.heap.size, 4, none⟩ = some (.int .i64 ix) ∧ V.drew.cell? ⟨w.heap.size, 5, none⟩ = some (.int .i64 lt) ∧ V.drew.cell? ⟨w.heap.size, 6, none⟩ = some (.int .i64 cm) ∧ V.drew.cell? ⟨w.heap.size, 7, none⟩ = some (.int .i64 ro) ∧ V.drew.cell? ⟨w.heap.size, 8, none⟩ = some (.bool ok) ∧ V.drew.cell? ⟨w.heap.size, 9, none⟩ = some (.int .i64 off) ∧ V.drew.cell? ⟨w.heap.size, 10, none⟩ = some (.slice da dn dc) ∧ V.drew.cell? ⟨w.heap.size, 11, none⟩ = some (.slice ea en ec))) := fun V h => step.out V V.drew h (Below.refl _ _).drew
  have DrH : Hid (∀ V a n c l, Hid (HoldB w.heap.size V a n c l) → Hid (HoldB w.heap.size V.drew a n c l)) := fun V a n c l h => Lib.hid (h.out.below (Below.refl _ _).drew)
  clear CU hv he hl hel henc hroom gA cont p0 p1 p2 p3 p4 p5 p6 p7 p8 p9 pa pb hu0 hu1 hu2 hu3 hu4 hu5 hu6 hu7 hu9 hL0 hL1 hL2 hL3 hL4 hL5 hL6 hL7 hLb hLo hLd hLn len0 len1 len2 len3 len4 len5 len6 len7 lenb leno lend lenn hlt0 hlt1 hlt2 hlt3 hlt4 hlt5 hlt6 hlt7 hlt9 hen64
  go_enter Tryz.func17, Tryz.ntmps17
  go_wp2_with fail
  rw [← hWa]
  clear hWa
  refine wp_region_noPanic ?_
  refine wp_region_held_drew (S := fun V => (Hid (Below (w.heap.size + 1) Wa V) ∧ V.cell? ⟨w.heap.size, 0, none⟩ = some (.int .i64 kd) ∧ V.cell? ⟨w.heap.size, 1, none⟩ = some (.int .i64 fr) ∧ V.cell? ⟨w.heap.size, 2, none⟩ = some (.int .i64 to) ∧ V.cell? ⟨w.heap.size, 3, none⟩ = some (.int .i64 tm) ∧ V.cell? ⟨w.heap.size, 4, none⟩ = some (.int .i64 ix) ∧ V.cell? ⟨w.heap.size, 5, none⟩ = some (.int .i64 lt) ∧ V.cell? ⟨w.heap.size, 6, none⟩ = some (.int .i64 cm) ∧ V.cell? ⟨w.heap.size, 7, none⟩ = some (.int .i64 ro) ∧ V.cell? ⟨w.heap.size, 8, none⟩ = some (.bool ok) ∧ V.cell? ⟨w.heap.size, 9, none⟩ = some (.int .i64 off) ∧ V.cell? ⟨w.heap.size, 10, none⟩ = some (.slice da dn dc) ∧ V.cell? ⟨w.heap.size, 11, none⟩ = some (.slice ea en ec))) (by kernel_rfl) S0 (fun hHeld => ?_)
  refine wpAnyH_take (i := 0) (v := ?hva0) (List.getElem?_toArray.trans rfl) (by kernel_rfl) (by kernel_rfl) (by kernel_rfl) (fun _ _ _ h => h) (Or.inl ⟨by rfl, ?hya0⟩) (by assumption) ?hra0
  case hya0 => (intro wt hSw; (try dsimp only at hSw); go_simp; try (with_reducible rfl))
  try simp only [Act.put, List.setIfInBounds_toArray, List.set_cons_zero, List.set_cons_succ]
  refine wpAnyH_take (i := 1) (v := ?hva1) (List.getElem?_toArray.trans rfl) (by kernel_rfl) (by kernel_rfl) (by kernel_rfl) (fun _ _ _ h => h) (Or.inl ⟨by rfl, ?hya1⟩) (by assumption) ?hra1
  case hya1 => (intro wt hSw; (try dsimp only at hSw); go_simp; try (with_reducible rfl))
  try simp only [Act.put, List.setIfInBounds_toArray, List.set_cons_zero, List.set_cons_succ]
  refine wpAnyH_take (i := 2) (v := ?hva2) (List.getElem?_toArray.trans rfl) (by kernel_rfl) (by kernel_rfl) (by kernel_rfl) (fun _ _ _ h => h) (Or.inl ⟨by rfl, ?hya2⟩) (by assumption) ?hra2
  case hya2 => (intro wt hSw; (try dsimp only at hSw); go_simp; try (with_reducible rfl))
  try simp only [Act.put, List.setIfInBounds_toArray, List.set_cons_zero, List.set_cons_succ]
  refine wpAnyH_take (i := 4) (v := ?hva4) (List.getElem?_toArray.trans rfl) (by kernel_rfl) (by kernel_rfl) (by kernel_rfl) (fun _ _ _ h => h) (Or.inl ⟨by rfl, ?hya4⟩) (by assumption) ?hra4
  case hya4 => (intro wt hSw; (try dsimp only at hSw); go_simp; try (with_reducible rfl))
  try simp only [Act.put, List.setIfInBounds_toArray, List.set_cons_zero, List.set_cons_succ]
  refine wpAnyH_take (i := 5) (v := ?hva5) (List.getElem?_toArray.trans rfl) (by kernel_rfl) (by kernel_rfl) (by kernel_rfl) (fun _ _ _ h => h) (Or.inl ⟨by rfl, ?hya5⟩) (by assumption) ?hra5
  case hya5 => (intro wt hSw; (try dsimp only at hSw); go_simp; try (with_reducible rfl))
  try simp only [Act.put, List.setIfInBounds_toArray, List.set_cons_zero, List.set_cons_succ]
  refine wpAnyH_take (i := 6) (v := ?hva6) (List.getElem?_toArray.trans rfl) (by kernel_rfl) (by kernel_rfl) (by kernel_rfl) (fun _ _ _ h => h) (Or.inl ⟨by rfl, ?hya6⟩) (by assumption) ?hra6
  case hya6 => (intro wt hSw; (try dsimp only at hSw); go_simp; try (with_reducible rfl))
  try simp only [Act.put, List.setIfInBounds_toArray, List.set_cons_zero, List.set_cons_succ]
  refine wpAnyH_take (i := 8) (v := ?hva8) (List.getElem?_toArray.trans rfl) (by kernel_rfl) (by kernel_rfl) (by kernel_rfl) (fun _ _ _ h => h) (Or.inl ⟨by rfl, ?hya8⟩) (by assumption) ?hra8
  case hya8 => (intro wt hSw; (try dsimp only at hSw); go_simp; try (with_reducible rfl))
  try simp only [Act.put, List.setIfInBounds_toArray, List.set_cons_zero, List.set_cons_succ]
  refine wpAnyH_take (i := 9) (v := ?hva9) (List.getElem?_toArray.trans rfl) (by kernel_rfl) (by kernel_rfl) (by kernel_rfl) (fun _ _ _ h => h) (Or.inl ⟨by rfl, ?hya9⟩) (by assumption) ?hra9
  case hya9 => (intro wt hSw; (try dsimp only at hSw); go_simp; try (with_reducible rfl))
  try simp only [Act.put, List.setIfInBounds_toArray, List.set_cons_zero, List.set_cons_succ]
  refine wpAnyH_take (i := 10) (v := ?hva10) (List.getElem?_toArray.trans rfl) (by kernel_rfl) (by kernel_rfl) (by kernel_rfl) (fun _ _ _ h => h) (Or.inl ⟨by rfl, ?hya10⟩) (by assumption) ?hra10
  case hya10 => (intro wt hSw; (try dsimp only at hSw); go_simp; try (with_reducible rfl))
  try simp only [Act.put, List.setIfInBounds_toArray, List.set_cons_zero, List.set_cons_succ]
  refine wpAnyH_take (i := 12) (v := ?hva12) (List.getElem?_toArray.trans rfl) (by kernel_rfl) (by kernel_rfl) (by kernel_rfl) (fun _ _ _ h => h) (Or.inl ⟨by rfl, ?hya12⟩) (by assumption) ?hra12
  case hya12 => (intro wt hSw; (try dsimp only at hSw); go_simp; try (with_reducible rfl))
  try simp only [Act.put, List.setIfInBounds_toArray, List.set_cons_zero, List.set_cons_succ]
  refine wpAnyH_take (i := 13) (v := ?hva13) (List.getElem?_toArray.trans rfl) (by kernel_rfl) (by kernel_rfl) (by kernel_rfl) (fun _ _ _ h => h) (Or.inl ⟨by rfl, ?hya13⟩) (by assumption) ?hra13
  case hya13 => (intro wt hSw; (try dsimp only at hSw); go_simp; try (with_reducible rfl))
  try simp only [Act.put, List.setIfInBounds_toArray, List.set_cons_zero, List.set_cons_succ]
  refine wpAnyH_take (i := 14) (v := ?hva14) (List.getElem?_toArray.trans rfl) (by kernel_rfl) (by kernel_rfl) (by kernel_rfl) (fun _ _ _ h => h) (Or.inl ⟨by rfl, ?hya14⟩) (by assumption) ?hra14
  case hya14 => (intro wt hSw; (try dsimp only at hSw); go_simp; try (with_reducible rfl))
  try simp only [Act.put, List.setIfInBounds_toArray, List.set_cons_zero, List.set_cons_succ]
  refine wpAnyH_ready (rs := [3]) (by kernel_rfl) (by simp) ?_
  refine AllReadyH.cons (List.getElem?_toArray.trans rfl) (fun K hK => ?_) AllReadyH.nil
  go_simp
  go_at_call 47
  refine (C0.out _ ?_).mono ?_
  assumption
  rintro e v0 ⟨⟨a0, n0, c0, rfl, r0⟩, k0⟩
  clear C0
  try (go_wp2_with fail)
  refine hK.out _ _ ?_ (fun hHeld => ?_)
  · (try dsimp only)
    assumption
  clear hK K
  try simp only [Act.put, List.setIfInBounds_toArray, List.set_cons_zero, List.set_cons_succ]
  refine wpAnyH_ready (rs := [7]) (by kernel_rfl) (by simp) ?_
  refine AllReadyH.cons (List.getElem?_toArray.trans rfl) (fun K hK => ?_) AllReadyH.nil
  go_simp
  go_at_call 47
  refine (C1.out _ _ _ _ ?_ r0).mono ?_
  assumption
  rintro e v1 ⟨⟨a1, n1, c1, rfl, r1⟩, k1⟩
  clear C1 r0
  try (go_wp2_with fail)
  refine hK.out _ _ ?_ (fun hHeld => ?_)
  · (try dsimp only)
    assumption
  clear hK K
  try simp only [Act.put, List.setIfInBounds_toArray, List.set_cons_zero, List.set_cons_succ]
  refine wpAnyH_ready (rs := [11]) (by kernel_rfl) (by simp) ?_
  refine AllReadyH.cons (List.getElem?_toArray.trans rfl) (fun K hK => ?_) AllReadyH.nil
  go_simp
  go_at_call 47
  refine (C2.out _ _ _ _ ?_ r1).mono ?_
  assumption
  rintro e v2 ⟨⟨a2, n2, c2, rfl, r2⟩, k2⟩
  clear C2 r1
  try (go_wp2_with fail)
  refine hK.out _ _ ?_ (fun hHeld => ?_)
  · (try dsimp only)
    assumption
  clear hK K
  try simp only [Act.put, List.setIfInBounds_toArray, List.set_cons_zero, List.set_cons_succ]
  refine wpAnyH_ready (rs := [15]) (by kernel_rfl) (by simp) ?_
  refine AllReadyH.cons (List.getElem?_toArray.trans rfl) (fun K hK => ?_) AllReadyH.nil
  go_simp
  go_at_call 47
  refine (C3.out _ _ _ _ ?_ r2).mono ?_
  assumption
  rintro e v3 ⟨⟨a3, n3, c3, rfl, r3⟩, k3⟩
  clear C3 r2
  try (go_wp2_with fail)
  refine hK.out _ _ ?_ (fun hHeld => ?_)
  · (try dsimp only)
    assumption
  clear hK K
  try simp only [Act.put, List.setIfInBounds_toArray, List.set_cons_zero, List.set_cons_succ]
  refine wpAnyH_take (i := 16) (v := ?hva16) (List.getElem?_toArray.trans rfl) (by kernel_rfl) (by kernel_rfl) (by kernel_rfl) (fun _ _ _ h => h) (Or.inl ⟨by rfl, ?hya16⟩) (by assumption) ?hra16
  case hya16 => (intro wt hSw; (try dsimp only at hSw); go_simp; try (with_reducible rfl))
  try simp only [Act.put, List.setIfInBounds_toArray, List.set_cons_zero, List.set_cons_succ]
  refine wpAnyH_done (by kernel_rfl) ?_ _
  refine NoPanic.normal ?_
  have S1 := DrS.out _ k3
  have r3 := DrH.out _ _ _ _ _ r3
  clear k0 k1 k2 k3 S0
  go_wp2_with fail
  refine wp_region_noPanic ?_
  refine wp_region_held_drew (S := fun V => (Hid (Below (w.heap.size + 1) Wa V) ∧ V.cell? ⟨w.heap.size, 0, none⟩ = some (.int .i64 kd) ∧ V.cell? ⟨w.heap.size, 1, none⟩ = some (.int .i64 fr) ∧ V.cell? ⟨w.heap.size, 2, none⟩ = some (.int .i64 to) ∧ V.cell? ⟨w.heap.size, 3, none⟩ = some (.int .i64 tm) ∧ V.cell? ⟨w.heap.size, 4, none⟩ = some (.int .i64 ix) ∧ V.cell? ⟨w.heap.size, 5, none⟩ = some (.int .i64 lt) ∧ V.cell? ⟨w.heap.size, 6, none⟩ = some (.int .i64 cm) ∧ V.cell? ⟨w.heap.size, 7, none⟩ = some (.int .i64 ro) ∧ V.cell? ⟨w.heap.size, 8, none⟩ = some (.bool ok) ∧ V.cell? ⟨w.heap.size, 9, none⟩ = some (.int .i64 off) ∧ V.cell? ⟨w.heap.size, 10, none⟩ = some (.slice da dn dc) ∧ V.cell? ⟨w.heap.size, 11, none⟩ = some (.slice ea en ec))) (by kernel_rfl) S1 (fun hHeld => ?_)
  refine wpAnyH_take (i := 0) (v := ?hvb0) (List.getElem?_toArray.trans rfl) (by kernel_rfl) (by kernel_rfl) (by kernel_rfl) (fun _ _ _ h => h) (Or.inl ⟨by rfl, ?hyb0⟩) (by assumption) ?hrb0
  case hyb0 => (intro wt hSw; (try dsimp only at hSw); go_simp; try (with_reducible rfl))
  try simp only [Act.put, List.setIfInBounds_toArray, List.set_cons_zero, List.set_cons_succ]
  refine wpAnyH_take (i := 1) (v := ?hvb1) (List.getElem?_toArray.trans rfl) (by kernel_rfl) (by kernel_rfl) (by kernel_rfl) (fun _ _ _ h => h) (Or.inl ⟨by rfl, ?hyb1⟩) (by assumption) ?hrb1
  case hyb1 => (intro wt hSw; (try dsimp only at hSw); go_simp; try (with_reducible rfl))
  try simp only [Act.put, List.setIfInBounds_toArray, List.set_cons_zero, List.set_cons_succ]
  refine wpAnyH_take (i := 2) (v := ?hvb2) (List.getElem?_toArray.trans rfl) (by kernel_rfl) (by kernel_rfl) (by kernel_rfl) (fun _ _ _ h => h) (Or.inl ⟨by rfl, ?hyb2⟩) (by assumption) ?hrb2
  case hyb2 => (intro wt hSw; (try dsimp only at hSw); go_simp; try (with_reducible rfl))
  try simp only [Act.put, List.setIfInBounds_toArray, List.set_cons_zero, List.set_cons_succ]
  refine wpAnyH_take (i := 3) (v := ?hvb3) (List.getElem?_toArray.trans rfl) (by kernel_rfl) (by kernel_rfl) (by kernel_rfl) (fun _ _ _ h => h) (Or.inl ⟨by rfl, ?hyb3⟩) (by assumption) ?hrb3
  case hyb3 => (intro wt hSw; (try dsimp only at hSw); go_simp; try (with_reducible rfl))
  try simp only [Act.put, List.setIfInBounds_toArray, List.set_cons_zero, List.set_cons_succ]
  refine wpAnyH_take (i := 5) (v := ?hvb5) (List.getElem?_toArray.trans rfl) (by kernel_rfl) (by kernel_rfl) (by kernel_rfl) (fun _ _ _ h => h) (Or.inl ⟨by rfl, ?hyb5⟩) (by assumption) ?hrb5
  case hyb5 => (intro wt hSw; (try dsimp only at hSw); go_simp; try (with_reducible rfl))
  try simp only [Act.put, List.setIfInBounds_toArray, List.set_cons_zero, List.set_cons_succ]
  refine wpAnyH_take (i := 6) (v := ?hvb6) (List.getElem?_toArray.trans rfl) (by kernel_rfl) (by kernel_rfl) (by kernel_rfl) (fun _ _ _ h => h) (Or.inl ⟨by rfl, ?hyb6⟩) (by assumption) ?hrb6
  case hyb6 => (intro wt hSw; (try dsimp only at hSw); go_simp; try (with_reducible rfl))
  try simp only [Act.put, List.setIfInBounds_toArray, List.set_cons_zero, List.set_cons_succ]
  refine wpAnyH_take (i := 7) (v := ?hvb7) (List.getElem?_toArray.trans rfl) (by kernel_rfl) (by kernel_rfl) (by kernel_rfl) (fun _ _ _ h => h) (Or.inl ⟨by rfl, ?hyb7⟩) (by assumption) ?hrb7
  case hyb7 => (intro wt hSw; (try dsimp only at hSw); go_simp; try (with_reducible rfl))
  try simp only [Act.put, List.setIfInBounds_toArray, List.set_cons_zero, List.set_cons_succ]
  refine wpAnyH_take (i := 9) (v := ?hvb9) (List.getElem?_toArray.trans rfl) (by kernel_rfl) (by kernel_rfl) (by kernel_rfl) (fun _ _ _ h => h) (Or.inl ⟨by rfl, ?hyb9⟩) (by assumption) ?hrb9
  case hyb9 => (intro wt hSw; (try dsimp only at hSw); go_simp; try (with_reducible rfl))
  try simp only [Act.put, List.setIfInBounds_toArray, List.set_cons_zero, List.set_cons_succ]
  refine wpAnyH_take (i := 10) (v := ?hvb10) (List.getElem?_toArray.trans rfl) (by kernel_rfl) (by kernel_rfl) (by kernel_rfl) (fun _ _ _ h => h) (Or.inl ⟨by rfl, ?hyb10⟩) (by assumption) ?hrb10
  case hyb10 => (intro wt hSw; (try dsimp only at hSw); go_simp; try (with_reducible rfl))
  try simp only [Act.put, List.setIfInBounds_toArray, List.set_cons_zero, List.set_cons_succ]
  refine wpAnyH_take (i := 11) (v := ?hvb11) (List.getElem?_toArray.trans rfl) (by kernel_rfl) (by kernel_rfl) (by kernel_rfl) (fun _ _ _ h => h) (Or.inl ⟨by rfl, ?hyb11⟩) (by assumption) ?hrb11
  case hyb11 => (intro wt hSw; (try dsimp only at hSw); go_simp; try (with_reducible rfl))
  try simp only [Act.put, List.setIfInBounds_toArray, List.set_cons_zero, List.set_cons_succ]
  refine wpAnyH_take (i := 13) (v := ?hvb13) (List.getElem?_toArray.trans rfl) (by kernel_rfl) (by kernel_rfl) (by kernel_rfl) (fun _ _ _ h => h) (Or.inl ⟨by rfl, ?hyb13⟩) (by assumption) ?hrb13
  case hyb13 => (intro wt hSw; (try dsimp only at hSw); go_simp; try (with_reducible rfl))
  try simp only [Act.put, List.setIfInBounds_toArray, List.set_cons_zero, List.set_cons_succ]
  refine wpAnyH_take (i := 14) (v := ?hvb14) (List.getElem?_toArray.trans rfl) (by kernel_rfl) (by kernel_rfl) (by kernel_rfl) (fun _ _ _ h => h) (Or.inl ⟨by rfl, ?hyb14⟩) (by assumption) ?hrb14
  case hyb14 => (intro wt hSw; (try dsimp only at hSw); go_simp; try (with_reducible rfl))
  try simp only [Act.put, List.setIfInBounds_toArray, List.set_cons_zero, List.set_cons_succ]
  refine wpAnyH_take (i := 15) (v := ?hvb15) (List.getElem?_toArray.trans rfl) (by kernel_rfl) (by kernel_rfl) (by kernel_rfl) (fun _ _ _ h => h) (Or.inl ⟨by rfl, ?hyb15⟩) (by assumption) ?hrb15
  case hyb15 => (intro wt hSw; (try dsimp only at hSw); go_simp; try (with_reducible rfl))
  try simp only [Act.put, List.setIfInBounds_toArray, List.set_cons_zero, List.set_cons_succ]
  refine wpAnyH_ready (rs := [4]) (by kernel_rfl) (by simp) ?_
  refine AllReadyH.cons (List.getElem?_toArray.trans rfl) (fun K hK => ?_) AllReadyH.nil
  go_simp
  go_at_call 47
  refine (C4.out _ _ _ _ ?_ r3).mono ?_
  assumption
  rintro e v4 ⟨⟨a4, n4, c4, rfl, r4⟩, k4⟩
  clear C4 r3
  try (go_wp2_with fail)
  refine hK.out _ _ ?_ (fun hHeld => ?_)
  · (try dsimp only)
    assumption
  clear hK K
  try simp only [Act.put, List.setIfInBounds_toArray, List.set_cons_zero, List.set_cons_succ]
  refine wpAnyH_ready (rs := [8]) (by kernel_rfl) (by simp) ?_
  refine AllReadyH.cons (List.getElem?_toArray.trans rfl) (fun K hK => ?_) AllReadyH.nil
  go_simp
  go_at_call 47
  refine (C5.out _ _ _ _ ?_ r4).mono ?_
  assumption
  rintro e v5 ⟨⟨a5, n5, c5, rfl, r5⟩, k5⟩
  clear C5 r4
  try (go_wp2_with fail)
  refine hK.out _ _ ?_ (fun hHeld => ?_)
  · (try dsimp only)
    assumption
  clear hK K
  try simp only [Act.put, List.setIfInBounds_toArray, List.set_cons_zero, List.set_cons_succ]
  refine wpAnyH_ready (rs := [12]) (by kernel_rfl) (by simp) ?_
  refine AllReadyH.cons (List.getElem?_toArray.trans rfl) (fun K hK => ?_) AllReadyH.nil
  go_simp
  go_at_call 47
  refine (C6.out _ _ _ _ ?_ r5).mono ?_
  assumption
  rintro e v6 ⟨⟨a6, n6, c6, rfl, r6⟩, k6⟩
  clear C6 r5
  try (go_wp2_with fail)
  refine hK.out _ _ ?_ (fun hHeld => ?_)
  · (try dsimp only)
    assumption
  clear hK K
  try simp only [Act.put, List.setIfInBounds_toArray, List.set_cons_zero, List.set_cons_succ]
  refine wpAnyH_ready (rs := [16]) (by kernel_rfl) (by simp) ?_
  refine AllReadyH.cons (List.getElem?_toArray.trans rfl) (fun K hK => ?_) AllReadyH.nil
  go_simp
  go_at_call 47
  refine (C7.out _ _ _ _ ?_ r6).mono ?_
  assumption
  rintro e v7 ⟨⟨a7, n7, c7, rfl, r7⟩, k7⟩
  clear C7 r6
  try (go_wp2_with fail)
  refine hK.out _ _ ?_ (fun hHeld => ?_)
  · (try dsimp only)
    assumption
  clear hK K
  try simp only [Act.put, List.setIfInBounds_toArray, List.set_cons_zero, List.set_cons_succ]
  refine wpAnyH_take (i := 17) (v := ?hvb17) (List.getElem?_toArray.trans rfl) (by kernel_rfl) (by kernel_rfl) (by kernel_rfl) (fun _ _ _ h => h) (Or.inl ⟨by rfl, ?hyb17⟩) (by assumption) ?hrb17
  case hyb17 => (intro wt hSw; (try dsimp only at hSw); go_simp; try (with_reducible rfl))
  try simp only [Act.put, List.setIfInBounds_toArray, List.set_cons_zero, List.set_cons_succ]
  refine wpAnyH_done (by kernel_rfl) ?_ _
  refine NoPanic.normal ?_
  have S2 := DrS.out _ k7
  have r7 := DrH.out _ _ _ _ _ r7
  clear k4 k5 k6 k7 S1
  go_wp2_with fail
  refine wp_region_noPanic ?_
  refine wp_region_held_drew (S := fun V => (Hid (Below (w.heap.size + 1) Wa V) ∧ V.cell? ⟨w.heap.size, 0, none⟩ = some (.int .i64 kd) ∧ V.cell? ⟨w.heap.size, 1, none⟩ = some (.int .i64 fr) ∧ V.cell? ⟨w.heap.size, 2, none⟩ = some (.int .i64 to) ∧ V.cell? ⟨w.heap.size, 3, none⟩ = some (.int .i64 tm) ∧ V.cell? ⟨w.heap.size, 4, none⟩ = some (.int .i64 ix) ∧ V.cell? ⟨w.heap.size, 5, none⟩ = some (.int .i64 lt) ∧ V.cell? ⟨w.heap.size, 6, none⟩ = some (.int .i64 cm) ∧ V.cell? ⟨w.heap.size, 7, none⟩ = some (.int .i64 ro) ∧ V.cell? ⟨w.heap.size, 8, none⟩ = some (.bool ok) ∧ V.cell? ⟨w.heap.size, 9, none⟩ = some (.int .i64 off) ∧ V.cell? ⟨w.heap.size, 10, none⟩ = some (.slice da dn dc) ∧ V.cell? ⟨w.heap.size, 11, none⟩ = some (.slice ea en ec))) (by kernel_rfl) S2 (fun hHeld => ?_)
  refine wpAnyH_take (i := 0) (v := ?hvc0) (List.getElem?_toArray.trans rfl) (by kernel_rfl) (by kernel_rfl) (by kernel_rfl) (fun _ _ _ h => h) (Or.inl ⟨by rfl, ?hyc0⟩) (by assumption) ?hrc0
  case hyc0 => (intro wt hSw; (try dsimp only at hSw); go_simp; try (with_reducible rfl))
  try simp only [Act.put, List.setIfInBounds_toArray, List.set_cons_zero, List.set_cons_succ]
  refine wpAnyH_take (i := 1) (v := ?hvc1) (List.getElem?_toArray.trans rfl) (by kernel_rfl) (by kernel_rfl) (by kernel_rfl) (fun _ _ _ h => h) (Or.inl ⟨by rfl, ?hyc1⟩) (by assumption) ?hrc1
  case hyc1 => (intro wt hSw; (try dsimp only at hSw); go_simp; try (with_reducible rfl))
  try simp only [Act.put, List.setIfInBounds_toArray, List.set_cons_zero, List.set_cons_succ]
  refine wpAnyH_take (i := 2) (v := ?hvc2) (List.getElem?_toArray.trans rfl) (by kernel_rfl) (by kernel_rfl) (by kernel_rfl) (fun _ _ _ h => h) (Or.inl ⟨by rfl, ?hyc2⟩) (by assumption) ?hrc2
  case hyc2 => (intro wt hSw; (try dsimp only at hSw); go_simp; try (with_reducible rfl))
  try simp only [Act.put, List.setIfInBounds_toArray, List.set_cons_zero, List.set_cons_succ]
  refine wpAnyH_take (i := 4) (v := ?hvc4) (List.getElem?_toArray.trans rfl) (by kernel_rfl) (by kernel_rfl) (by kernel_rfl) (fun _ _ _ h => h) (Or.inl ⟨by rfl, ?hyc4⟩) (by assumption) ?hrc4
  case hyc4 => (intro wt hSw; (try dsimp only at hSw); go_simp; try (with_reducible rfl))
  try simp only [Act.put, List.setIfInBounds_toArray, List.set_cons_zero, List.set_cons_succ]
  refine wpAnyH_take (i := 5) (v := ?hvc5) (List.getElem?_toArray.trans rfl) (by kernel_rfl) (by kernel_rfl) (by kernel_rfl) (fun _ _ _ h => h) (Or.inl ⟨by rfl, ?hyc5⟩) (by assumption) ?hrc5
  case hyc5 => (intro wt hSw; (try dsimp only at hSw); go_simp; try (with_reducible rfl))
  try simp only [Act.put, List.setIfInBounds_toArray, List.set_cons_zero, List.set_cons_succ]
  refine wpAnyH_take (i := 6) (v := ?hvc6) (List.getElem?_toArray.trans rfl) (by kernel_rfl) (by kernel_rfl) (by kernel_rfl) (fun _ _ _ h => h) (Or.inl ⟨by rfl, ?hyc6⟩) (by assumption) ?hrc6
  case hyc6 => (intro wt hSw; (try dsimp only at hSw); go_simp; try (with_reducible rfl))
  try simp only [Act.put, List.setIfInBounds_toArray, List.set_cons_zero, List.set_cons_succ]
  refine wpAnyH_take (i := 8) (v := ?hvc8) (List.getElem?_toArray.trans rfl) (by kernel_rfl) (by kernel_rfl) (by kernel_rfl) (fun _ _ _ h => h) (Or.inl ⟨by rfl, ?hyc8⟩) (by assumption) ?hrc8
  case hyc8 => (intro wt hSw; (try dsimp only at hSw); go_simp; try (with_reducible rfl))
  try simp only [Act.put, List.setIfInBounds_toArray, List.set_cons_zero, List.set_cons_succ]
  refine wpAnyH_take (i := 9) (v := ?hvc9) (List.getElem?_toArray.trans rfl) (by kernel_rfl) (by kernel_rfl) (by kernel_rfl) (fun _ _ _ h => h) (Or.inl ⟨by rfl, ?hyc9⟩) (by assumption) ?hrc9
  case hyc9 => (intro wt hSw; (try dsimp only at hSw); go_simp; try (with_reducible rfl))
  try simp only [Act.put, List.setIfInBounds_toArray, List.set_cons_zero, List.set_cons_succ]
  refine wpAnyH_ready (rs := [3]) (by kernel_rfl) (by simp) ?_
  refine AllReadyH.cons (List.getElem?_toArray.trans rfl) (fun K hK => ?_) AllReadyH.nil
  go_simp
  go_at_call 49
  refine (Cb.out _ _ _ _ ?_ r7).mono ?_
  assumption
  rintro e vb ⟨⟨ab, nb, cb, rfl, rb⟩, kb⟩
  clear Cb r7
  try (go_wp2_with fail)
  refine hK.out _ _ ?_ (fun hHeld => ?_)
  · (try dsimp only)
    assumption
  clear hK K
  try simp only [Act.put, List.setIfInBounds_toArray, List.set_cons_zero, List.set_cons_succ]
  refine wpAnyH_ready (rs := [7]) (by kernel_rfl) (by simp) ?_
  refine AllReadyH.cons (List.getElem?_toArray.trans rfl) (fun K hK => ?_) AllReadyH.nil
  go_simp
  go_at_call 47
  refine (Co.out _ _ _ _ ?_ rb).mono ?_
  assumption
  rintro e vo ⟨⟨ao, no, co, rfl, ro⟩, ko⟩
  clear Co rb
  try (go_wp2_with fail)
  refine hK.out _ _ ?_ (fun hHeld => ?_)
  · (try dsimp only)
    assumption
  clear hK K
  try simp only [Act.put, List.setIfInBounds_toArray, List.set_cons_zero, List.set_cons_succ]
  refine wpAnyH_ready (rs := [10]) (by kernel_rfl) (by simp) ?_
  refine AllReadyH.cons (List.getElem?_toArray.trans rfl) (fun K hK => ?_) AllReadyH.nil
  go_simp
  go_at_call 48
  refine (Cd.out _ _ _ _ ?_ ro).mono ?_
  assumption
  rintro e vd ⟨⟨ad, nd, cd, rfl, rd⟩, kdd⟩
  clear Cd ro
  try (go_wp2_with fail)
  refine hK.out _ _ ?_ (fun hHeld => ?_)
  · (try dsimp only)
    assumption
  clear hK K
  try simp only [Act.put, List.setIfInBounds_toArray, List.set_cons_zero, List.set_cons_succ]
  refine wpAnyH_take (i := 11) (v := ?hvc11) (List.getElem?_toArray.trans rfl) (by kernel_rfl) (by kernel_rfl) (by kernel_rfl) (fun _ _ _ h => h) (Or.inl ⟨by rfl, ?hyc11⟩) (by assumption) ?hrc11
  case hyc11 => (intro wt hSw; (try dsimp only at hSw); go_simp; try (with_reducible rfl))
  try simp only [Act.put, List.setIfInBounds_toArray, List.set_cons_zero, List.set_cons_succ]
  refine wpAnyH_done (by kernel_rfl) ?_ _
  refine NoPanic.normal ?_
  obtain ⟨hFd, q0, q1, q2, q3, q4, q5, q6, q7, q8, q9, qa, qb⟩ := id kdd
  go_wp2_with fail
  refine (Cn.out _ _ _ _ ?_ rd).mono ?_
  assumption
  rintro e vn ⟨⟨an, nn, cn, rfl, rn⟩, kn⟩
  clear Cn rd kb ko hFd q0 q1 q2 q3 q4 q5 q6 q7 q8 q9 qa qb S2
  go_wp2_with fail
  go_loopw [3, 4] (fun v3 v4 V => ∃ (k : Nat) (a' : Option Addr) (n' c' : Nat), k ≤ en ∧ v4 = .int .i64 k ∧ v3 = .slice a' n' c' ∧ Hid (HoldB w.heap.size V a' n' c' (Ln ++ PK.encEs ((es.take k).map RE.ent))) ∧ Hid ((Hid (Below (w.heap.size + 1) Wa V) ∧ V.cell? ⟨w.heap.size, 0, none⟩ = some (.int .i64 kd) ∧ V.cell? ⟨w.heap.size, 1, none⟩ = some (.int .i64 fr) ∧ V.cell? ⟨w.heap.size, 2, none⟩ = some (.int .i64 to) ∧ V.cell? ⟨w.heap.size, 3, none⟩ = some (.int .i64 tm) ∧ V.cell? ⟨w.heap.size, 4, none⟩ = some (.int .i64 ix) ∧ V.cell? ⟨w.heap.size, 5, none⟩ = some (.int .i64 lt) ∧ V.cell? ⟨w.heap.size, 6, none⟩ = some (.int .i64 cm) ∧ V.cell? ⟨w.heap.size, 7, none⟩ = some (.int .i64 ro) ∧ V.cell? ⟨w.heap.size, 8, none⟩ = some (.bool ok) ∧ V.cell? ⟨w.heap.size, 9, none⟩ = some (.int .i64 off) ∧ V.cell? ⟨w.heap.size, 10, none⟩ = some (.slice da dn dc) ∧ V.cell? ⟨w.heap.size, 11, none⟩ = some (.slice ea en ec)))) (fun _ v4 _ => en - (intOf v4).toNat)
  case atStart => exact ⟨0, an, nn, cn, Nat.zero_le _, rfl, rfl, Lib.hid (by simpa [PK.encEs] using rn.out), Lib.hid kn⟩
  case round =>
    obtain ⟨k, a', n', c', hk, rfl, rfl, X1, K1⟩ := hrel
    obtain ⟨_, q0, q1, q2, q3, q4, q5, q6, q7, q8, q9, qa, qb⟩ := K1.out
    clear q0 q1 q2 q3 q4 q5 q6 q7 q8 q9 qa rn kn
    by_cases hlt : k < en
    · have hkl : k < es.length := by rw [HEL.out]; exact hlt
      obtain ⟨x, hx⟩ : ∃ x, es[k]? = some x := ⟨_, List.getElem?_eq_getElem hkl⟩
      obtain ⟨⟨b, o, rfl, c0, c1, c2, c3⟩, hf⟩ := (HES.out.below (fin.out wr K1.out)).at k x hx
      have henc := encEs_take hx
      have hle := encEs_take_le es (k + 1)
      rw [henc, List.length_append, bB_len_eq] at hle
      have hge := encE_ge x.ent
      have hrm := HR.out
      have hdl : x.d.length ≤ (PK.encE x.ent).length := hge
      have r1 : x.d.length + 400 ≤ roomB := by omega
      have hnl := X1.out.1
      rw [List.length_append] at hnl
      have r2 : n' + (PK.encE x.ent).length + 100 ≤ roomB := by omega
      have hnext : Ln ++ PK.encEs ((es.take (k + 1)).map RE.ent) = Ln ++ PK.encEs ((es.take k).map RE.ent) ++ PK.bB (PK.encE x.ent) := by rw [henc, List.append_assoc]
      have HEn := Lib.hid (rencE_any x.ent x.a x.n x.c wr hf.bytes r1)
      have Hnext := Lib.hid hnext
      have R2 := Lib.hid r2
      generalize PK.encE x.ent = E at *
      generalize Ln ++ PK.encEs ((es.take k).map RE.ent) = Lk at *
      simp only [RE.ent] at HEn
      generalize x.i = xi at *
      generalize x.t = xt at *
      generalize x.k = xk at *
      generalize x.a = xa at *
      generalize x.n = xn at *
      generalize x.c = xc at *
      clear hx hf henc hle hge hrm hdl r1 r2 hnext hkl hnl
      go_wp2_with fail
      refine HEn.out.mono ?_
      rintro e V2 ⟨⟨a5, n5, c5, rfl, hn5, o5, _⟩, b5⟩
      have HC := Lib.hid (rbytes_w a' n' c' Lk a5 n5 c5 E V2 X1.out.1 hn5 (X1.out.below b5).2.1.isB o5.isB (by have := R2.out; omega))
      have K2 := Lib.hid (step.out wr V2 K1.out b5)
      have HN5 := Lib.hid hn5
      clear o5 hn5 b5 HEn X1 K1 c0 c1 c2 c3 qb
      go_wp2_with fail
      refine HC.out.mono ?_
      rintro e V3 hr
      obtain ⟨⟨a6, n6, c6, rfl, r6⟩, k6⟩ := res.out V2 V3 e _ K2.out hr
      have X6 : Hid (HoldB w.heap.size V3 a6 n6 c6 (Ln ++ PK.encEs ((es.take (k + 1)).map RE.ent))) := Lib.hid (by rw [Hnext.out, PK.bB, HN5.out, ← List.append_assoc]; exact r6.out)
      have K6 := Lib.hid k6
      clear hr HC K2 r6 k6
      go_wp2
      exact ⟨⟨k + 1, a6, n6, c6, hlt, by simp, rfl, X6, K6⟩, by simp [intOf]; omega⟩
    · obtain rfl : k = en := by omega
      have X7 : Hid (HoldB w.heap.size wr a' n' c' (Ln ++ PK.encEs (es.map RE.ent))) := Lib.hid (by have := X1.out; rwa [List.take_of_length_le (by rw [HEL.out]; exact Nat.le_refl _)] at this)
      have B7 := Lib.hid (fin.out wr K1.out)
      clear X1 K1
      go_wp2
      go_ret
      exact ⟨⟨a', n', c', rfl, X7.out⟩, B7.out⟩
end Go.Proofs.YtbgockggbpmhnaaGreatDoor
namespace Go.Proofs.YtbgockggbpmhnaaGreatDoor
open Go Go.RowKit

theorem encEs_short : ∀ (l : List RE), (∀ x ∈ l, x.d.length ≤ 30000) → (PK.encEs (l.map RE.ent)).length ≤ 30200 * l.length
  | [], _ => by simp [PK.encEs]
  | x :: r, h => by
    have h0 := h x (by simp)
    have h1 := PK.encE_len x.ent (by show x.d.length < _; omega)
    have h2 := PK.bB_len (PK.encE x.ent) (by have : x.ent.d.length = x.d.length := rfl; omega)
    have h3 := encEs_short r (fun y hy => h y (by simp [hy]))
    have h4 : x.ent.d.length = x.d.length := rfl
    simp only [List.map_cons, PK.encEs, List.length_append, List.length_cons]
    omega
theorem short_room {w : World} {x : RM} (hf : x.Fit w) (h : x.long = false) : (PK.encM x.msg).length + 1000 ≤ roomB ∧ x.en ≤ 1000 := by
  unfold RM.long at h
  rw [Bool.or_eq_false_iff] at h
  have h1 := of_decide_eq_false h.1
  obtain ⟨h2, h3⟩ := longE_no h.2
  have h4 := encEs_short x.es (fun y hy => by
    obtain ⟨i, hi⟩ := List.mem_iff_getElem?.1 hy
    have := (hf.ents.at i y hi).2.len
    have := h3 y hy
    omega)
  have h5 := hf.len
  have h6 := hf.ents.len.1
  have h7 := PK.encM_len x.msg (by show x.d.length < _; omega) (by show (x.es.map RE.ent).length < _; rw [List.length_map]; omega)
  have h8 : x.msg.d.length = x.d.length := rfl
  have h9 : x.msg.es = x.es.map RE.ent := rfl
  rw [h9] at h7
  refine ⟨by simp only [roomB]; omega, by omega⟩
set_option maxRecDepth 100000 in
set_option maxHeartbeats 8000000 in
theorem msgSeals_any (x : RM) (w : World) (hE : Env w) (hf : x.Fit w) (hd : x.dn ≤ roomB) (hb : ∀ y ∈ x.es, y.n ≤ roomB) :
    Calls Tryz.prog 8 #[x.val] w fun e w' => e = .returned (.bool true) ∧ Below w.heap.size w w' := by
  have HL := Lib.hid (fun (V : World) (b : Below w.heap.size w V) => longMsg_any x V (hf.below b) hb)
  have HSu := Lib.hid (fun (V : World) (b : Below w.heap.size w V) => sure_any V (hE.below b))
  have hshort : x.long = false → (PK.encM x.msg).length + 1000 ≤ roomB ∧ x.en ≤ 1000 := fun h => short_room hf h
  have HG := Lib.hid (fun (V : World) (b : Below w.heap.size w V) (hn : x.en ≤ 1000) => giveMsg_any x V (hf.below b) hn hd hb)
  have HE2 := Lib.hid (fun (V : World) (b : Below w.heap.size w V) (hr : (PK.encM x.msg).length + 1000 ≤ roomB) => rencM_any x V (hf.below b) hr)
  have HSe : Hid (∀ (V : World) (y : RM), Below w.heap.size w V → y.Fit V → y.msg = x.msg → (PK.encM x.msg).length + 1000 ≤ roomB → Calls Tryz.prog 22 #[y.val] V fun e w' => RW V w' e (PK.sealM x.msg)) := fun V y b hy hm hr => by
    rw [← hm] at hr ⊢
    exact mseal_any y V (hE.below b) hy hr
  have HRs : Hid (∀ (V : World) (a : Option Addr) (n c : Nat), (PK.encM x.msg).length = n → IsB V (.slice a n c) (PK.encM x.msg) → Calls Tryz.prog 19 #[.int .u8 109, .slice a n c] V fun e w' => (∃ a n c r, e = .returned (.tuple #[.slice a n c, r]) ∧ IsB w' (.slice a n c) (PK.sealM x.msg)) ∧ Below V.heap.size V w') := fun V a n c hn hi =>
    (rseal_any a n c (PK.encM x.msg) V hn hi).mono fun e w' ⟨h, b⟩ => by
      rcases h with ⟨hlt, rfl⟩ | ⟨hlt, a', n', c', rfl, hh⟩
      · exact ⟨⟨none, 0, 0, _, rfl, by unfold PK.sealM; rw [if_pos hlt]; exact IsB.nil _⟩, b⟩
      · exact ⟨⟨a', n', c', _, rfl, by unfold PK.sealM; rw [if_neg hlt]; exact hh.out.2.1.isB⟩, b⟩
  have HSh := Lib.hid hshort
  generalize x.long = LG at *
  obtain ⟨kd, fr, to, tm, ix, lt, cm, ro, ok, off, da, dn, dc, d, ea, en, ec, es⟩ := x
  obtain ⟨msg, hmsg⟩ : ∃ m, m = RM.msg ⟨kd, fr, to, tm, ix, lt, cm, ro, ok, off, da, dn, dc, d, ea, en, ec, es⟩ := ⟨_, rfl⟩
  rw [← hmsg] at HG HE2 HSe HRs HSh
  simp only [RM.val] at HL HG HE2 ⊢
  clear hE hf hd hb hshort hmsg
  obtain ⟨Wa, hWa⟩ : ∃ W, W = w.alloc (.cells #[.int .i64 kd, .int .i64 fr, .int .i64 to, .int .i64 tm, .int .i64 ix, .int .i64 lt, .int .i64 cm, .int .i64 ro, .bool ok, .int .i64 off, .slice da dn dc, .slice ea en ec] 25) := ⟨_, rfl⟩
  have gA : Hid (Wa.heap[w.heap.size]? = some (.cells #[.int .i64 kd, .int .i64 fr, .int .i64 to, .int .i64 tm, .int .i64 ix, .int .i64 lt, .int .i64 cm, .int .i64 ro, .bool ok, .int .i64 off, .slice da dn dc, .slice ea en ec] 25)) := Lib.hid (by rw [hWa]; exact heap_alloc_new _ _)
  have hBa : Hid (Below w.heap.size w Wa) := Lib.hid (by rw [hWa]; exact (Below.refl _ _).alloc (Nat.le_refl _) _)
  have HL1 := Lib.hid (HL.out Wa hBa.out)
  obtain ⟨⟨p0, p1, p2, p3, p4, p5, p6, p7, p8, p9, pa, pb⟩, _⟩ := cells12 gA.out
  cases LG with
  | true =>
    clear HL HG HE2 HSe HRs HSh
    go_enter Tryz.func8, Tryz.ntmps8
    go_wp2_with fail
    rw [← hWa]
    clear hWa
    refine HL1.out.mono ?_
    rintro e w1 ⟨rfl, b1⟩
    have B1 : Hid (Below w.heap.size w w1) := hBa.out.trans (b1.mono hBa.out.size)
    have HS1 := Lib.hid (HSu.out w1 B1.out)
    clear HL1 b1 HSu p0 p1 p2 p3 p4 p5 p6 p7 p8 p9 pa pb
    go_wp2_with fail
    refine HS1.out.mono ?_
    rintro e w2 ⟨rfl, b2⟩
    have B2 : Hid (Below w.heap.size w w2) := B1.out.trans (b2.mono B1.out.size)
    clear HS1 b2
    go_wp2
    go_ret
    exact ⟨rfl, B2.out⟩
  | false =>
    obtain ⟨hr, hen⟩ := HSh.out rfl
    have HRm := Lib.hid hr
    have HEn := Lib.hid hen
    clear HL HSh hr hen
    go_enter Tryz.func8, Tryz.ntmps8
    go_wp2_with fail
    rw [← hWa]
    clear hWa
    refine HL1.out.mono ?_
    rintro e w1 ⟨rfl, b1⟩
    have G1 := Lib.hid ((b1.block _ (Array.getElem?_eq_some_iff.1 gA.out).1).trans gA.out)
    have B1 : Hid (Below w.heap.size w w1) := hBa.out.trans (b1.mono hBa.out.size)
    have HE3 := Lib.hid (HE2.out w1 B1.out HRm.out)
    clear HL1 b1 HE2 gA p0 p1 p2 p3 p4 p5 p6 p7 p8 p9 pa pb
    obtain ⟨⟨p0, p1, p2, p3, p4, p5, p6, p7, p8, p9, pa, pb⟩, _⟩ := cells12 G1.out
    go_wp2_with fail
    refine HE3.out.mono ?_
    rintro e w2 ⟨⟨a2, n2, c2, rfl, hn2, o2, _⟩, b2⟩
    have G2 := Lib.hid ((b2.block _ (Array.getElem?_eq_some_iff.1 G1.out).1).trans G1.out)
    have B2 : Hid (Below w.heap.size w w2) := B1.out.trans (b2.mono B1.out.size)
    have HR1 := Lib.hid (HRs.out w2 a2 n2 c2 hn2 o2.isB)
    clear HE3 b2 o2 hn2 HRs G1 p0 p1 p2 p3 p4 p5 p6 p7 p8 p9 pa pb
    go_wp2_with fail
    refine HR1.out.mono ?_
    rintro e Wb ⟨⟨a3, n3, c3, r3, rfl, i3⟩, b3⟩
    have gb := (b3.block _ (Array.getElem?_eq_some_iff.1 G2.out).1).trans G2.out
    have hlt : w.heap.size < Wb.heap.size := (Array.getElem?_eq_some_iff.1 gb).1
    have B3 : Hid (Below w.heap.size w Wb) := B2.out.trans (b3.mono B2.out.size)
    obtain ⟨⟨p0, p1, p2, p3, p4, p5, p6, p7, p8, p9, pa, pb⟩, _⟩ := cells12 gb
    have cont : Hid (∀ V, Below Wb.heap.size Wb V → (Hid (Below Wb.heap.size Wb V) ∧ V.cell? ⟨w.heap.size, 0, none⟩ = some (.int .i64 kd) ∧ V.cell? ⟨w.heap.size, 1, none⟩ = some (.int .i64 fr) ∧ V.cell? ⟨w.heap.size, 2, none⟩ = some (.int .i64 to) ∧ V.cell? ⟨w.heap.size, 3, none⟩ = some (.int .i64 tm) ∧ V.cell? ⟨w.heap.size, 4, none⟩ = some (.int .i64 ix) ∧ V.cell? ⟨w.heap.size, 5, none⟩ = some (.int .i64 lt) ∧ V.cell? ⟨w.heap.size, 6, none⟩ = some (.int .i64 cm) ∧ V.cell? ⟨w.heap.size, 7, none⟩ = some (.int .i64 ro) ∧ V.cell? ⟨w.heap.size, 8, none⟩ = some (.bool ok) ∧ V.cell? ⟨w.heap.size, 9, none⟩ = some (.int .i64 off) ∧ V.cell? ⟨w.heap.size, 10, none⟩ = some (.slice da dn dc) ∧ V.cell? ⟨w.heap.size, 11, none⟩ = some (.slice ea en ec))) := fun V h => by
      have hk := h.block w.heap.size hlt
      exact ⟨Lib.hid h, (World.cell?_of_block hk).trans p0, (World.cell?_of_block hk).trans p1, (World.cell?_of_block hk).trans p2, (World.cell?_of_block hk).trans p3, (World.cell?_of_block hk).trans p4, (World.cell?_of_block hk).trans p5, (World.cell?_of_block hk).trans p6, (World.cell?_of_block hk).trans p7, (World.cell?_of_block hk).trans p8, (World.cell?_of_block hk).trans p9, (World.cell?_of_block hk).trans pa, (World.cell?_of_block hk).trans pb⟩
    have fin : Hid (∀ V, (Hid (Below Wb.heap.size Wb V) ∧ V.cell? ⟨w.heap.size, 0, none⟩ = some (.int .i64 kd) ∧ V.cell? ⟨w.heap.size, 1, none⟩ = some (.int .i64 fr) ∧ V.cell? ⟨w.heap.size, 2, none⟩ = some (.int .i64 to) ∧ V.cell? ⟨w.heap.size, 3, none⟩ = some (.int .i64 tm) ∧ V.cell? ⟨w.heap.size, 4, none⟩ = some (.int .i64 ix) ∧ V.cell? ⟨w.heap.size, 5, none⟩ = some (.int .i64 lt) ∧ V.cell? ⟨w.heap.size, 6, none⟩ = some (.int .i64 cm) ∧ V.cell? ⟨w.heap.size, 7, none⟩ = some (.int .i64 ro) ∧ V.cell? ⟨w.heap.size, 8, none⟩ = some (.bool ok) ∧ V.cell? ⟨w.heap.size, 9, none⟩ = some (.int .i64 off) ∧ V.cell? ⟨w.heap.size, 10, none⟩ = some (.slice da dn dc) ∧ V.cell? ⟨w.heap.size, 11, none⟩ = some (.slice ea en ec)) → Below w.heap.size w V) := fun V h => B3.out.trans (h.1.out.mono B3.out.size)
    have step : Hid (∀ V V', (Hid (Below Wb.heap.size Wb V) ∧ V.cell? ⟨w.heap.size, 0, none⟩ = some (.int .i64 kd) ∧ V.cell? ⟨w.heap.size, 1, none⟩ = some (.int .i64 fr) ∧ V.cell? ⟨w.heap.size, 2, none⟩ = some (.int .i64 to) ∧ V.cell? ⟨w.heap.size, 3, none⟩ = some (.int .i64 tm) ∧ V.cell? ⟨w.heap.size, 4, none⟩ = some (.int .i64 ix) ∧ V.cell? ⟨w.heap.size, 5, none⟩ = some (.int .i64 lt) ∧ V.cell? ⟨w.heap.size, 6, none⟩ = some (.int .i64 cm) ∧ V.cell? ⟨w.heap.size, 7, none⟩ = some (.int .i64 ro) ∧ V.cell? ⟨w.heap.size, 8, none⟩ = some (.bool ok) ∧ V.cell? ⟨w.heap.size, 9, none⟩ = some (.int .i64 off) ∧ V.cell? ⟨w.heap.size, 10, none⟩ = some (.slice da dn dc) ∧ V.cell? ⟨w.heap.size, 11, none⟩ = some (.slice ea en ec)) → Below V.heap.size V V' → (Hid (Below Wb.heap.size Wb V') ∧ V'.cell? ⟨w.heap.size, 0, none⟩ = some (.int .i64 kd) ∧ V'.cell? ⟨w.heap.size, 1, none⟩ = some (.int .i64 fr) ∧ V'.cell? ⟨w.heap.size, 2, none⟩ = some (.int .i64 to) ∧ V'.cell? ⟨w.heap.size, 3, none⟩ = some (.int .i64 tm) ∧ V'.cell? ⟨w.heap.size, 4, none⟩ = some (.int .i64 ix) ∧ V'.cell? ⟨w.heap.size, 5, none⟩ = some (.int .i64 lt) ∧ V'.cell? ⟨w.heap.size, 6, none⟩ = some (.int .i64 cm) ∧ V'.cell? ⟨w.heap.size, 7, none⟩ = some (.int .i64 ro) ∧ V'.cell? ⟨w.heap.size, 8, none⟩ = some (.bool ok) ∧ V'.cell? ⟨w.heap.size, 9, none⟩ = some (.int .i64 off) ∧ V'.cell? ⟨w.heap.size, 10, none⟩ = some (.slice da dn dc) ∧ V'.cell? ⟨w.heap.size, 11, none⟩ = some (.slice ea en ec))) := fun V V' h b => cont.out V' (h.1.out.trans (b.mono h.1.out.size))
    have econv : ∀ V : World, Hid (Below Wb.heap.size Wb V) → (convert 22 9 (.slice a3 n3 c3)).run Tryz.prog V = .ok (.string (str (PK.sealM msg))) V := fun V h => run_toStr T22 U9 (i3.below h.out)
    have C14 : Hid (∀ V, (Hid (Below Wb.heap.size Wb V) ∧ V.cell? ⟨w.heap.size, 0, none⟩ = some (.int .i64 kd) ∧ V.cell? ⟨w.heap.size, 1, none⟩ = some (.int .i64 fr) ∧ V.cell? ⟨w.heap.size, 2, none⟩ = some (.int .i64 to) ∧ V.cell? ⟨w.heap.size, 3, none⟩ = some (.int .i64 tm) ∧ V.cell? ⟨w.heap.size, 4, none⟩ = some (.int .i64 ix) ∧ V.cell? ⟨w.heap.size, 5, none⟩ = some (.int .i64 lt) ∧ V.cell? ⟨w.heap.size, 6, none⟩ = some (.int .i64 cm) ∧ V.cell? ⟨w.heap.size, 7, none⟩ = some (.int .i64 ro) ∧ V.cell? ⟨w.heap.size, 8, none⟩ = some (.bool ok) ∧ V.cell? ⟨w.heap.size, 9, none⟩ = some (.int .i64 off) ∧ V.cell? ⟨w.heap.size, 10, none⟩ = some (.slice da dn dc) ∧ V.cell? ⟨w.heap.size, 11, none⟩ = some (.slice ea en ec)) → Calls Tryz.prog 14 #[.agg #[.int .i64 kd, .int .i64 fr, .int .i64 to, .int .i64 tm, .int .i64 ix, .int .i64 lt, .int .i64 cm, .int .i64 ro, .bool ok, .int .i64 off, .slice da dn dc, .slice ea en ec]] V fun e w' => (∃ y : RM, e = .returned y.val ∧ Hid (y.Fit w' ∧ y.msg = msg)) ∧ (Hid (Below Wb.heap.size Wb w') ∧ w'.cell? ⟨w.heap.size, 0, none⟩ = some (.int .i64 kd) ∧ w'.cell? ⟨w.heap.size, 1, none⟩ = some (.int .i64 fr) ∧ w'.cell? ⟨w.heap.size, 2, none⟩ = some (.int .i64 to) ∧ w'.cell? ⟨w.heap.size, 3, none⟩ = some (.int .i64 tm) ∧ w'.cell? ⟨w.heap.size, 4, none⟩ = some (.int .i64 ix) ∧ w'.cell? ⟨w.heap.size, 5, none⟩ = some (.int .i64 lt) ∧ w'.cell? ⟨w.heap.size, 6, none⟩ = some (.int .i64 cm) ∧ w'.cell? ⟨w.heap.size, 7, none⟩ = some (.int .i64 ro) ∧ w'.cell? ⟨w.heap.size, 8, none⟩ = some (.bool ok) ∧ w'.cell? ⟨w.heap.size, 9, none⟩ = some (.int .i64 off) ∧ w'.cell? ⟨w.heap.size, 10, none⟩ = some (.slice da dn dc) ∧ w'.cell? ⟨w.heap.size, 11, none⟩ = some (.slice ea en ec))) := fun V h => (HG.out V (fin.out V h) HEn.out).mono fun e w' ⟨⟨y, e1, e2, e3⟩, e4⟩ => ⟨⟨y, e1, Lib.hid ⟨e2, e3⟩⟩, step.out V w' h e4⟩
    have C22 : Hid (∀ V (y : RM), (Hid (Below Wb.heap.size Wb V) ∧ V.cell? ⟨w.heap.size, 0, none⟩ = some (.int .i64 kd) ∧ V.cell? ⟨w.heap.size, 1, none⟩ = some (.int .i64 fr) ∧ V.cell? ⟨w.heap.size, 2, none⟩ = some (.int .i64 to) ∧ V.cell? ⟨w.heap.size, 3, none⟩ = some (.int .i64 tm) ∧ V.cell? ⟨w.heap.size, 4, none⟩ = some (.int .i64 ix) ∧ V.cell? ⟨w.heap.size, 5, none⟩ = some (.int .i64 lt) ∧ V.cell? ⟨w.heap.size, 6, none⟩ = some (.int .i64 cm) ∧ V.cell? ⟨w.heap.size, 7, none⟩ = some (.int .i64 ro) ∧ V.cell? ⟨w.heap.size, 8, none⟩ = some (.bool ok) ∧ V.cell? ⟨w.heap.size, 9, none⟩ = some (.int .i64 off) ∧ V.cell? ⟨w.heap.size, 10, none⟩ = some (.slice da dn dc) ∧ V.cell? ⟨w.heap.size, 11, none⟩ = some (.slice ea en ec)) → Hid (y.Fit V ∧ y.msg = msg) → Calls Tryz.prog 22 #[y.val] V fun e w' => (∃ a n c, e = .returned (.slice a n c) ∧ (convert 22 9 (.slice a n c)).run Tryz.prog w' = .ok (.string (str (PK.sealM msg))) w') ∧ (Hid (Below Wb.heap.size Wb w') ∧ w'.cell? ⟨w.heap.size, 0, none⟩ = some (.int .i64 kd) ∧ w'.cell? ⟨w.heap.size, 1, none⟩ = some (.int .i64 fr) ∧ w'.cell? ⟨w.heap.size, 2, none⟩ = some (.int .i64 to) ∧ w'.cell? ⟨w.heap.size, 3, none⟩ = some (.int .i64 tm) ∧ w'.cell? ⟨w.heap.size, 4, none⟩ = some (.int .i64 ix) ∧ w'.cell? ⟨w.heap.size, 5, none⟩ = some (.int .i64 lt) ∧ w'.cell? ⟨w.heap.size, 6, none⟩ = some (.int .i64 cm) ∧ w'.cell? ⟨w.heap.size, 7, none⟩ = some (.int .i64 ro) ∧ w'.cell? ⟨w.heap.size, 8, none⟩ = some (.bool ok) ∧ w'.cell? ⟨w.heap.size, 9, none⟩ = some (.int .i64 off) ∧ w'.cell? ⟨w.heap.size, 10, none⟩ = some (.slice da dn dc) ∧ w'.cell? ⟨w.heap.size, 11, none⟩ = some (.slice ea en ec))) := fun V y h hy =>
      (HSe.out V y (fin.out V h) hy.out.1 hy.out.2 HRm.out).mono fun e w' ⟨⟨a, n, c, e1, _, e2, _⟩, e3⟩ => ⟨⟨a, n, c, e1, run_toStr T22 U9 e2.isB⟩, step.out V w' h e3⟩
    have C10 : Hid (∀ V, (Hid (Below Wb.heap.size Wb V) ∧ V.cell? ⟨w.heap.size, 0, none⟩ = some (.int .i64 kd) ∧ V.cell? ⟨w.heap.size, 1, none⟩ = some (.int .i64 fr) ∧ V.cell? ⟨w.heap.size, 2, none⟩ = some (.int .i64 to) ∧ V.cell? ⟨w.heap.size, 3, none⟩ = some (.int .i64 tm) ∧ V.cell? ⟨w.heap.size, 4, none⟩ = some (.int .i64 ix) ∧ V.cell? ⟨w.heap.size, 5, none⟩ = some (.int .i64 lt) ∧ V.cell? ⟨w.heap.size, 6, none⟩ = some (.int .i64 cm) ∧ V.cell? ⟨w.heap.size, 7, none⟩ = some (.int .i64 ro) ∧ V.cell? ⟨w.heap.size, 8, none⟩ = some (.bool ok) ∧ V.cell? ⟨w.heap.size, 9, none⟩ = some (.int .i64 off) ∧ V.cell? ⟨w.heap.size, 10, none⟩ = some (.slice da dn dc) ∧ V.cell? ⟨w.heap.size, 11, none⟩ = some (.slice ea en ec)) → Calls Tryz.prog 10 #[] V fun e w' => e = .returned (.bool true) ∧ (Hid (Below Wb.heap.size Wb w') ∧ w'.cell? ⟨w.heap.size, 0, none⟩ = some (.int .i64 kd) ∧ w'.cell? ⟨w.heap.size, 1, none⟩ = some (.int .i64 fr) ∧ w'.cell? ⟨w.heap.size, 2, none⟩ = some (.int .i64 to) ∧ w'.cell? ⟨w.heap.size, 3, none⟩ = some (.int .i64 tm) ∧ w'.cell? ⟨w.heap.size, 4, none⟩ = some (.int .i64 ix) ∧ w'.cell? ⟨w.heap.size, 5, none⟩ = some (.int .i64 lt) ∧ w'.cell? ⟨w.heap.size, 6, none⟩ = some (.int .i64 cm) ∧ w'.cell? ⟨w.heap.size, 7, none⟩ = some (.int .i64 ro) ∧ w'.cell? ⟨w.heap.size, 8, none⟩ = some (.bool ok) ∧ w'.cell? ⟨w.heap.size, 9, none⟩ = some (.int .i64 off) ∧ w'.cell? ⟨w.heap.size, 10, none⟩ = some (.slice da dn dc) ∧ w'.cell? ⟨w.heap.size, 11, none⟩ = some (.slice ea en ec))) := fun V h => (HSu.out V (fin.out V h)).mono fun e w' ⟨e1, e2⟩ => ⟨e1, step.out V w' h e2⟩
    have S0 := cont.out Wb.drew (Below.refl _ _).drew
    generalize str (PK.sealM msg) = sT at *
    clear HG HSe HSu HR1 b3 G2 gb hlt cont B1 B2 B3 hBa HRm HEn p0 p1 p2 p3 p4 p5 p6 p7 p8 p9 pa pb
    go_wp2_with fail
    refine wp_region_noPanic ?_
    refine wp_region_held_drew (S := fun V => (Hid (Below Wb.heap.size Wb V) ∧ V.cell? ⟨w.heap.size, 0, none⟩ = some (.int .i64 kd) ∧ V.cell? ⟨w.heap.size, 1, none⟩ = some (.int .i64 fr) ∧ V.cell? ⟨w.heap.size, 2, none⟩ = some (.int .i64 to) ∧ V.cell? ⟨w.heap.size, 3, none⟩ = some (.int .i64 tm) ∧ V.cell? ⟨w.heap.size, 4, none⟩ = some (.int .i64 ix) ∧ V.cell? ⟨w.heap.size, 5, none⟩ = some (.int .i64 lt) ∧ V.cell? ⟨w.heap.size, 6, none⟩ = some (.int .i64 cm) ∧ V.cell? ⟨w.heap.size, 7, none⟩ = some (.int .i64 ro) ∧ V.cell? ⟨w.heap.size, 8, none⟩ = some (.bool ok) ∧ V.cell? ⟨w.heap.size, 9, none⟩ = some (.int .i64 off) ∧ V.cell? ⟨w.heap.size, 10, none⟩ = some (.slice da dn dc) ∧ V.cell? ⟨w.heap.size, 11, none⟩ = some (.slice ea en ec))) (by kernel_rfl) S0 (fun hHeld => ?_)
    refine wpAnyH_take (i := 0) (v := ?hv0) (List.getElem?_toArray.trans rfl) (by kernel_rfl) (by kernel_rfl) (by kernel_rfl) (fun _ _ _ h => h) (Or.inl ⟨by rfl, ?hy0⟩) (by assumption) ?hr0
    case hy0 => (intro wt hSw; (try dsimp only at hSw); go_simp; try (with_reducible rfl))
    try simp only [Act.put, List.setIfInBounds_toArray, List.set_cons_zero, List.set_cons_succ]
    refine wpAnyH_take (i := 4) (v := ?hv4) (List.getElem?_toArray.trans rfl) (by kernel_rfl) (by kernel_rfl) (by kernel_rfl) (fun _ _ _ h => h) (Or.inl ⟨by rfl, ?hy4⟩) (by assumption) ?hr4
    case hy4 => (intro wt hSw; (try dsimp only at hSw); go_simp; try (with_reducible rfl))
    try simp only [Act.put, List.setIfInBounds_toArray, List.set_cons_zero, List.set_cons_succ]
    refine wpAnyH_take (i := 5) (v := ?hv5) (List.getElem?_toArray.trans rfl) (by kernel_rfl) (by kernel_rfl) (by kernel_rfl) (fun _ _ _ h => h) (Or.inl ⟨by rfl, ?hy5⟩) (by assumption) ?hr5
    case hy5 => (intro wt hSw; (try dsimp only at hSw); go_simp; try (with_reducible rfl))
    try simp only [Act.put, List.setIfInBounds_toArray, List.set_cons_zero, List.set_cons_succ]
    refine wpAnyH_ready (rs := [1]) (by kernel_rfl) (by simp) ?_
    refine AllReadyH.cons (List.getElem?_toArray.trans rfl) (fun K hK => ?_) AllReadyH.nil
    go_simp
    go_at_call 14
    refine (C14.out _ ?_).mono ?_
    assumption
    rintro e v1 ⟨⟨y, rfl, hy⟩, k1⟩
    clear C14
    try (go_wp2_with fail)
    refine hK.out _ _ ?_ (fun hHeld => ?_)
    · (try dsimp only)
      assumption
    clear hK K
    try simp only [Act.put, List.setIfInBounds_toArray, List.set_cons_zero, List.set_cons_succ]
    refine wpAnyH_ready (rs := [2]) (by kernel_rfl) (by simp) ?_
    refine AllReadyH.cons (List.getElem?_toArray.trans rfl) (fun K hK => ?_) AllReadyH.nil
    go_simp
    go_at_call 22
    refine (C22.out _ _ ?_ hy).mono ?_
    assumption
    rintro e v2 ⟨⟨a5, n5, c5, rfl, hcv⟩, k2⟩
    clear C22 hy k1
    try (go_wp2_with fail)
    refine hK.out _ _ ?_ (fun hHeld => ?_)
    · (try dsimp only)
      assumption
    clear hK K
    try simp only [Act.put, List.setIfInBounds_toArray, List.set_cons_zero, List.set_cons_succ]
    refine wpAnyH_ready (rs := [3]) (by kernel_rfl) (by simp) ?_
    refine AllReadyH.cons (List.getElem?_toArray.trans rfl) (fun K hK => ?_) AllReadyH.nil
    go_simp
    try (go_wp2_with fail)
    refine hK.out _ _ ?_ (fun hHeld => ?_)
    · (try dsimp only)
      assumption
    clear hK K
    try simp only [Act.put, List.setIfInBounds_toArray, List.set_cons_zero, List.set_cons_succ]
    refine wpAnyH_take (i := 6) (v := ?hv6) (List.getElem?_toArray.trans rfl) (by kernel_rfl) (by kernel_rfl) (by kernel_rfl) (fun _ _ _ h => h) (Or.inl ⟨by rfl, ?hy6⟩) (by assumption) ?hr6
    case hy6 => (intro wt hSw; (try dsimp only at hSw); go_simp; try (with_reducible rfl))
    try simp only [Act.put, List.setIfInBounds_toArray, List.set_cons_zero, List.set_cons_succ]
    refine wpAnyH_take (i := 7) (v := ?hv7) (List.getElem?_toArray.trans rfl) (by kernel_rfl) (by kernel_rfl) (by kernel_rfl) (fun _ _ _ h => h) (Or.inl ⟨by rfl, ?hy7⟩) (by assumption) ?hr7
    case hy7 => (intro wt hSw; (try dsimp only at hSw); go_simp; try (with_reducible rfl))
    try simp only [Act.put, List.setIfInBounds_toArray, List.set_cons_zero, List.set_cons_succ]
    refine wpAnyH_ready (rs := [8]) (by kernel_rfl) (by simp) ?_
    refine AllReadyH.cons (List.getElem?_toArray.trans rfl) (fun K hK => ?_) AllReadyH.nil
    go_simp
    go_at_call 10
    refine (C10.out _ ?_).mono ?_
    assumption
    rintro e v3 ⟨rfl, k3⟩
    clear C10
    try (go_wp2_with fail)
    refine hK.out _ _ ?_ (fun hHeld => ?_)
    · (try dsimp only)
      assumption
    clear hK K
    try simp only [Act.put, List.setIfInBounds_toArray, List.set_cons_zero, List.set_cons_succ]
    refine wpAnyH_take (i := 9) (v := ?hv9) (List.getElem?_toArray.trans rfl) (by kernel_rfl) (by kernel_rfl) (by kernel_rfl) (fun _ _ _ h => h) (Or.inl ⟨by rfl, ?hy9⟩) (by assumption) ?hr9
    case hy9 => (intro wt hSw; (try dsimp only at hSw); go_simp; try (with_reducible rfl))
    try simp only [Act.put, List.setIfInBounds_toArray, List.set_cons_zero, List.set_cons_succ]
    refine wpAnyH_take (i := 10) (v := ?hv10) (List.getElem?_toArray.trans rfl) (by kernel_rfl) (by kernel_rfl) (by kernel_rfl) (fun _ _ _ h => h) (Or.inl ⟨by rfl, ?hy10⟩) (by assumption) ?hr10
    case hy10 => (intro wt hSw; (try dsimp only at hSw); go_simp; try (with_reducible rfl))
    try simp only [Act.put, List.setIfInBounds_toArray, List.set_cons_zero, List.set_cons_succ]
    refine wpAnyH_done (by kernel_rfl) ?_ _
    refine NoPanic.normal ?_
    go_wp2
    go_ret
    exact ⟨rfl, fin.out _ (by assumption)⟩
end Go.Proofs.YtbgockggbpmhnaaGreatDoor
namespace Go.Proofs.YtbgockggbpmhnaaGreatDoor.msgSeals
open Go Go.ChangeShapes Go.WideShapes Go.ChangeAt Go.RowKit

set_option maxRecDepth 100000 in
theorem contract (H : Type) (enc : TypeId × Value → H) (W : World) (base : Nat) (args : Array Value) (ds gs : List (DataW H)) (before : List MemPlace)
    (hval : ∀ (j : Nat) t v, Tryz.f8.params[j]? = some t → args[j]? = some v → Value.okWide Tryz.prog W .any base t v)
    (hW : DataW.Whole enc Tryz.prog Tryz.f8.params.toList Rows.msgSealsSpec.vars false W args.toList ds gs before) (hk : Rows.uptoSmall H (ds ++ gs) = true)
    (hz : (DataW.weightsEach Tryz.prog (Tryz.f8.params.toList ++ (Rows.OpenSpec.upto Rows.msgSealsSpec).bare.plain.varTypes Tryz.prog) (ds ++ gs)).all (· ≤ reachBytes) = true) (hL : laidMetH Tryz.prog Rows.msgSealsUptoRow.laid W) :
    Calls Tryz.prog 8 args W fun e W' => ∃ v, e = .returned v ∧ Rows.msgSealsSpec.post enc Tryz.prog Tryz.f8 false true false false W args v W' := by
  have hW' := hW
  obtain ⟨p, q, hA0, hV, rfl, hfz, hnd⟩ := hW
  have hA : DataW.TrodAll enc Tryz.prog W 0 (fun _ => true) true Tryz.f8.params.toList args.toList ds p := hA0
  rw [Tryz.params8] at hA hval hz
  obtain ⟨v0, vs0, d0, ds0, p0, q0, hargs, rfl, rfl, h0, r0⟩ := trodAll_cons hA
  obtain ⟨rfl, rfl, rfl⟩ := trodAll_nil r0
  obtain rfl : args = #[v0] := by cases args; simp_all
  obtain ⟨rfl, rfl⟩ := trodVars_none hV
  have k0 := h0
  have lt0 : ∀ x ∈ p0, x.block < W.heap.size := by obtain ⟨m, hm⟩ := k0; exact DataW.trod_lt m _ _ _ hm
  obtain ⟨x, rfl, hfit, hdn, hes⟩ := open_msg (hval 0 25 v0 rfl rfl) h0
  have hB : Rows.uptoBulkAll (H := H) _ ≤ 1048576 := of_decide_eq_true hk
  simp only [List.cons_append, Rows.uptoBulkAll] at hB
  have hR : 1048576 ≤ roomB := by decide
  have hd : x.dn ≤ roomB := by omega
  have hb : ∀ y ∈ x.es, y.n ≤ roomB := fun y hy => by have := hes y hy; omega
  clear hA0
  refine (msgSeals_any x W (env_of_laid hL) hfit hd hb).mono fun e W' ⟨he, bel⟩ => ?_
  subst he
  exact ⟨_, rfl, _, _, _, [], _, [], hW', trodAll_mk1 (shut_bool Tryz.underlying4 _), (trodAll_cons_mk (Below.trod laidOut (by kernel_rfl) (of_decide_eq_true (by kernel_rfl)) k0 bel lt0) trodAll_mk0), rfl, bel.frame _, fun h => by cases h⟩

theorem reads (os : Os) {H : Type} (enc : TypeId × Value → H) : (DataW.whole enc Tryz.prog ((laidWorld os).forCall (fun _ _ => 0) ⟨#[], #[.agg #[.int .i64 0, .int .i64 0, .int .i64 0, .int .i64 0, .int .i64 0, .int .i64 0, .int .i64 0, .int .i64 0, .bool false, .int .i64 0, .slice none 0 0, .slice none 0 0]], []⟩).memory Tryz.f8.params.toList Rows.msgSealsSpec.vars false #[Value.agg #[.int .i64 0, .int .i64 0, .int .i64 0, .int .i64 0, .int .i64 0, .int .i64 0, .int .i64 0, .int .i64 0, .bool false, .int .i64 0, .slice none 0 0, .slice none 0 0]].toList 8).isSome = true := by
  kernel_rfl

set_option maxRecDepth 100000 in
theorem lifted (os : Os) (started : os.Started) (H : Type) (enc : TypeId × Value → H) (F : Stop.Interp) :
    ReturnsInHanded {} Tryz.checked os 8 .any ((Rows.OpenSpec.upto Rows.msgSealsSpec).preRow enc Tryz.prog Tryz.f8 Rows.msgSealsUptoRow.domain false Rows.msgSealsUptoRow.laid) (((Rows.OpenSpec.upto Rows.msgSealsSpec).at F).post enc Tryz.prog Tryz.f8 false true false false) := by
  obtain ⟨x, hx⟩ := Option.isSome_iff_exists.1 (reads os enc)
  have hxs : (DataW.whole enc Tryz.prog ((laidWorld os).forCall (fun _ _ => 0) ⟨#[], #[.agg #[.int .i64 0, .int .i64 0, .int .i64 0, .int .i64 0, .int .i64 0, .int .i64 0, .int .i64 0, .int .i64 0, .bool false, .int .i64 0, .slice none 0 0, .slice none 0 0]], []⟩).memory Tryz.f8.params.toList Rows.msgSealsSpec.vars false #[Value.agg #[.int .i64 0, .int .i64 0, .int .i64 0, .int .i64 0, .int .i64 0, .int .i64 0, .int .i64 0, .int .i64 0, .bool false, .int .i64 0, .slice none 0 0, .slice none 0 0]].toList 8).all (fun x => Rows.uptoSmall H (x.1 ++ x.2.1)) = true := by kernel_rfl
  refine returnsInHanded_of_row (C := Tryz.checked) (s := Rows.OpenSpec.upto Rows.msgSealsSpec) own started (by kernel_rfl) Tryz.func8
    (witness_row_at (enc := enc) (C := Tryz.checked) false (laidWorld os) #[.agg #[.int .i64 0, .int .i64 0, .int .i64 0, .int .i64 0, .int .i64 0, .int .i64 0, .int .i64 0, .int .i64 0, .bool false, .int .i64 0, .slice none 0 0, .slice none 0 0]] rfl (by kernel_rfl) (by kernel_rfl) (by kernel_rfl)
      (OpenSpec.preRow_of_cond 8 hx rfl (fun k hk => by cases hk; rw [hx] at hxs; exact hxs) (by kernel_rfl) (laidWorld_met os _))) ?_
  intro W base args ds gs before hval hW _ hcond hz hL _ _
  exact contract H enc W base args ds gs before hval hW (hcond _ rfl) hz hL

theorem said : Rows.MsgSealsUptoSaid :=
  OpenClaim.holds_of_cond 8 Tryz.f8 rfl rfl rfl rfl rfl rfl rfl ⟨rfl, rfl, rfl, rfl, rfl⟩ rfl rfl rfl rfl rfl (by kernel_rfl) Tryz.func8 (by kernel_rfl)
    (of_decide_eq_true (by kernel_rfl)) (by unfold Func.isWrapper; first | (rw [if_pos (by decide +kernel)]; kernel_rfl) | (rw [if_neg (by decide +kernel)]; exact ⟨rfl, rfl⟩))
    (fun os started H enc _ F => by rw [OpenClaim.pre_eq_preRow]; exact lifted os started H enc F)

/-- No parameter wants a stand-in; the program's own looks are as the card says. -/
theorem plain (f : FuncId) (fn : Func) (hf : Tryz.pinned.checked.prog.funcNamed "tollbar/tollbarlaw11.MsgSeals" = some f) (hfn : Tryz.pinned.checked.prog.funcs[f]? = some fn) :
    true = Tryz.pinned.checked.prog.looks [] ∧ ∀ (j : Nat) t, fn.params[j]? = some t → Tryz.pinned.checked.prog.wantsStandIn t = false := by
  obtain rfl : f = 8 := Option.some.inj ((show Tryz.prog.funcNamed "tollbar/tollbarlaw11.MsgSeals" = some 8 by kernel_rfl).symm.trans hf) |>.symm
  obtain rfl : fn = Tryz.f8 := (Option.some.inj (Tryz.func8.symm.trans hfn)).symm
  refine ⟨by kernel_rfl, fun j t ht => ?_⟩
  rw [Tryz.params8] at ht
  obtain rfl : t = 25 := by simpa using Array.mem_of_getElem? ht
  exact (show Tryz.prog.wantsStandIn 25 = false by kernel_rfl)

/-- THE CARD. -/
theorem card : Rows.MsgSealsUptoCardSaid :=
  Claim7.holds_tied_plain_at .later [] _ _ _ _ said (fun _ h => by cases h) (by kernel_rfl) (fun _ h => by cases h) msgSealsUpto_row_tie rfl ⟨rfl, rfl⟩ (by kernel_rfl) rfl plain (by kernel_rfl)
#print axioms card
end Go.Proofs.YtbgockggbpmhnaaGreatDoor.msgSeals
