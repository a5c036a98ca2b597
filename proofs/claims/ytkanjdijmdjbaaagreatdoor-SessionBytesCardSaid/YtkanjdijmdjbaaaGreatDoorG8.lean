/-
  Slices of uses that are read; the document's Used, by a contract.
  Conditions: the slices read as nodes, at most 256, and uses, at most 1024, whose amounts are at most 2^40.
  The document's claim, by a contract.
-/
import Derived.Test.YtkanjdijmdjbaaaGreatDoorG7
import Derived.Test.YtkanjdijmdjbaaaGreatDoorG4
namespace Go.Proofs.YtkanjdijmdjbaaaGreatDoor
open Go Go.RowKit

/-- The slice value v reads as the uses N. -/
def RdsUs (w : World) (v : Value) (N : List QT.Us) : Prop :=
  ∃ a cap, v = .slice a N.length cap ∧ N.length ≤ cap ∧ cap ≤ maxLen ∧ (N = [] ∨ ∃ b o, a = some ⟨b, o, none⟩ ∧ ∀ i x, N[i]? = some x → ∀ j u, (valsUs x)[j]? = some u → w.cell? ⟨b, o + i * 3 + j, none⟩ = some u)
theorem RdsUs.below {w w' : World} {v : Value} {N : List QT.Us} (h : RdsUs w v N) (f : Below w.heap.size w w') : RdsUs w' v N := by
  obtain ⟨a, cap, rfl, h1, h2, h3⟩ := h
  refine ⟨a, cap, rfl, h1, h2, ?_⟩
  rcases h3 with h3 | ⟨b, o, rfl, hc⟩
  · exact .inl h3
  · refine .inr ⟨b, o, rfl, fun i x hx j u hu => ?_⟩
    have c := hc i x hx j u hu
    exact (World.cell?_of_block (f.block b (World.block_lt_of_cell? _ _ c))).trans c
theorem RdsUs.at {w : World} {a : Option Addr} {n c : Nat} {N : List QT.Us} (h : RdsUs w (.slice a n c) N) (i : Nat) (x : QT.Us) (hx : N[i]? = some x) :
    ∃ b o, a = some ⟨b, o, none⟩ ∧ w.cell? ⟨b, o + i * 3, none⟩ = some (.string (str x.id)) ∧ w.cell? ⟨b, o + i * 3 + 1, none⟩ = some (.string (str x.nd)) ∧ w.cell? ⟨b, o + i * 3 + 2, none⟩ = some (.complex .f64 (FL.fB x.a1) (FL.fB x.a2)) := by
  obtain ⟨a', cap, he, _, _, h3⟩ := h
  simp only [Value.slice.injEq] at he
  obtain ⟨rfl, _, rfl⟩ := he
  rcases h3 with rfl | ⟨b, o, rfl, hc⟩
  · simp at hx
  · exact ⟨b, o, rfl, hc i x hx 0 _ rfl, hc i x hx 1 _ rfl, hc i x hx 2 _ rfl⟩
theorem RdsUs.len {w : World} {a : Option Addr} {n c : Nat} {N : List QT.Us} (h : RdsUs w (.slice a n c) N) : N.length = n ∧ n ≤ c ∧ c ≤ maxLen := by
  obtain ⟨a', cap, he, h1, h2, _⟩ := h
  simp only [Value.slice.injEq] at he
  obtain ⟨rfl, rfl, rfl⟩ := he
  exact ⟨rfl, h1, h2⟩
set_option maxRecDepth 100000 in
set_option maxHeartbeats 8000000 in
/-- Used. -/
theorem rused_any (a0 : Option Addr) (n0 c0 : Nat) (a : Option Addr) (n c : Nat) (N : List QT.Nd) (L : List QT.Us) (s : QT.Str) (w : World) (hM : RdsNd w (.slice a0 n0 c0) N) (hN : RdsUs w (.slice a n c) L) (hs0 : n0 ≤ 256) (hs : n ≤ 1024) (hf : ∀ x ∈ L, x.a1 ≤ 1099511627776 ∧ x.a2 ≤ 1099511627776) :
    Calls Tryz.prog 111 #[.agg #[.slice a0 n0 c0, .slice a n c], .string (str s)] w fun v w' => v = .returned (.complex .f64 (FL.fB (QT.Used N L QT.Us.a1 s)) (FL.fB (QT.Used N L QT.Us.a2 s))) ∧ Below w.heap.size w w' := by
  obtain ⟨hl, _, _⟩ := hN.len
  have hn : (n : Int) ≤ 281474976710656 := by omega
  have Hl := Lib.hid hl
  have HU := Lib.hid (fun (V : World) (t : QT.Str) (b : Below w.heap.size w V) => runder_any a0 n0 c0 (.slice a n c) N t s V (hM.below b) (by omega))
  have HNb := Lib.hid (fun (V : World) (b : Below w.heap.size w V) => hN.below b)
  obtain ⟨p, hp⟩ : ∃ p : QT.Us → Bool, p = fun x => QT.un N x.nd s := ⟨_, rfl⟩
  have Hp := Lib.hid (fun x => congrFun hp x)
  have e1 : QT.Used N L QT.Us.a1 s = QT.S (L.filter p) QT.Us.a1 := by rw [hp]; rfl
  have e2 : QT.Used N L QT.Us.a2 s = QT.S (L.filter p) QT.Us.a2 := by rw [hp]; rfl
  rw [e1, e2]
  have B1 := Lib.hid (fun i (hi : i ≤ 1024) => show QT.part L p QT.Us.a1 i < 9007199254740992 from by have := QT.part_le (L := L) (p := p) (f := QT.Us.a1) (i := i) (B := 1099511627776) (fun x hx => (hf x hx).1); have := Nat.mul_le_mul_right 1099511627776 hi; omega)
  have B2 := Lib.hid (fun i (hi : i ≤ 1024) => show QT.part L p QT.Us.a2 i < 9007199254740992 from by have := QT.part_le (L := L) (p := p) (f := QT.Us.a2) (i := i) (B := 1099511627776) (fun x hx => (hf x hx).2); have := Nat.mul_le_mul_right 1099511627776 hi; omega)
  have HFn := Lib.hid hf
  have Hs := Lib.hid hs
  obtain ⟨W, hW⟩ : ∃ W, W = w.alloc (.cells #[.slice a0 n0 c0, .slice a n c] 32) := ⟨_, rfl⟩
  have bW : Hid (Below w.heap.size w W) := by rw [hW]; exact (Below.refl _ _).alloc (Nat.le_refl _) _
  have gW : Hid (W.heap[w.heap.size]? = some (.cells #[.slice a0 n0 c0, .slice a n c] 32)) := by rw [hW]; exact heap_alloc_new _ _
  clear hl hN hM hs hs0 hf hp e1 e2
  go_enter Tryz.func111, Tryz.ntmps111
  go_wp2_with fail
  rw [← hW]
  clear hW
  go_loopw [5, 6] (fun v5 v V => ∃ i : Nat, i ≤ n ∧ v = .int .i64 i ∧ v5 = .complex .f64 (FL.fI (QT.part L p QT.Us.a1 i : Nat)) (FL.fI (QT.part L p QT.Us.a2 i : Nat)) ∧ Hid (Below w.heap.size w V) ∧ Hid (V.heap[w.heap.size]? = some (.cells #[.slice a0 n0 c0, .slice a n c] 32))) (fun _ v _ => n - (intOf v).toNat)
  case atStart => exact ⟨0, Nat.zero_le _, rfl, rfl, bW, gW⟩
  case round =>
    obtain ⟨i, hi, rfl, rfl, Bv, Gv⟩ := hrel
    clear bW gW
    obtain ⟨t0, t1, _, _⟩ := cells2 Gv.out
    by_cases hlt : i < n
    · have h1 : (i : Int) < (n : Int) := by omega
      obtain ⟨x, hx⟩ : ∃ x, L[i]? = some x := ⟨_, List.getElem?_eq_getElem (by have := Hl.out; omega)⟩
      have Hx := Lib.hid hx
      obtain ⟨b, o, ea, _, c1, _⟩ := (HNb.out wr Bv.out).at i x hx
      subst ea
      clear hx
      have hBlt := (Array.getElem?_eq_some_iff.1 Gv.out).1
      have hblt := World.block_lt_of_cell? _ _ c1
      have cont : Hid (∀ V, Below wr.heap.size wr V → (Hid (Below wr.heap.size wr V) ∧ V.cell? ⟨w.heap.size, 0, none⟩ = some (.slice a0 n0 c0) ∧ V.cell? ⟨w.heap.size, 1, none⟩ = some (.slice (some ⟨b, o, none⟩) n c) ∧ V.cell? ⟨b, o + i * 3 + 1, none⟩ = some (.string (str x.nd)))) := fun V h => ⟨Lib.hid h, (World.cell?_of_block (a := ⟨w.heap.size, 0, none⟩) (h.block _ hBlt)).trans t0, (World.cell?_of_block (a := ⟨w.heap.size, 1, none⟩) (h.block _ hBlt)).trans t1, (World.cell?_of_block (a := ⟨b, o + i * 3 + 1, none⟩) (h.block _ hblt)).trans c1⟩
      have C1 : Hid (∀ V, (Hid (Below wr.heap.size wr V) ∧ V.cell? ⟨w.heap.size, 0, none⟩ = some (.slice a0 n0 c0) ∧ V.cell? ⟨w.heap.size, 1, none⟩ = some (.slice (some ⟨b, o, none⟩) n c) ∧ V.cell? ⟨b, o + i * 3 + 1, none⟩ = some (.string (str x.nd))) → Calls Tryz.prog 146 #[.agg #[.slice a0 n0 c0, .slice (some ⟨b, o, none⟩) n c], .string (str x.nd), .string (str s)] V fun e w' => e = .returned (.bool (p x)) ∧ (Hid (Below wr.heap.size wr w') ∧ w'.cell? ⟨w.heap.size, 0, none⟩ = some (.slice a0 n0 c0) ∧ w'.cell? ⟨w.heap.size, 1, none⟩ = some (.slice (some ⟨b, o, none⟩) n c) ∧ w'.cell? ⟨b, o + i * 3 + 1, none⟩ = some (.string (str x.nd)))) := fun V h =>
        (HU.out V x.nd (Bv.out.trans (h.1.out.mono Bv.out.size))).mono fun e w' ⟨e1, e2⟩ => ⟨by rw [e1, ← Hp.out x], cont.out w' (h.1.out.trans (e2.mono h.1.out.size))⟩
      have S0 := cont.out wr.drew (Below.refl _ _).drew
      generalize hpx : p x = q at *
      go_wp2_with fail
      refine wp_region_noPanic ?_
      refine wp_region_held_drew (S := fun V => (Hid (Below wr.heap.size wr V) ∧ V.cell? ⟨w.heap.size, 0, none⟩ = some (.slice a0 n0 c0) ∧ V.cell? ⟨w.heap.size, 1, none⟩ = some (.slice (some ⟨b, o, none⟩) n c) ∧ V.cell? ⟨b, o + i * 3 + 1, none⟩ = some (.string (str x.nd)))) (by kernel_rfl) S0 (fun hHeld => ?_)
      refine rTk 0 ?_; try simp only [Act.put, rP1, rP2, rP3]
      refine rTk 1 ?_; try simp only [Act.put, rP1, rP2, rP3]
      refine rTk 2 ?_; try simp only [Act.put, rP1, rP2, rP3]
      refine rTk 3 ?_; try simp only [Act.put, rP1, rP2, rP3]
      refine rTk 4 ?_; try simp only [Act.put, rP1, rP2, rP3]
      refine rTk 5 ?_; try simp only [Act.put, rP1, rP2, rP3]
      refine rTk 6 ?_; try simp only [Act.put, rP1, rP2, rP3]
      refine rTk 7 ?_; try simp only [Act.put, rP1, rP2, rP3]
      refine rBr 8 fun K hK => ?_
      go_simp
      go_at_call 146
      refine (C1.out _ ?_).mono ?_
      assumption
      rintro e vx ⟨rfl, kx⟩
      clear C1
      try (go_wp2_with fail)
      refine hK.out _ _ (by (try dsimp only); assumption) (fun hHeld => ?_)
      clear hK K
      try simp only [Act.put, rP1, rP2, rP3]
      refine wpAnyH_done (by kernel_rfl) ?_ _
      refine NoPanic.normal ?_
      have Bx : Hid (Below w.heap.size w vx) := Bv.out.trans (kx.1.out.mono Bv.out.size)
      have Gx := Lib.hid ((kx.1.out.block _ hBlt).trans Gv.out)
      obtain ⟨b', o', ea, _, _, c2⟩ := (HNb.out vx Bx.out).at i x Hx.out
      simp only [Option.some.injEq, Addr.mk.injEq, and_true] at ea
      obtain ⟨rfl, rfl⟩ := ea
      obtain ⟨_, k0, k1, _⟩ := kx
      clear t0 t1 c1 cont hHeld S0
      cases q with
      | true =>
        have q1 := QT.part_yes (p := p) QT.Us.a1 Hx.out hpx
        have q2 := QT.part_yes (p := p) QT.Us.a2 Hx.out hpx
        have hi6 : i + 1 ≤ 1024 := by have := Hs.out; omega
        have d1 := B1.out i (by omega)
        have d2 := B2.out i (by omega)
        have d3 := B1.out (i + 1) hi6
        have d4 := B2.out (i + 1) hi6
        have d5 := HFn.out x (List.mem_of_getElem? Hx.out)
        have hadd : ∀ V : World, (binOp .add 43 (.complex .f64 (FL.fI (QT.part L p QT.Us.a1 i : Nat)) (FL.fI (QT.part L p QT.Us.a2 i : Nat))) (.complex .f64 (FL.fB x.a1) (FL.fB x.a2))).run Tryz.prog V = .ok (.complex .f64 (FL.fI (QT.part L p QT.Us.a1 (i + 1) : Nat)) (FL.fI (QT.part L p QT.Us.a2 (i + 1) : Nat))) V := fun V => by
          rw [q1, q2, Int.natCast_add, Int.natCast_add]
          refine run_cadd _ _ _ (x.a1 : Int) (x.a2 : Int) V ?_ ?_ ?_ ?_ ?_ ?_ <;> unfold W53 <;> omega
        clear q1 q2 d1 d2 d3 d4 d5 hpx
        go_wp2
        exact ⟨⟨i + 1, by omega, by simp, rfl, Bx, Gx⟩, by simp [intOf]; omega⟩
      | false =>
        have q1 := QT.part_no (p := p) QT.Us.a1 Hx.out hpx
        have q2 := QT.part_no (p := p) QT.Us.a2 Hx.out hpx
        have Q1 := Lib.hid q1
        have Q2 := Lib.hid q2
        clear q1 q2 hpx
        go_wp2
        exact ⟨⟨i + 1, by omega, by simp, by rw [Q1.out, Q2.out], Bx, Gx⟩, by simp [intOf]; omega⟩
    · obtain rfl : i = n := by omega
      have hr1 := Lib.hid (QT.part_end (L := L) (p := p) QT.Us.a1 (i := i) (by have := Hl.out; omega))
      have hr2 := Lib.hid (QT.part_end (L := L) (p := p) QT.Us.a2 (i := i) (by have := Hl.out; omega))
      go_wp2
      go_ret
      exact ⟨by rw [← hr1.out, ← hr2.out]; rfl, Bv.out⟩
/-- What a node claims of its parent. -/
def QT.claim1 (N : List QT.Nd) (L : List QT.Us) (x : QT.Nd) : Int := max (QT.Used N L QT.Us.a1 x.nm : Int) ((QT.Total N QT.Nd.o1 x.nm : Int) - (x.l1 : Int))
def QT.claim2 (N : List QT.Nd) (L : List QT.Us) (x : QT.Nd) : Int := max (QT.Used N L QT.Us.a2 x.nm : Int) ((QT.Total N QT.Nd.o2 x.nm : Int) - (x.l2 : Int))
theorem max_gt {a b : Int} (h : b < a) : max a b = a := Int.max_eq_left (Int.le_of_lt h)
theorem max_le {a b : Int} (h : ¬ b < a) : max a b = b := Int.max_eq_right (Int.not_lt.1 h)
set_option maxRecDepth 100000 in
set_option maxHeartbeats 8000000 in
/-- claim. -/
theorem rclaim_any (a0 : Option Addr) (n0 c0 : Nat) (a : Option Addr) (n c : Nat) (N : List QT.Nd) (L : List QT.Us) (x : QT.Nd) (w : World) (hM : RdsNd w (.slice a0 n0 c0) N) (hN : RdsUs w (.slice a n c) L) (hs0 : n0 ≤ 256) (hs : n ≤ 1024)
    (hf0 : ∀ x ∈ N, x.o1 ≤ 1099511627776 ∧ x.o2 ≤ 1099511627776) (hf : ∀ x ∈ L, x.a1 ≤ 1099511627776 ∧ x.a2 ≤ 1099511627776) (hx : x.l1 ≤ 1099511627776 ∧ x.l2 ≤ 1099511627776) :
    Calls Tryz.prog 112 #[.agg #[.slice a0 n0 c0, .slice a n c], .agg #[.string (str x.nm), .string (str x.pr), .complex .f64 (FL.fB x.o1) (FL.fB x.o2), .complex .f64 (FL.fB x.b1) (FL.fB x.b2), .complex .f64 (FL.fB x.l1) (FL.fB x.l2)]] w
      fun v w' => v = .returned (.complex .f64 (FL.fI (QT.claim1 N L x)) (FL.fI (QT.claim2 N L x))) ∧ Below w.heap.size w w' := by
  have HT := Lib.hid (fun (V : World) (b : Below w.heap.size w V) => rtotal_any a0 n0 c0 (.slice a n c) N x.nm V (hM.below b) hs0 hf0)
  have HU := Lib.hid (fun (V : World) (b : Below w.heap.size w V) => rused_any a0 n0 c0 a n c N L x.nm V (hM.below b) (hN.below b) hs0 hs hf)
  have t1 := QT.total_bound N QT.Nd.o1 x.nm (B := 1099511627776) (fun y hy => (hf0 y hy).1)
  have t2 := QT.total_bound N QT.Nd.o2 x.nm (B := 1099511627776) (fun y hy => (hf0 y hy).2)
  have u1 := QT.used_bound N L QT.Us.a1 x.nm (B := 1099511627776) (fun y hy => (hf y hy).1)
  have u2 := QT.used_bound N L QT.Us.a2 x.nm (B := 1099511627776) (fun y hy => (hf y hy).2)
  have l0 := hM.len.1
  have l1 := hN.len.1
  rw [l0] at t1 t2
  rw [l1] at u1 u2
  have m0 := Nat.mul_le_mul_right 1099511627776 hs0
  have m1 := Nat.mul_le_mul_right 1099511627776 hs
  unfold QT.claim1 QT.claim2
  generalize QT.Total N QT.Nd.o1 x.nm = T1 at *
  generalize QT.Total N QT.Nd.o2 x.nm = T2 at *
  generalize QT.Used N L QT.Us.a1 x.nm = U1 at *
  generalize QT.Used N L QT.Us.a2 x.nm = U2 at *
  have s1 : ∀ V : World, (binOp .sub 124 (.float .f64 (FL.fB T1)) (.float .f64 (FL.fB x.l1))).run Tryz.prog V = .ok (.float .f64 (FL.fI ((T1 : Int) - (x.l1 : Int)))) V := fun V => run_fsub _ (T1 : Int) (x.l1 : Int) V (by unfold W53; omega) (by unfold W53; omega) (by unfold W53; omega)
  have s2 : ∀ V : World, (binOp .sub 124 (.float .f64 (FL.fB T2)) (.float .f64 (FL.fB x.l2))).run Tryz.prog V = .ok (.float .f64 (FL.fI ((T2 : Int) - (x.l2 : Int)))) V := fun V => run_fsub _ (T2 : Int) (x.l2 : Int) V (by unfold W53; omega) (by unfold W53; omega) (by unfold W53; omega)
  have g1 : (FloatKind.f64.format.order (FL.fB U1) (FL.fI ((T1 : Int) - (x.l1 : Int))) == some .gt) = decide ((T1 : Int) - (x.l1 : Int) < (U1 : Int)) := ford_gt (U1 : Int) _ (by unfold W53; omega) (by unfold W53; omega)
  have g2 : (FloatKind.f64.format.order (FL.fB U2) (FL.fI ((T2 : Int) - (x.l2 : Int))) == some .gt) = decide ((T2 : Int) - (x.l2 : Int) < (U2 : Int)) := ford_gt (U2 : Int) _ (by unfold W53; omega) (by unfold W53; omega)
  have r1 : FL.fB U1 = FL.fI (U1 : Int) := rfl
  have r2 : FL.fB U2 = FL.fI (U2 : Int) := rfl
  generalize ((T1 : Int) - (x.l1 : Int)) = D1 at *
  generalize ((T2 : Int) - (x.l2 : Int)) = D2 at *
  obtain ⟨Wb, hWb⟩ : ∃ W, W = (w.alloc (.cells #[.slice a0 n0 c0, .slice a n c] 32)).alloc (.cells #[.string (str x.nm), .string (str x.pr), .complex .f64 (FL.fB x.o1) (FL.fB x.o2), .complex .f64 (FL.fB x.b1) (FL.fB x.b2), .complex .f64 (FL.fB x.l1) (FL.fB x.l2)] 176) := ⟨_, rfl⟩
  have hrf : Below ((w.alloc (.cells #[.slice a0 n0 c0, .slice a n c] 32)).alloc (.cells #[.string (str x.nm), .string (str x.pr), .complex .f64 (FL.fB x.o1) (FL.fB x.o2), .complex .f64 (FL.fB x.b1) (FL.fB x.b2), .complex .f64 (FL.fB x.l1) (FL.fB x.l2)] 176)).heap.size ((w.alloc (.cells #[.slice a0 n0 c0, .slice a n c] 32)).alloc (.cells #[.string (str x.nm), .string (str x.pr), .complex .f64 (FL.fB x.o1) (FL.fB x.o2), .complex .f64 (FL.fB x.b1) (FL.fB x.b2), .complex .f64 (FL.fB x.l1) (FL.fB x.l2)] 176)) Wb := by rw [hWb]; exact Below.refl _ _
  obtain ⟨gA, gB, bb⟩ := own2 hrf
  have hB1 : w.heap.size + 1 < Wb.heap.size := (Array.getElem?_eq_some_iff.1 gB).1
  obtain ⟨v0, v1, _, _⟩ := cells2 gA
  have v2 : Wb.cell? ⟨w.heap.size + 1, 0, none⟩ = some (.string (str x.nm)) := by simp [World.cell?, gB]
  have v3 : Wb.cell? ⟨w.heap.size + 1, 4, none⟩ = some (.complex .f64 (FL.fB x.l1) (FL.fB x.l2)) := by simp [World.cell?, gB]
  have cont : Hid (∀ V, Below Wb.heap.size Wb V → (Hid (Below Wb.heap.size Wb V) ∧ V.cell? ⟨w.heap.size, 0, none⟩ = some (.slice a0 n0 c0) ∧ V.cell? ⟨w.heap.size, 1, none⟩ = some (.slice a n c) ∧ V.cell? ⟨w.heap.size + 1, 0, none⟩ = some (.string (str x.nm)) ∧ V.cell? ⟨w.heap.size + 1, 4, none⟩ = some (.complex .f64 (FL.fB x.l1) (FL.fB x.l2)))) := fun V h => ⟨Lib.hid h, (World.cell?_of_block (a := ⟨w.heap.size, 0, none⟩) (h.block w.heap.size (by omega))).trans v0, (World.cell?_of_block (a := ⟨w.heap.size, 1, none⟩) (h.block w.heap.size (by omega))).trans v1, (World.cell?_of_block (a := ⟨w.heap.size + 1, 0, none⟩) (h.block _ hB1)).trans v2, (World.cell?_of_block (a := ⟨w.heap.size + 1, 4, none⟩) (h.block _ hB1)).trans v3⟩
  have BB := Lib.hid bb
  have fin : Hid (∀ V, (Hid (Below Wb.heap.size Wb V) ∧ V.cell? ⟨w.heap.size, 0, none⟩ = some (.slice a0 n0 c0) ∧ V.cell? ⟨w.heap.size, 1, none⟩ = some (.slice a n c) ∧ V.cell? ⟨w.heap.size + 1, 0, none⟩ = some (.string (str x.nm)) ∧ V.cell? ⟨w.heap.size + 1, 4, none⟩ = some (.complex .f64 (FL.fB x.l1) (FL.fB x.l2))) → Below w.heap.size w V) := fun V h => BB.out.trans (h.1.out.mono BB.out.size)
  have C1 : Hid (∀ V, (Hid (Below Wb.heap.size Wb V) ∧ V.cell? ⟨w.heap.size, 0, none⟩ = some (.slice a0 n0 c0) ∧ V.cell? ⟨w.heap.size, 1, none⟩ = some (.slice a n c) ∧ V.cell? ⟨w.heap.size + 1, 0, none⟩ = some (.string (str x.nm)) ∧ V.cell? ⟨w.heap.size + 1, 4, none⟩ = some (.complex .f64 (FL.fB x.l1) (FL.fB x.l2))) → Calls Tryz.prog 110 #[.agg #[.slice a0 n0 c0, .slice a n c], .string (str x.nm)] V fun e w' => e = .returned (.complex .f64 (FL.fB T1) (FL.fB T2)) ∧ (Hid (Below Wb.heap.size Wb w') ∧ w'.cell? ⟨w.heap.size, 0, none⟩ = some (.slice a0 n0 c0) ∧ w'.cell? ⟨w.heap.size, 1, none⟩ = some (.slice a n c) ∧ w'.cell? ⟨w.heap.size + 1, 0, none⟩ = some (.string (str x.nm)) ∧ w'.cell? ⟨w.heap.size + 1, 4, none⟩ = some (.complex .f64 (FL.fB x.l1) (FL.fB x.l2)))) := fun V h => (HT.out V (fin.out V h)).mono fun e w' ⟨e1, e2⟩ => ⟨e1, cont.out w' (h.1.out.trans (e2.mono h.1.out.size))⟩
  have C2 : Hid (∀ V, (Hid (Below Wb.heap.size Wb V) ∧ V.cell? ⟨w.heap.size, 0, none⟩ = some (.slice a0 n0 c0) ∧ V.cell? ⟨w.heap.size, 1, none⟩ = some (.slice a n c) ∧ V.cell? ⟨w.heap.size + 1, 0, none⟩ = some (.string (str x.nm)) ∧ V.cell? ⟨w.heap.size + 1, 4, none⟩ = some (.complex .f64 (FL.fB x.l1) (FL.fB x.l2))) → Calls Tryz.prog 111 #[.agg #[.slice a0 n0 c0, .slice a n c], .string (str x.nm)] V fun e w' => e = .returned (.complex .f64 (FL.fB U1) (FL.fB U2)) ∧ (Hid (Below Wb.heap.size Wb w') ∧ w'.cell? ⟨w.heap.size, 0, none⟩ = some (.slice a0 n0 c0) ∧ w'.cell? ⟨w.heap.size, 1, none⟩ = some (.slice a n c) ∧ w'.cell? ⟨w.heap.size + 1, 0, none⟩ = some (.string (str x.nm)) ∧ w'.cell? ⟨w.heap.size + 1, 4, none⟩ = some (.complex .f64 (FL.fB x.l1) (FL.fB x.l2)))) := fun V h => (HU.out V (fin.out V h)).mono fun e w' ⟨e1, e2⟩ => ⟨e1, cont.out w' (h.1.out.trans (e2.mono h.1.out.size))⟩
  have S0 := cont.out Wb.drew (Below.refl _ _).drew
  clear hM hN hs0 hs hf0 hf hx t1 t2 u1 u2 l0 l1 m0 m1 r1 r2 hrf gA gB bb hB1 v0 v1 v2 v3 HT HU
  go_enter Tryz.func112, Tryz.ntmps112
  go_wp2_with fail
  rw [← hWb]
  clear hWb
  refine wp_region_noPanic ?_
  refine wp_region_held_drew (S := fun V => (Hid (Below Wb.heap.size Wb V) ∧ V.cell? ⟨w.heap.size, 0, none⟩ = some (.slice a0 n0 c0) ∧ V.cell? ⟨w.heap.size, 1, none⟩ = some (.slice a n c) ∧ V.cell? ⟨w.heap.size + 1, 0, none⟩ = some (.string (str x.nm)) ∧ V.cell? ⟨w.heap.size + 1, 4, none⟩ = some (.complex .f64 (FL.fB x.l1) (FL.fB x.l2)))) (by kernel_rfl) S0 (fun hHeld => ?_)
  refine rTk 0 ?_; try simp only [Act.put, rP1, rP2, rP3]
  refine rTk 1 ?_; try simp only [Act.put, rP1, rP2, rP3]
  refine rTk 2 ?_; try simp only [Act.put, rP1, rP2, rP3]
  refine rTk 4 ?_; try simp only [Act.put, rP1, rP2, rP3]
  refine rTk 5 ?_; try simp only [Act.put, rP1, rP2, rP3]
  refine rTk 6 ?_; try simp only [Act.put, rP1, rP2, rP3]
  refine rBr 3 fun K hK => ?_
  go_simp
  go_at_call 110
  refine (C1.out _ ?_).mono ?_
  assumption
  rintro e vx ⟨rfl, kx⟩
  clear C1
  try (go_wp2_with fail)
  refine hK.out _ _ (by (try dsimp only); assumption) (fun hHeld => ?_)
  clear hK K
  try simp only [Act.put, rP1, rP2, rP3]
  refine rBr 7 fun K hK => ?_
  go_simp
  go_at_call 111
  refine (C2.out _ ?_).mono ?_
  assumption
  rintro e vy ⟨rfl, ky⟩
  clear C2
  try (go_wp2_with fail)
  refine hK.out _ _ (by (try dsimp only); assumption) (fun hHeld => ?_)
  clear hK K
  try simp only [Act.put, rP1, rP2, rP3]
  refine rTk 8 ?_; try simp only [Act.put, rP1, rP2, rP3]
  refine rTk 9 ?_; try simp only [Act.put, rP1, rP2, rP3]
  refine wpAnyH_done (by kernel_rfl) ?_ _
  refine NoPanic.normal ?_
  go_wp2_with fail
  have S1 := cont.out vy.drew ky.1.out.drew
  refine wp_region_noPanic ?_
  refine wp_region_held_drew (S := fun V => (Hid (Below Wb.heap.size Wb V) ∧ V.cell? ⟨w.heap.size, 0, none⟩ = some (.slice a0 n0 c0) ∧ V.cell? ⟨w.heap.size, 1, none⟩ = some (.slice a n c) ∧ V.cell? ⟨w.heap.size + 1, 0, none⟩ = some (.string (str x.nm)) ∧ V.cell? ⟨w.heap.size + 1, 4, none⟩ = some (.complex .f64 (FL.fB x.l1) (FL.fB x.l2)))) (by kernel_rfl) S1 (fun hHeld => ?_)
  refine rTk 0 ?_; try simp only [Act.put, rP1, rP2, rP3]
  refine rTk 1 ?_; try simp only [Act.put, rP1, rP2, rP3]
  refine rTk 2 ?_; try simp only [Act.put, rP1, rP2, rP3]
  refine rTk 3 ?_; try simp only [Act.put, rP1, rP2, rP3]
  refine rTk 4 ?_; try simp only [Act.put, rP1, rP2, rP3]
  refine rTk 5 ?_; try simp only [Act.put, rP1, rP2, rP3]
  refine rTk 6 ?_; try simp only [Act.put, rP1, rP2, rP3]
  refine rTk 7 ?_; try simp only [Act.put, rP1, rP2, rP3]
  refine rTk 8 ?_; try simp only [Act.put, rP1, rP2, rP3]
  refine rTk 9 ?_; try simp only [Act.put, rP1, rP2, rP3]
  refine rTk 10 ?_; try simp only [Act.put, rP1, rP2, rP3]
  refine rTk 11 ?_; try simp only [Act.put, rP1, rP2, rP3]
  refine rTk 12 ?_; try simp only [Act.put, rP1, rP2, rP3]
  refine rTk 13 ?_; try simp only [Act.put, rP1, rP2, rP3]
  refine wpAnyH_done (by kernel_rfl) ?_ _
  refine NoPanic.normal ?_
  by_cases h1 : D1 < (U1 : Int)
  · rw [decide_eq_true h1] at g1
    have m1 := Lib.hid (max_gt h1)
    by_cases h2 : D2 < (U2 : Int)
    · rw [decide_eq_true h2] at g2
      have m2 := Lib.hid (max_gt h2)
      clear h1 h2
      go_wp2
      go_ret
      exact ⟨by rw [m1.out, m2.out]; rfl, fin.out _ (by assumption)⟩
    · rw [decide_eq_false h2] at g2
      have m2 := Lib.hid (max_le h2)
      clear h1 h2
      go_wp2
      go_ret
      exact ⟨by rw [m1.out, m2.out]; rfl, fin.out _ (by assumption)⟩
  · rw [decide_eq_false h1] at g1
    have m1 := Lib.hid (max_le h1)
    by_cases h2 : D2 < (U2 : Int)
    · rw [decide_eq_true h2] at g2
      have m2 := Lib.hid (max_gt h2)
      clear h1 h2
      go_wp2
      go_ret
      exact ⟨by rw [m1.out, m2.out]; rfl, fin.out _ (by assumption)⟩
    · rw [decide_eq_false h2] at g2
      have m2 := Lib.hid (max_le h2)
      clear h1 h2
      go_wp2
      go_ret
      exact ⟨by rw [m1.out, m2.out]; rfl, fin.out _ (by assumption)⟩
end Go.Proofs.YtkanjdijmdjbaaaGreatDoor
