/-
  The document's Total, by a contract.
  Conditions: the slice reads as nodes, at most 256, whose amounts are at most 2^40.
  Slices of uses that are read; the document's Used, by a contract.
  Conditions: the slices read as nodes, at most 256, and uses, at most 1024, whose amounts are at most 2^40.
-/
import Derived.Test.YtflghelhdalhiaaGreatDoorG10
import Derived.Deep.RegionHeld3
namespace Go.Proofs.YtflghelhdalhiaaGreatDoor
open Go Go.RowKit

theorem QT.S_append {α : Type} (l m : List α) (F : α → Nat) : QT.S (l ++ m) F = QT.S l F + QT.S m F := by
  induction l with
  | nil => rw [QT.S_nil, Nat.zero_add]; rfl
  | cons x r ih => rw [List.cons_append, QT.S_cons, QT.S_cons, ih]; omega
/-- A sum so far. -/
def QT.part {α : Type} (L : List α) (p : α → Bool) (f : α → Nat) (i : Nat) : Nat := QT.S ((L.take i).filter p) f
theorem QT.part_zero {α : Type} (L : List α) (p : α → Bool) (f : α → Nat) : QT.part L p f 0 = 0 := rfl
theorem QT.part_yes {α : Type} {L : List α} {p : α → Bool} (f : α → Nat) {i : Nat} {x : α} (hx : L[i]? = some x) (h : p x = true) : QT.part L p f (i + 1) = QT.part L p f i + f x := by
  unfold QT.part
  rw [List.take_add_one, hx, List.filter_append, QT.S_append]
  simp [h, QT.S]
theorem QT.part_no {α : Type} {L : List α} {p : α → Bool} (f : α → Nat) {i : Nat} {x : α} (hx : L[i]? = some x) (h : p x = false) : QT.part L p f (i + 1) = QT.part L p f i := by
  unfold QT.part
  rw [List.take_add_one, hx, List.filter_append, QT.S_append]
  simp [h, QT.S]
theorem QT.part_end {α : Type} {L : List α} {p : α → Bool} (f : α → Nat) {i : Nat} (h : L.length ≤ i) : QT.part L p f i = QT.S (L.filter p) f := by
  unfold QT.part
  rw [List.take_of_length_le h]
theorem QT.part_le {α : Type} {L : List α} {p : α → Bool} {f : α → Nat} {i B : Nat} (h : ∀ x ∈ L, f x ≤ B) : QT.part L p f i ≤ i * B := by
  unfold QT.part
  refine Nat.le_trans (QT.S_bound fun x hx => h x (List.mem_of_mem_take (List.mem_filter.1 hx).1)) (Nat.mul_le_mul_right _ ?_)
  exact Nat.le_trans (List.length_filter_le _ _) (List.length_take_le _ _)
set_option maxRecDepth 100000 in
set_option maxHeartbeats 8000000 in
/-- Total. -/
theorem rtotal_any (a : Option Addr) (n c : Nat) (u : Value) (N : List QT.Nd) (s : QT.Str) (w : World) (hN : RdsNd w (.slice a n c) N) (hs : n ≤ 256) (hf : ∀ x ∈ N, x.o1 ≤ 1099511627776 ∧ x.o2 ≤ 1099511627776) :
    Calls Tryz.prog 57 #[.agg #[.slice a n c, u], .string (str s)] w fun v w' => v = .returned (.complex .f64 (FL.fB (QT.Total N QT.Nd.o1 s)) (FL.fB (QT.Total N QT.Nd.o2 s))) ∧ Below w.heap.size w w' := by
  obtain ⟨hl, _, _⟩ := hN.len
  have hn : (n : Int) ≤ 281474976710656 := by omega
  have Hl := Lib.hid hl
  have HU := Lib.hid (fun (V : World) (t : QT.Str) (b : Below w.heap.size w V) => runder_any a n c u N t s V (hN.below b) (by omega))
  have HNb := Lib.hid (fun (V : World) (b : Below w.heap.size w V) => hN.below b)
  obtain ⟨p, hp⟩ : ∃ p : QT.Nd → Bool, p = fun x => QT.un N x.nm s := ⟨_, rfl⟩
  have Hp := Lib.hid (fun x => congrFun hp x)
  have e1 : QT.Total N QT.Nd.o1 s = QT.S (N.filter p) QT.Nd.o1 := by rw [hp]; rfl
  have e2 : QT.Total N QT.Nd.o2 s = QT.S (N.filter p) QT.Nd.o2 := by rw [hp]; rfl
  rw [e1, e2]
  have B1 := Lib.hid (fun i (hi : i ≤ 256) => show QT.part N p QT.Nd.o1 i < 9007199254740992 from by have := QT.part_le (L := N) (p := p) (f := QT.Nd.o1) (i := i) (B := 1099511627776) (fun x hx => (hf x hx).1); have := Nat.mul_le_mul_right 1099511627776 hi; omega)
  have B2 := Lib.hid (fun i (hi : i ≤ 256) => show QT.part N p QT.Nd.o2 i < 9007199254740992 from by have := QT.part_le (L := N) (p := p) (f := QT.Nd.o2) (i := i) (B := 1099511627776) (fun x hx => (hf x hx).2); have := Nat.mul_le_mul_right 1099511627776 hi; omega)
  have HFn := Lib.hid hf
  have Hs := Lib.hid hs
  obtain ⟨W, hW⟩ : ∃ W, W = w.alloc (.cells #[.slice a n c, u] 32) := ⟨_, rfl⟩
  have bW : Hid (Below w.heap.size w W) := by rw [hW]; exact (Below.refl _ _).alloc (Nat.le_refl _) _
  have gW : Hid (W.heap[w.heap.size]? = some (.cells #[.slice a n c, u] 32)) := by rw [hW]; exact heap_alloc_new _ _
  clear hl hN hs hf hp e1 e2
  go_enter Tryz.func57, Tryz.ntmps57
  go_wp2_with fail
  rw [← hW]
  clear hW
  go_loopw [5, 6] (fun v5 v V => ∃ i : Nat, i ≤ n ∧ v = .int .i64 i ∧ v5 = .complex .f64 (FL.fI (QT.part N p QT.Nd.o1 i : Nat)) (FL.fI (QT.part N p QT.Nd.o2 i : Nat)) ∧ Hid (Below w.heap.size w V) ∧ Hid (V.heap[w.heap.size]? = some (.cells #[.slice a n c, u] 32))) (fun _ v _ => n - (intOf v).toNat)
  case atStart => exact ⟨0, Nat.zero_le _, rfl, rfl, bW, gW⟩
  case round =>
    obtain ⟨i, hi, rfl, rfl, Bv, Gv⟩ := hrel
    clear bW gW
    obtain ⟨t0, t1, _, _⟩ := cells2 Gv.out
    by_cases hlt : i < n
    · have h1 : (i : Int) < (n : Int) := by omega
      obtain ⟨x, hx⟩ : ∃ x, N[i]? = some x := ⟨_, List.getElem?_eq_getElem (by have := Hl.out; omega)⟩
      have Hx := Lib.hid hx
      obtain ⟨b, o, ea, c0, _⟩ := (HNb.out wr Bv.out).at i x hx
      subst ea
      clear hx
      have hBlt := (Array.getElem?_eq_some_iff.1 Gv.out).1
      have hblt := World.block_lt_of_cell? _ _ c0
      have cont : Hid (∀ V, Below wr.heap.size wr V → (Hid (Below wr.heap.size wr V) ∧ V.cell? ⟨w.heap.size, 0, none⟩ = some (.slice (some ⟨b, o, none⟩) n c) ∧ V.cell? ⟨w.heap.size, 1, none⟩ = some u ∧ V.cell? ⟨b, o + i * 5, none⟩ = some (.string (str x.nm)))) := fun V h => ⟨Lib.hid h, (World.cell?_of_block (a := ⟨w.heap.size, 0, none⟩) (h.block _ hBlt)).trans t0, (World.cell?_of_block (a := ⟨w.heap.size, 1, none⟩) (h.block _ hBlt)).trans t1, (World.cell?_of_block (a := ⟨b, o + i * 5, none⟩) (h.block _ hblt)).trans c0⟩
      have C1 : Hid (∀ V, (Hid (Below wr.heap.size wr V) ∧ V.cell? ⟨w.heap.size, 0, none⟩ = some (.slice (some ⟨b, o, none⟩) n c) ∧ V.cell? ⟨w.heap.size, 1, none⟩ = some u ∧ V.cell? ⟨b, o + i * 5, none⟩ = some (.string (str x.nm))) → Calls Tryz.prog 84 #[.agg #[.slice (some ⟨b, o, none⟩) n c, u], .string (str x.nm), .string (str s)] V fun e w' => e = .returned (.bool (p x)) ∧ (Hid (Below wr.heap.size wr w') ∧ w'.cell? ⟨w.heap.size, 0, none⟩ = some (.slice (some ⟨b, o, none⟩) n c) ∧ w'.cell? ⟨w.heap.size, 1, none⟩ = some u ∧ w'.cell? ⟨b, o + i * 5, none⟩ = some (.string (str x.nm)))) := fun V h =>
        (HU.out V x.nm (Bv.out.trans (h.1.out.mono Bv.out.size))).mono fun e w' ⟨e1, e2⟩ => ⟨by rw [e1, ← Hp.out x], cont.out w' (h.1.out.trans (e2.mono h.1.out.size))⟩
      have S0 := cont.out wr.drew (Below.refl _ _).drew
      generalize hpx : p x = q at *
      go_wp2_with fail
      refine wp_region_noPanic ?_
      refine wp_region_held_drew (S := fun V => (Hid (Below wr.heap.size wr V) ∧ V.cell? ⟨w.heap.size, 0, none⟩ = some (.slice (some ⟨b, o, none⟩) n c) ∧ V.cell? ⟨w.heap.size, 1, none⟩ = some u ∧ V.cell? ⟨b, o + i * 5, none⟩ = some (.string (str x.nm)))) (by kernel_rfl) S0 (fun hHeld => ?_)
      refine wpAnyH_take (i := 0) (v := ?hv0) (List.getElem?_toArray.trans rfl) (by kernel_rfl) (by kernel_rfl) (by kernel_rfl) (fun _ _ _ h => h) (Or.inl ⟨by rfl, ?hy0⟩) (by assumption) ?hr0
      case hy0 => (intro wt hSw; (try dsimp only at hSw); go_simp; try (with_reducible rfl))
      try simp only [Act.put, List.setIfInBounds_toArray, List.set_cons_zero, List.set_cons_succ]
      refine wpAnyH_take (i := 1) (v := ?hv1) (List.getElem?_toArray.trans rfl) (by kernel_rfl) (by kernel_rfl) (by kernel_rfl) (fun _ _ _ h => h) (Or.inl ⟨by rfl, ?hy1⟩) (by assumption) ?hr1
      case hy1 => (intro wt hSw; (try dsimp only at hSw); go_simp; try (with_reducible rfl))
      try simp only [Act.put, List.setIfInBounds_toArray, List.set_cons_zero, List.set_cons_succ]
      refine wpAnyH_take (i := 2) (v := ?hv2) (List.getElem?_toArray.trans rfl) (by kernel_rfl) (by kernel_rfl) (by kernel_rfl) (fun _ _ _ h => h) (Or.inl ⟨by rfl, ?hy2⟩) (by assumption) ?hr2
      case hy2 => (intro wt hSw; (try dsimp only at hSw); go_simp; try (with_reducible rfl))
      try simp only [Act.put, List.setIfInBounds_toArray, List.set_cons_zero, List.set_cons_succ]
      refine wpAnyH_take (i := 3) (v := ?hv3) (List.getElem?_toArray.trans rfl) (by kernel_rfl) (by kernel_rfl) (by kernel_rfl) (fun _ _ _ h => h) (Or.inl ⟨by rfl, ?hy3⟩) (by assumption) ?hr3
      case hy3 => (intro wt hSw; (try dsimp only at hSw); go_simp; try (with_reducible rfl))
      try simp only [Act.put, List.setIfInBounds_toArray, List.set_cons_zero, List.set_cons_succ]
      refine wpAnyH_take (i := 4) (v := ?hv4) (List.getElem?_toArray.trans rfl) (by kernel_rfl) (by kernel_rfl) (by kernel_rfl) (fun _ _ _ h => h) (Or.inl ⟨by rfl, ?hy4⟩) (by assumption) ?hr4
      case hy4 => (intro wt hSw; (try dsimp only at hSw); go_simp; try (with_reducible rfl))
      try simp only [Act.put, List.setIfInBounds_toArray, List.set_cons_zero, List.set_cons_succ]
      refine wpAnyH_take (i := 5) (v := ?hv5) (List.getElem?_toArray.trans rfl) (by kernel_rfl) (by kernel_rfl) (by kernel_rfl) (fun _ _ _ h => h) (Or.inl ⟨by rfl, ?hy5⟩) (by assumption) ?hr5
      case hy5 => (intro wt hSw; (try dsimp only at hSw); go_simp; try (with_reducible rfl))
      try simp only [Act.put, List.setIfInBounds_toArray, List.set_cons_zero, List.set_cons_succ]
      refine wpAnyH_take (i := 6) (v := ?hv6) (List.getElem?_toArray.trans rfl) (by kernel_rfl) (by kernel_rfl) (by kernel_rfl) (fun _ _ _ h => h) (Or.inl ⟨by rfl, ?hy6⟩) (by assumption) ?hr6
      case hy6 => (intro wt hSw; (try dsimp only at hSw); go_simp; try (with_reducible rfl))
      try simp only [Act.put, List.setIfInBounds_toArray, List.set_cons_zero, List.set_cons_succ]
      refine wpAnyH_take (i := 7) (v := ?hv7) (List.getElem?_toArray.trans rfl) (by kernel_rfl) (by kernel_rfl) (by kernel_rfl) (fun _ _ _ h => h) (Or.inl ⟨by rfl, ?hy7⟩) (by assumption) ?hr7
      case hy7 => (intro wt hSw; (try dsimp only at hSw); go_simp; try (with_reducible rfl))
      try simp only [Act.put, List.setIfInBounds_toArray, List.set_cons_zero, List.set_cons_succ]
      refine wpAnyH_ready (rs := [8]) (by kernel_rfl) (by simp) ?_
      refine AllReadyH.cons (List.getElem?_toArray.trans rfl) (fun K hK => ?_) AllReadyH.nil
      go_simp
      go_at_call 84
      refine (C1.out _ ?_).mono ?_
      assumption
      rintro e vx ⟨rfl, kx⟩
      clear C1
      try (go_wp2_with fail)
      refine hK.out _ _ ?_ (fun hHeld => ?_)
      · (try dsimp only)
        assumption
      clear hK K
      try simp only [Act.put, List.setIfInBounds_toArray, List.set_cons_zero, List.set_cons_succ]
      refine wpAnyH_done (by kernel_rfl) ?_ _
      refine NoPanic.normal ?_
      have Bx : Hid (Below w.heap.size w vx) := Bv.out.trans (kx.1.out.mono Bv.out.size)
      have Gx := Lib.hid ((kx.1.out.block _ hBlt).trans Gv.out)
      obtain ⟨b', o', ea, _, _, c2, _⟩ := (HNb.out vx Bx.out).at i x Hx.out
      simp only [Option.some.injEq, Addr.mk.injEq, and_true] at ea
      obtain ⟨rfl, rfl⟩ := ea
      obtain ⟨_, k0, k1, _⟩ := kx
      clear t0 t1 c0 cont hHeld S0
      cases q with
      | true =>
        have q1 := QT.part_yes (p := p) QT.Nd.o1 Hx.out hpx
        have q2 := QT.part_yes (p := p) QT.Nd.o2 Hx.out hpx
        have hi6 : i + 1 ≤ 256 := by have := Hs.out; omega
        have d1 := B1.out i (by omega)
        have d2 := B2.out i (by omega)
        have d3 := B1.out (i + 1) hi6
        have d4 := B2.out (i + 1) hi6
        have d5 := HFn.out x (List.mem_of_getElem? Hx.out)
        have hadd : ∀ V : World, (binOp .add 41 (.complex .f64 (FL.fI (QT.part N p QT.Nd.o1 i : Nat)) (FL.fI (QT.part N p QT.Nd.o2 i : Nat))) (.complex .f64 (FL.fB x.o1) (FL.fB x.o2))).run Tryz.prog V = .ok (.complex .f64 (FL.fI (QT.part N p QT.Nd.o1 (i + 1) : Nat)) (FL.fI (QT.part N p QT.Nd.o2 (i + 1) : Nat))) V := fun V => by
          rw [q1, q2, Int.natCast_add, Int.natCast_add]
          refine run_cadd _ _ _ (x.o1 : Int) (x.o2 : Int) V ?_ ?_ ?_ ?_ ?_ ?_ <;> unfold W53 <;> omega
        clear q1 q2 d1 d2 d3 d4 d5 hpx
        go_wp2
        exact ⟨⟨i + 1, by omega, by simp, rfl, Bx, Gx⟩, by simp [intOf]; omega⟩
      | false =>
        have q1 := QT.part_no (p := p) QT.Nd.o1 Hx.out hpx
        have q2 := QT.part_no (p := p) QT.Nd.o2 Hx.out hpx
        have Q1 := Lib.hid q1
        have Q2 := Lib.hid q2
        clear q1 q2 hpx
        go_wp2
        exact ⟨⟨i + 1, by omega, by simp, by rw [Q1.out, Q2.out], Bx, Gx⟩, by simp [intOf]; omega⟩
    · obtain rfl : i = n := by omega
      have hr1 := Lib.hid (QT.part_end (L := N) (p := p) QT.Nd.o1 (i := i) (by have := Hl.out; omega))
      have hr2 := Lib.hid (QT.part_end (L := N) (p := p) QT.Nd.o2 (i := i) (by have := Hl.out; omega))
      go_wp2
      go_ret
      exact ⟨by rw [← hr1.out, ← hr2.out]; rfl, Bv.out⟩
end Go.Proofs.YtflghelhdalhiaaGreatDoor

namespace Go.Proofs.YtflghelhdalhiaaGreatDoor
open Go Go.RowKit

/-- The slice value v reads as the uses N. -/
def RdsUs (w : World) (v : Value) (N : List QT.Us) : Prop :=
  ∃ a cap, v = .slice a N.length cap ∧ N.length ≤ cap ∧ cap ≤ maxLen ∧ (N = [] ∨ ∃ b o, a = some ⟨b, o, none⟩ ∧ ∀ i x, N[i]? = some x → ∀ j u, (valsUs x)[j]? = some u → w.cell? ⟨b, o + i * 3 + j, none⟩ = some u)
theorem RdsUs.below {w w' : World} {v : Value} {N : List QT.Us} (h : RdsUs w v N) (f : Below w.heap.size w w') : RdsUs w' v N := by
  obtain ⟨a, cap, rfl, h1, h2, h3⟩ := h
  refine ⟨a, cap, rfl, h1, h2, ?_⟩
  rcases h3 with h3 | ⟨b, o, rfl, hc⟩
  · exact .inl h3
  · refine .inr ⟨b, o, rfl, fun i x hx j u hu => ?_⟩
    have c := hc i x hx j u hu
    exact (World.cell?_of_block (f.block b (World.block_lt_of_cell? _ _ c))).trans c
theorem RdsUs.at {w : World} {a : Option Addr} {n c : Nat} {N : List QT.Us} (h : RdsUs w (.slice a n c) N) (i : Nat) (x : QT.Us) (hx : N[i]? = some x) :
    ∃ b o, a = some ⟨b, o, none⟩ ∧ w.cell? ⟨b, o + i * 3, none⟩ = some (.string (str x.id)) ∧ w.cell? ⟨b, o + i * 3 + 1, none⟩ = some (.string (str x.nd)) ∧ w.cell? ⟨b, o + i * 3 + 2, none⟩ = some (.complex .f64 (FL.fB x.a1) (FL.fB x.a2)) := by
  obtain ⟨a', cap, he, _, _, h3⟩ := h
  simp only [Value.slice.injEq] at he
  obtain ⟨rfl, _, rfl⟩ := he
  rcases h3 with rfl | ⟨b, o, rfl, hc⟩
  · simp at hx
  · exact ⟨b, o, rfl, hc i x hx 0 _ rfl, hc i x hx 1 _ rfl, hc i x hx 2 _ rfl⟩
theorem RdsUs.len {w : World} {a : Option Addr} {n c : Nat} {N : List QT.Us} (h : RdsUs w (.slice a n c) N) : N.length = n ∧ n ≤ c ∧ c ≤ maxLen := by
  obtain ⟨a', cap, he, h1, h2, _⟩ := h
  simp only [Value.slice.injEq] at he
  obtain ⟨rfl, rfl, rfl⟩ := he
  exact ⟨rfl, h1, h2⟩
set_option maxRecDepth 100000 in
set_option maxHeartbeats 8000000 in
/-- Used. -/
theorem rused_any (a0 : Option Addr) (n0 c0 : Nat) (a : Option Addr) (n c : Nat) (N : List QT.Nd) (L : List QT.Us) (s : QT.Str) (w : World) (hM : RdsNd w (.slice a0 n0 c0) N) (hN : RdsUs w (.slice a n c) L) (hs0 : n0 ≤ 256) (hs : n ≤ 1024) (hf : ∀ x ∈ L, x.a1 ≤ 1099511627776 ∧ x.a2 ≤ 1099511627776) :
    Calls Tryz.prog 58 #[.agg #[.slice a0 n0 c0, .slice a n c], .string (str s)] w fun v w' => v = .returned (.complex .f64 (FL.fB (QT.Used N L QT.Us.a1 s)) (FL.fB (QT.Used N L QT.Us.a2 s))) ∧ Below w.heap.size w w' := by
  obtain ⟨hl, _, _⟩ := hN.len
  have hn : (n : Int) ≤ 281474976710656 := by omega
  have Hl := Lib.hid hl
  have HU := Lib.hid (fun (V : World) (t : QT.Str) (b : Below w.heap.size w V) => runder_any a0 n0 c0 (.slice a n c) N t s V (hM.below b) (by omega))
  have HNb := Lib.hid (fun (V : World) (b : Below w.heap.size w V) => hN.below b)
  obtain ⟨p, hp⟩ : ∃ p : QT.Us → Bool, p = fun x => QT.un N x.nd s := ⟨_, rfl⟩
  have Hp := Lib.hid (fun x => congrFun hp x)
  have e1 : QT.Used N L QT.Us.a1 s = QT.S (L.filter p) QT.Us.a1 := by rw [hp]; rfl
  have e2 : QT.Used N L QT.Us.a2 s = QT.S (L.filter p) QT.Us.a2 := by rw [hp]; rfl
  rw [e1, e2]
  have B1 := Lib.hid (fun i (hi : i ≤ 1024) => show QT.part L p QT.Us.a1 i < 9007199254740992 from by have := QT.part_le (L := L) (p := p) (f := QT.Us.a1) (i := i) (B := 1099511627776) (fun x hx => (hf x hx).1); have := Nat.mul_le_mul_right 1099511627776 hi; omega)
  have B2 := Lib.hid (fun i (hi : i ≤ 1024) => show QT.part L p QT.Us.a2 i < 9007199254740992 from by have := QT.part_le (L := L) (p := p) (f := QT.Us.a2) (i := i) (B := 1099511627776) (fun x hx => (hf x hx).2); have := Nat.mul_le_mul_right 1099511627776 hi; omega)
  have HFn := Lib.hid hf
  have Hs := Lib.hid hs
  obtain ⟨W, hW⟩ : ∃ W, W = w.alloc (.cells #[.slice a0 n0 c0, .slice a n c] 32) := ⟨_, rfl⟩
  have bW : Hid (Below w.heap.size w W) := by rw [hW]; exact (Below.refl _ _).alloc (Nat.le_refl _) _
  have gW : Hid (W.heap[w.heap.size]? = some (.cells #[.slice a0 n0 c0, .slice a n c] 32)) := by rw [hW]; exact heap_alloc_new _ _
  clear hl hN hM hs hs0 hf hp e1 e2
  go_enter Tryz.func58, Tryz.ntmps58
  go_wp2_with fail
  rw [← hW]
  clear hW
  go_loopw [5, 6] (fun v5 v V => ∃ i : Nat, i ≤ n ∧ v = .int .i64 i ∧ v5 = .complex .f64 (FL.fI (QT.part L p QT.Us.a1 i : Nat)) (FL.fI (QT.part L p QT.Us.a2 i : Nat)) ∧ Hid (Below w.heap.size w V) ∧ Hid (V.heap[w.heap.size]? = some (.cells #[.slice a0 n0 c0, .slice a n c] 32))) (fun _ v _ => n - (intOf v).toNat)
  case atStart => exact ⟨0, Nat.zero_le _, rfl, rfl, bW, gW⟩
  case round =>
    obtain ⟨i, hi, rfl, rfl, Bv, Gv⟩ := hrel
    clear bW gW
    obtain ⟨t0, t1, _, _⟩ := cells2 Gv.out
    by_cases hlt : i < n
    · have h1 : (i : Int) < (n : Int) := by omega
      obtain ⟨x, hx⟩ : ∃ x, L[i]? = some x := ⟨_, List.getElem?_eq_getElem (by have := Hl.out; omega)⟩
      have Hx := Lib.hid hx
      obtain ⟨b, o, ea, _, c1, _⟩ := (HNb.out wr Bv.out).at i x hx
      subst ea
      clear hx
      have hBlt := (Array.getElem?_eq_some_iff.1 Gv.out).1
      have hblt := World.block_lt_of_cell? _ _ c1
      have cont : Hid (∀ V, Below wr.heap.size wr V → (Hid (Below wr.heap.size wr V) ∧ V.cell? ⟨w.heap.size, 0, none⟩ = some (.slice a0 n0 c0) ∧ V.cell? ⟨w.heap.size, 1, none⟩ = some (.slice (some ⟨b, o, none⟩) n c) ∧ V.cell? ⟨b, o + i * 3 + 1, none⟩ = some (.string (str x.nd)))) := fun V h => ⟨Lib.hid h, (World.cell?_of_block (a := ⟨w.heap.size, 0, none⟩) (h.block _ hBlt)).trans t0, (World.cell?_of_block (a := ⟨w.heap.size, 1, none⟩) (h.block _ hBlt)).trans t1, (World.cell?_of_block (a := ⟨b, o + i * 3 + 1, none⟩) (h.block _ hblt)).trans c1⟩
      have C1 : Hid (∀ V, (Hid (Below wr.heap.size wr V) ∧ V.cell? ⟨w.heap.size, 0, none⟩ = some (.slice a0 n0 c0) ∧ V.cell? ⟨w.heap.size, 1, none⟩ = some (.slice (some ⟨b, o, none⟩) n c) ∧ V.cell? ⟨b, o + i * 3 + 1, none⟩ = some (.string (str x.nd))) → Calls Tryz.prog 84 #[.agg #[.slice a0 n0 c0, .slice (some ⟨b, o, none⟩) n c], .string (str x.nd), .string (str s)] V fun e w' => e = .returned (.bool (p x)) ∧ (Hid (Below wr.heap.size wr w') ∧ w'.cell? ⟨w.heap.size, 0, none⟩ = some (.slice a0 n0 c0) ∧ w'.cell? ⟨w.heap.size, 1, none⟩ = some (.slice (some ⟨b, o, none⟩) n c) ∧ w'.cell? ⟨b, o + i * 3 + 1, none⟩ = some (.string (str x.nd)))) := fun V h =>
        (HU.out V x.nd (Bv.out.trans (h.1.out.mono Bv.out.size))).mono fun e w' ⟨e1, e2⟩ => ⟨by rw [e1, ← Hp.out x], cont.out w' (h.1.out.trans (e2.mono h.1.out.size))⟩
      have S0 := cont.out wr.drew (Below.refl _ _).drew
      generalize hpx : p x = q at *
      go_wp2_with fail
      refine wp_region_noPanic ?_
      refine wp_region_held_drew (S := fun V => (Hid (Below wr.heap.size wr V) ∧ V.cell? ⟨w.heap.size, 0, none⟩ = some (.slice a0 n0 c0) ∧ V.cell? ⟨w.heap.size, 1, none⟩ = some (.slice (some ⟨b, o, none⟩) n c) ∧ V.cell? ⟨b, o + i * 3 + 1, none⟩ = some (.string (str x.nd)))) (by kernel_rfl) S0 (fun hHeld => ?_)
      refine wpAnyH_take (i := 0) (v := ?hv0) (List.getElem?_toArray.trans rfl) (by kernel_rfl) (by kernel_rfl) (by kernel_rfl) (fun _ _ _ h => h) (Or.inl ⟨by rfl, ?hy0⟩) (by assumption) ?hr0
      case hy0 => (intro wt hSw; (try dsimp only at hSw); go_simp; try (with_reducible rfl))
      try simp only [Act.put, List.setIfInBounds_toArray, List.set_cons_zero, List.set_cons_succ]
      refine wpAnyH_take (i := 1) (v := ?hv1) (List.getElem?_toArray.trans rfl) (by kernel_rfl) (by kernel_rfl) (by kernel_rfl) (fun _ _ _ h => h) (Or.inl ⟨by rfl, ?hy1⟩) (by assumption) ?hr1
      case hy1 => (intro wt hSw; (try dsimp only at hSw); go_simp; try (with_reducible rfl))
      try simp only [Act.put, List.setIfInBounds_toArray, List.set_cons_zero, List.set_cons_succ]
      refine wpAnyH_take (i := 2) (v := ?hv2) (List.getElem?_toArray.trans rfl) (by kernel_rfl) (by kernel_rfl) (by kernel_rfl) (fun _ _ _ h => h) (Or.inl ⟨by rfl, ?hy2⟩) (by assumption) ?hr2
      case hy2 => (intro wt hSw; (try dsimp only at hSw); go_simp; try (with_reducible rfl))
      try simp only [Act.put, List.setIfInBounds_toArray, List.set_cons_zero, List.set_cons_succ]
      refine wpAnyH_take (i := 3) (v := ?hv3) (List.getElem?_toArray.trans rfl) (by kernel_rfl) (by kernel_rfl) (by kernel_rfl) (fun _ _ _ h => h) (Or.inl ⟨by rfl, ?hy3⟩) (by assumption) ?hr3
      case hy3 => (intro wt hSw; (try dsimp only at hSw); go_simp; try (with_reducible rfl))
      try simp only [Act.put, List.setIfInBounds_toArray, List.set_cons_zero, List.set_cons_succ]
      refine wpAnyH_take (i := 4) (v := ?hv4) (List.getElem?_toArray.trans rfl) (by kernel_rfl) (by kernel_rfl) (by kernel_rfl) (fun _ _ _ h => h) (Or.inl ⟨by rfl, ?hy4⟩) (by assumption) ?hr4
      case hy4 => (intro wt hSw; (try dsimp only at hSw); go_simp; try (with_reducible rfl))
      try simp only [Act.put, List.setIfInBounds_toArray, List.set_cons_zero, List.set_cons_succ]
      refine wpAnyH_take (i := 5) (v := ?hv5) (List.getElem?_toArray.trans rfl) (by kernel_rfl) (by kernel_rfl) (by kernel_rfl) (fun _ _ _ h => h) (Or.inl ⟨by rfl, ?hy5⟩) (by assumption) ?hr5
      case hy5 => (intro wt hSw; (try dsimp only at hSw); go_simp; try (with_reducible rfl))
      try simp only [Act.put, List.setIfInBounds_toArray, List.set_cons_zero, List.set_cons_succ]
      refine wpAnyH_take (i := 6) (v := ?hv6) (List.getElem?_toArray.trans rfl) (by kernel_rfl) (by kernel_rfl) (by kernel_rfl) (fun _ _ _ h => h) (Or.inl ⟨by rfl, ?hy6⟩) (by assumption) ?hr6
      case hy6 => (intro wt hSw; (try dsimp only at hSw); go_simp; try (with_reducible rfl))
      try simp only [Act.put, List.setIfInBounds_toArray, List.set_cons_zero, List.set_cons_succ]
      refine wpAnyH_take (i := 7) (v := ?hv7) (List.getElem?_toArray.trans rfl) (by kernel_rfl) (by kernel_rfl) (by kernel_rfl) (fun _ _ _ h => h) (Or.inl ⟨by rfl, ?hy7⟩) (by assumption) ?hr7
      case hy7 => (intro wt hSw; (try dsimp only at hSw); go_simp; try (with_reducible rfl))
      try simp only [Act.put, List.setIfInBounds_toArray, List.set_cons_zero, List.set_cons_succ]
      refine wpAnyH_ready (rs := [8]) (by kernel_rfl) (by simp) ?_
      refine AllReadyH.cons (List.getElem?_toArray.trans rfl) (fun K hK => ?_) AllReadyH.nil
      go_simp
      go_at_call 84
      refine (C1.out _ ?_).mono ?_
      assumption
      rintro e vx ⟨rfl, kx⟩
      clear C1
      try (go_wp2_with fail)
      refine hK.out _ _ ?_ (fun hHeld => ?_)
      · (try dsimp only)
        assumption
      clear hK K
      try simp only [Act.put, List.setIfInBounds_toArray, List.set_cons_zero, List.set_cons_succ]
      refine wpAnyH_done (by kernel_rfl) ?_ _
      refine NoPanic.normal ?_
      have Bx : Hid (Below w.heap.size w vx) := Bv.out.trans (kx.1.out.mono Bv.out.size)
      have Gx := Lib.hid ((kx.1.out.block _ hBlt).trans Gv.out)
      obtain ⟨b', o', ea, _, _, c2⟩ := (HNb.out vx Bx.out).at i x Hx.out
      simp only [Option.some.injEq, Addr.mk.injEq, and_true] at ea
      obtain ⟨rfl, rfl⟩ := ea
      obtain ⟨_, k0, k1, _⟩ := kx
      clear t0 t1 c1 cont hHeld S0
      cases q with
      | true =>
        have q1 := QT.part_yes (p := p) QT.Us.a1 Hx.out hpx
        have q2 := QT.part_yes (p := p) QT.Us.a2 Hx.out hpx
        have hi6 : i + 1 ≤ 1024 := by have := Hs.out; omega
        have d1 := B1.out i (by omega)
        have d2 := B2.out i (by omega)
        have d3 := B1.out (i + 1) hi6
        have d4 := B2.out (i + 1) hi6
        have d5 := HFn.out x (List.mem_of_getElem? Hx.out)
        have hadd : ∀ V : World, (binOp .add 41 (.complex .f64 (FL.fI (QT.part L p QT.Us.a1 i : Nat)) (FL.fI (QT.part L p QT.Us.a2 i : Nat))) (.complex .f64 (FL.fB x.a1) (FL.fB x.a2))).run Tryz.prog V = .ok (.complex .f64 (FL.fI (QT.part L p QT.Us.a1 (i + 1) : Nat)) (FL.fI (QT.part L p QT.Us.a2 (i + 1) : Nat))) V := fun V => by
          rw [q1, q2, Int.natCast_add, Int.natCast_add]
          refine run_cadd _ _ _ (x.a1 : Int) (x.a2 : Int) V ?_ ?_ ?_ ?_ ?_ ?_ <;> unfold W53 <;> omega
        clear q1 q2 d1 d2 d3 d4 d5 hpx
        go_wp2
        exact ⟨⟨i + 1, by omega, by simp, rfl, Bx, Gx⟩, by simp [intOf]; omega⟩
      | false =>
        have q1 := QT.part_no (p := p) QT.Us.a1 Hx.out hpx
        have q2 := QT.part_no (p := p) QT.Us.a2 Hx.out hpx
        have Q1 := Lib.hid q1
        have Q2 := Lib.hid q2
        clear q1 q2 hpx
        go_wp2
        exact ⟨⟨i + 1, by omega, by simp, by rw [Q1.out, Q2.out], Bx, Gx⟩, by simp [intOf]; omega⟩
    · obtain rfl : i = n := by omega
      have hr1 := Lib.hid (QT.part_end (L := L) (p := p) QT.Us.a1 (i := i) (by have := Hl.out; omega))
      have hr2 := Lib.hid (QT.part_end (L := L) (p := p) QT.Us.a2 (i := i) (by have := Hl.out; omega))
      go_wp2
      go_ret
      exact ⟨by rw [← hr1.out, ← hr2.out]; rfl, Bv.out⟩
end Go.Proofs.YtflghelhdalhiaaGreatDoor
