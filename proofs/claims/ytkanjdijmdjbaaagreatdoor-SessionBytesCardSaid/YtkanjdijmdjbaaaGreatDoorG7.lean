/-
  The document's Rooted, by a contract.
  Conditions: the slice reads as nodes, at most 2^40.
  The document's Total, by a contract.
  Conditions: the slice reads as nodes, at most 256, whose amounts are at most 2^40.
  The program's maps of nodes and of uses: what the operations on them give, over lists.
  Conditions: keys of at most 2^40 bytes.
  The program's tree: its two maps; what is used at a node itself (here), by a contract.
  Conditions: the tree's maps hold the lists' (TreeQ); names of at most 2^40 bytes, amounts at most 2^40, at most 1024 uses.
-/
import Derived.Test.YtkanjdijmdjbaaaGreatDoorG6
import Derived.Deep.RegionHeld3
import Derived.Test.YtkanjdijmdjbaaaGreatDoorSli
import Derived.Maps.RangeWalk
import Derived.Sort.KeysCollected
import Derived.StringKeys
import Derived.Test.YtkanjdijmdjbaaaGreatDoorG4
namespace Go.Proofs.YtkanjdijmdjbaaaGreatDoor
open Go Go.RowKit

/-- All ways end, as a truth value. -/
def QT.rootedB (N : List QT.Nd) : Bool := N.all fun n => (QT.dp N (N.length + 2) n.nm).isSome
theorem QT.rootedB_iff (N : List QT.Nd) : QT.rootedB N = true ↔ QT.rooted N := by
  unfold QT.rootedB QT.rooted
  rw [List.all_eq_true]
theorem QT.rootedB_no {N : List QT.Nd} {x : QT.Nd} (hx : x ∈ N) (h : (QT.dp N (N.length + 2) x.nm).isSome = false) : QT.rootedB N = false := by
  unfold QT.rootedB
  rw [List.all_eq_false]
  exact ⟨x, hx, by rw [h]; simp⟩
theorem QT.rootedB_yes {N : List QT.Nd} (h : ∀ (j : Nat) (x : QT.Nd), j < N.length → N[j]? = some x → (QT.dp N (N.length + 2) x.nm).isSome = true) : QT.rootedB N = true := by
  unfold QT.rootedB
  rw [List.all_eq_true]
  intro x hx
  obtain ⟨j, hj, rfl⟩ := List.getElem_of_mem hx
  exact h j _ hj (List.getElem?_eq_getElem hj)
set_option maxRecDepth 100000 in
set_option maxHeartbeats 8000000 in
/-- Rooted. -/
theorem rrooted_any (a : Option Addr) (n c : Nat) (u : Value) (N : List QT.Nd) (w : World) (hN : RdsNd w (.slice a n c) N) (hs : n ≤ 1099511627776) :
    Calls Tryz.prog 60 #[.agg #[.slice a n c, u]] w fun v w' => v = .returned (.bool (QT.rootedB N)) ∧ Below w.heap.size w w' := by
  obtain ⟨hl, _, _⟩ := hN.len
  have hn : (n : Int) ≤ 281474976710656 := by omega
  have Hl := Lib.hid hl
  have HF := Lib.hid (fun (V : World) (s : QT.Str) (b : Below w.heap.size w V) => rfind_any a n c u N s V (hN.below b))
  have HNb := Lib.hid (fun (V : World) (b : Below w.heap.size w V) => hN.below b)
  obtain ⟨W, hW⟩ : ∃ W, W = w.alloc (.cells #[.slice a n c, u] 32) := ⟨_, rfl⟩
  have bW : Hid (Below w.heap.size w W) := by rw [hW]; exact (Below.refl _ _).alloc (Nat.le_refl _) _
  have gW : Hid (W.heap[w.heap.size]? = some (.cells #[.slice a n c, u] 32)) := by rw [hW]; exact heap_alloc_new _ _
  clear hl hN hs
  go_enter Tryz.func60, Tryz.ntmps60
  go_wp2_with fail
  rw [← hW]
  clear hW
  go_loopw [3] (fun v V => ∃ i : Nat, i ≤ n ∧ v = .int .i64 i ∧ Hid (∀ (j : Nat) (x : QT.Nd), j < i → N[j]? = some x → (QT.dp N (n + 2) x.nm).isSome = true) ∧ Hid (Below w.heap.size w V) ∧ Hid (V.heap[w.heap.size]? = some (.cells #[.slice a n c, u] 32))) (fun v _ => n - (intOf v).toNat)
  case atStart => exact ⟨0, Nat.zero_le _, rfl, Lib.hid (fun j x hj => by omega), bW, gW⟩
  case round =>
    obtain ⟨i, hi, rfl, Hp, Bv, Gv⟩ := hrel
    clear bW gW
    obtain ⟨t0, t1, _, _⟩ := cells2 Gv.out
    by_cases hlt : i < n
    · have h1 : (i : Int) < (n : Int) := by omega
      obtain ⟨x, hx⟩ : ∃ x, N[i]? = some x := ⟨_, List.getElem?_eq_getElem (by have := Hl.out; omega)⟩
      have Hx := Lib.hid hx
      obtain ⟨b, o, ea, c0, _⟩ := (HNb.out wr Bv.out).at i x hx
      subst ea
      clear hx
      go_wp2_with fail
      go_loopw [4, 5] (fun v4 v5 V => ∃ (k : Nat) (s' : QT.Str), k ≤ n + 1 ∧ v5 = .int .i64 k ∧ v4 = .string (str s') ∧ Hid ((QT.dp N (n + 2) x.nm).isSome = (QT.dp N (n + 2 - k) s').isSome) ∧ Hid (Below w.heap.size w V) ∧ Hid (V.heap[w.heap.size]? = some (.cells #[.slice (some ⟨b, o, none⟩) n c, u] 32))) (fun _ v _ => n + 1 - (intOf v).toNat)
      case atStart => exact ⟨0, x.nm, Nat.zero_le _, rfl, rfl, rfl, Bv, Gv⟩
      case round =>
        obtain ⟨k, s', hk, rfl, rfl, Hu, Bx, Gx⟩ := hrel
        clear t0 t1 c0
        obtain ⟨t0, t1, _, _⟩ := cells2 Gx.out
        by_cases hs0 : s' = []
        · subst hs0
          have ht : (str []).toList.isEmpty = true := by rw [str_toList]; rfl
          have hp2 : Hid (∀ (j : Nat) (y : QT.Nd), j < i + 1 → N[j]? = some y → (QT.dp N (n + 2) y.nm).isSome = true) := Lib.hid (fun j y hj hy => by
            by_cases e : j = i
            · subst e
              rw [Hx.out] at hy
              cases hy
              rw [Hu.out]
              obtain ⟨m, hm⟩ : ∃ m, n + 2 - k = m + 1 := ⟨n + 1 - k, by omega⟩
              rw [hm]
              rfl
            · exact Hp.out j y (by omega) hy)
          clear Hu Hp Bv Gv
          go_wp2
          exact ⟨⟨i + 1, by omega, by simp, hp2, Bx, Gx⟩, by simp [intOf]; omega⟩
        · have ht : (str s').toList.isEmpty = false := by rw [str_toList]; simpa using hs0
          have HF1 := Lib.hid (HF.out wr s' Bx.out)
          obtain ⟨m, hm⟩ : ∃ m, n + 2 - k = m + 1 := ⟨n + 1 - k, by omega⟩
          have Hm : Hid (n + 2 - (k + 1) = m) := Lib.hid (by omega)
          have Hm0 : Hid (k = n + 1 → m = 0) := Lib.hid (by omega)
          rw [hm] at Hu
          clear hm
          rcases QT.at_cases N s' with ⟨e1, e2⟩ | ⟨i2, y, e1, ei, e2⟩
          · have hr : Hid (QT.rootedB N = false) := Lib.hid (QT.rootedB_no (List.mem_of_getElem? Hx.out) (by rw [Hl.out, Hu.out]; unfold QT.dp; rw [if_neg hs0, e2]; rfl))
            rw [e1] at HF1
            clear Hu e1 e2 hs0 Hp Bv Gv
            go_wp2_with fail
            refine HF1.out.mono ?_
            rintro e w1 ⟨rfl, b1⟩
            have B1 : Hid (Below w.heap.size w w1) := Bx.out.trans (b1.mono Bx.out.size)
            clear b1 HF1
            go_wp2
            go_ret
            exact ⟨by rw [hr.out]; rfl, B1.out⟩
          · rw [e1] at HF1
            have hin : i2 < n := by have := (List.getElem?_eq_some_iff.1 ei).1; have := Hl.out; omega
            have h2 : (i2 : Int) < (n : Int) := by omega
            have h3 : ¬ ((i2 : Int) < 0) := by omega
            have Ei := Lib.hid ei
            have hd : (QT.dp N (m + 1) s').isSome = (QT.dp N m y.pr).isSome := by conv => lhs; unfold QT.dp; rw [if_neg hs0, e2]; simp
            have Hd := Lib.hid hd
            clear e1 e2 hs0 ei hd
            by_cases hkn : k ≤ n
            · have h4 : ¬ ((n : Int) < (k : Int)) := by omega
              clear Hm0
              go_wp2_with fail
              refine HF1.out.mono ?_
              rintro e w1 ⟨rfl, b1⟩
              have B1 : Hid (Below w.heap.size w w1) := Bx.out.trans (b1.mono Bx.out.size)
              have G1 := Lib.hid ((b1.block _ (Array.getElem?_eq_some_iff.1 Gx.out).1).trans Gx.out)
              obtain ⟨b', o', ea, _, c1, _⟩ := (HNb.out w1 B1.out).at i2 y Ei.out
              simp only [Option.some.injEq, Addr.mk.injEq, and_true] at ea
              obtain ⟨rfl, rfl⟩ := ea
              clear t0 t1 b1 HF1
              obtain ⟨t0, t1, _, _⟩ := cells2 G1.out
              go_wp2
              exact ⟨⟨k + 1, y.pr, by omega, by simp, rfl, Lib.hid (by rw [Hm.out, Hu.out]; exact Hd.out), B1, G1⟩, by simp [intOf]; omega⟩
            · obtain rfl : k = n + 1 := by omega
              have hr : Hid (QT.rootedB N = false) := Lib.hid (QT.rootedB_no (List.mem_of_getElem? Hx.out) (by rw [Hl.out, Hu.out, Hd.out, Hm0.out rfl]; rfl))
              have h4 : (n : Int) < ((n + 1 : Nat) : Int) := by omega
              clear Hu Hd Hp Bv Gv Hm Hm0
              go_wp2_with fail
              refine HF1.out.mono ?_
              rintro e w1 ⟨rfl, b1⟩
              have B1 : Hid (Below w.heap.size w w1) := Bx.out.trans (b1.mono Bx.out.size)
              have G1 := (b1.block _ (Array.getElem?_eq_some_iff.1 Gx.out).1).trans Gx.out
              clear t0 t1 b1 HF1
              obtain ⟨t0, t1, _, _⟩ := cells2 G1
              clear G1
              go_wp2
              go_ret
              exact ⟨by rw [hr.out]; rfl, B1.out⟩
    · obtain rfl : i = n := by omega
      have hr : Hid (QT.rootedB N = true) := Lib.hid (QT.rootedB_yes (fun j x hj hx => by rw [Hl.out]; exact Hp.out j x (by have := Hl.out; omega) hx))
      clear Hp
      go_wp2
      go_ret
      exact ⟨by rw [hr.out]; rfl, Bv.out⟩
theorem QT.S_append {α : Type} (l m : List α) (F : α → Nat) : QT.S (l ++ m) F = QT.S l F + QT.S m F := by
  induction l with
  | nil => rw [QT.S_nil, Nat.zero_add]; rfl
  | cons x r ih => rw [List.cons_append, QT.S_cons, QT.S_cons, ih]; omega
/-- A sum so far. -/
def QT.part {α : Type} (L : List α) (p : α → Bool) (f : α → Nat) (i : Nat) : Nat := QT.S ((L.take i).filter p) f
theorem QT.part_yes {α : Type} {L : List α} {p : α → Bool} (f : α → Nat) {i : Nat} {x : α} (hx : L[i]? = some x) (h : p x = true) : QT.part L p f (i + 1) = QT.part L p f i + f x := by
  unfold QT.part
  rw [List.take_add_one, hx, List.filter_append, QT.S_append]
  simp [h, QT.S]
theorem QT.part_no {α : Type} {L : List α} {p : α → Bool} (f : α → Nat) {i : Nat} {x : α} (hx : L[i]? = some x) (h : p x = false) : QT.part L p f (i + 1) = QT.part L p f i := by
  unfold QT.part
  rw [List.take_add_one, hx, List.filter_append, QT.S_append]
  simp [h, QT.S]
theorem QT.part_end {α : Type} {L : List α} {p : α → Bool} (f : α → Nat) {i : Nat} (h : L.length ≤ i) : QT.part L p f i = QT.S (L.filter p) f := by
  unfold QT.part
  rw [List.take_of_length_le h]
theorem QT.part_le {α : Type} {L : List α} {p : α → Bool} {f : α → Nat} {i B : Nat} (h : ∀ x ∈ L, f x ≤ B) : QT.part L p f i ≤ i * B := by
  unfold QT.part
  refine Nat.le_trans (QT.S_bound fun x hx => h x (List.mem_of_mem_take (List.mem_filter.1 hx).1)) (Nat.mul_le_mul_right _ ?_)
  exact Nat.le_trans (List.length_filter_le _ _) (List.length_take_le _ _)
set_option maxRecDepth 100000 in
set_option maxHeartbeats 8000000 in
/-- Total. -/
theorem rtotal_any (a : Option Addr) (n c : Nat) (u : Value) (N : List QT.Nd) (s : QT.Str) (w : World) (hN : RdsNd w (.slice a n c) N) (hs : n ≤ 256) (hf : ∀ x ∈ N, x.o1 ≤ 1099511627776 ∧ x.o2 ≤ 1099511627776) :
    Calls Tryz.prog 110 #[.agg #[.slice a n c, u], .string (str s)] w fun v w' => v = .returned (.complex .f64 (FL.fB (QT.Total N QT.Nd.o1 s)) (FL.fB (QT.Total N QT.Nd.o2 s))) ∧ Below w.heap.size w w' := by
  obtain ⟨hl, _, _⟩ := hN.len
  have hn : (n : Int) ≤ 281474976710656 := by omega
  have Hl := Lib.hid hl
  have HU := Lib.hid (fun (V : World) (t : QT.Str) (b : Below w.heap.size w V) => runder_any a n c u N t s V (hN.below b) (by omega))
  have HNb := Lib.hid (fun (V : World) (b : Below w.heap.size w V) => hN.below b)
  obtain ⟨p, hp⟩ : ∃ p : QT.Nd → Bool, p = fun x => QT.un N x.nm s := ⟨_, rfl⟩
  have Hp := Lib.hid (fun x => congrFun hp x)
  have e1 : QT.Total N QT.Nd.o1 s = QT.S (N.filter p) QT.Nd.o1 := by rw [hp]; rfl
  have e2 : QT.Total N QT.Nd.o2 s = QT.S (N.filter p) QT.Nd.o2 := by rw [hp]; rfl
  rw [e1, e2]
  have B1 := Lib.hid (fun i (hi : i ≤ 256) => show QT.part N p QT.Nd.o1 i < 9007199254740992 from by have := QT.part_le (L := N) (p := p) (f := QT.Nd.o1) (i := i) (B := 1099511627776) (fun x hx => (hf x hx).1); have := Nat.mul_le_mul_right 1099511627776 hi; omega)
  have B2 := Lib.hid (fun i (hi : i ≤ 256) => show QT.part N p QT.Nd.o2 i < 9007199254740992 from by have := QT.part_le (L := N) (p := p) (f := QT.Nd.o2) (i := i) (B := 1099511627776) (fun x hx => (hf x hx).2); have := Nat.mul_le_mul_right 1099511627776 hi; omega)
  have HFn := Lib.hid hf
  have Hs := Lib.hid hs
  obtain ⟨W, hW⟩ : ∃ W, W = w.alloc (.cells #[.slice a n c, u] 32) := ⟨_, rfl⟩
  have bW : Hid (Below w.heap.size w W) := by rw [hW]; exact (Below.refl _ _).alloc (Nat.le_refl _) _
  have gW : Hid (W.heap[w.heap.size]? = some (.cells #[.slice a n c, u] 32)) := by rw [hW]; exact heap_alloc_new _ _
  clear hl hN hs hf hp e1 e2
  go_enter Tryz.func110, Tryz.ntmps110
  go_wp2_with fail
  rw [← hW]
  clear hW
  go_loopw [5, 6] (fun v5 v V => ∃ i : Nat, i ≤ n ∧ v = .int .i64 i ∧ v5 = .complex .f64 (FL.fI (QT.part N p QT.Nd.o1 i : Nat)) (FL.fI (QT.part N p QT.Nd.o2 i : Nat)) ∧ Hid (Below w.heap.size w V) ∧ Hid (V.heap[w.heap.size]? = some (.cells #[.slice a n c, u] 32))) (fun _ v _ => n - (intOf v).toNat)
  case atStart => exact ⟨0, Nat.zero_le _, rfl, rfl, bW, gW⟩
  case round =>
    obtain ⟨i, hi, rfl, rfl, Bv, Gv⟩ := hrel
    clear bW gW
    obtain ⟨t0, t1, _, _⟩ := cells2 Gv.out
    by_cases hlt : i < n
    · have h1 : (i : Int) < (n : Int) := by omega
      obtain ⟨x, hx⟩ : ∃ x, N[i]? = some x := ⟨_, List.getElem?_eq_getElem (by have := Hl.out; omega)⟩
      have Hx := Lib.hid hx
      obtain ⟨b, o, ea, c0, _⟩ := (HNb.out wr Bv.out).at i x hx
      subst ea
      clear hx
      have hBlt := (Array.getElem?_eq_some_iff.1 Gv.out).1
      have hblt := World.block_lt_of_cell? _ _ c0
      have cont : Hid (∀ V, Below wr.heap.size wr V → (Hid (Below wr.heap.size wr V) ∧ V.cell? ⟨w.heap.size, 0, none⟩ = some (.slice (some ⟨b, o, none⟩) n c) ∧ V.cell? ⟨w.heap.size, 1, none⟩ = some u ∧ V.cell? ⟨b, o + i * 5, none⟩ = some (.string (str x.nm)))) := fun V h => ⟨Lib.hid h, (World.cell?_of_block (a := ⟨w.heap.size, 0, none⟩) (h.block _ hBlt)).trans t0, (World.cell?_of_block (a := ⟨w.heap.size, 1, none⟩) (h.block _ hBlt)).trans t1, (World.cell?_of_block (a := ⟨b, o + i * 5, none⟩) (h.block _ hblt)).trans c0⟩
      have C1 : Hid (∀ V, (Hid (Below wr.heap.size wr V) ∧ V.cell? ⟨w.heap.size, 0, none⟩ = some (.slice (some ⟨b, o, none⟩) n c) ∧ V.cell? ⟨w.heap.size, 1, none⟩ = some u ∧ V.cell? ⟨b, o + i * 5, none⟩ = some (.string (str x.nm))) → Calls Tryz.prog 146 #[.agg #[.slice (some ⟨b, o, none⟩) n c, u], .string (str x.nm), .string (str s)] V fun e w' => e = .returned (.bool (p x)) ∧ (Hid (Below wr.heap.size wr w') ∧ w'.cell? ⟨w.heap.size, 0, none⟩ = some (.slice (some ⟨b, o, none⟩) n c) ∧ w'.cell? ⟨w.heap.size, 1, none⟩ = some u ∧ w'.cell? ⟨b, o + i * 5, none⟩ = some (.string (str x.nm)))) := fun V h =>
        (HU.out V x.nm (Bv.out.trans (h.1.out.mono Bv.out.size))).mono fun e w' ⟨e1, e2⟩ => ⟨by rw [e1, ← Hp.out x], cont.out w' (h.1.out.trans (e2.mono h.1.out.size))⟩
      have S0 := cont.out wr.drew (Below.refl _ _).drew
      generalize hpx : p x = q at *
      go_wp2_with fail
      refine wp_region_noPanic ?_
      refine wp_region_held_drew (S := fun V => (Hid (Below wr.heap.size wr V) ∧ V.cell? ⟨w.heap.size, 0, none⟩ = some (.slice (some ⟨b, o, none⟩) n c) ∧ V.cell? ⟨w.heap.size, 1, none⟩ = some u ∧ V.cell? ⟨b, o + i * 5, none⟩ = some (.string (str x.nm)))) (by kernel_rfl) S0 (fun hHeld => ?_)
      refine rTk 0 ?_; try simp only [Act.put, rP1, rP2, rP3]
      refine rTk 1 ?_; try simp only [Act.put, rP1, rP2, rP3]
      refine rTk 2 ?_; try simp only [Act.put, rP1, rP2, rP3]
      refine rTk 3 ?_; try simp only [Act.put, rP1, rP2, rP3]
      refine rTk 4 ?_; try simp only [Act.put, rP1, rP2, rP3]
      refine rTk 5 ?_; try simp only [Act.put, rP1, rP2, rP3]
      refine rTk 6 ?_; try simp only [Act.put, rP1, rP2, rP3]
      refine rTk 7 ?_; try simp only [Act.put, rP1, rP2, rP3]
      refine rBr 8 fun K hK => ?_
      go_simp
      go_at_call 146
      refine (C1.out _ ?_).mono ?_
      assumption
      rintro e vx ⟨rfl, kx⟩
      clear C1
      try (go_wp2_with fail)
      refine hK.out _ _ (by (try dsimp only); assumption) (fun hHeld => ?_)
      clear hK K
      try simp only [Act.put, rP1, rP2, rP3]
      refine wpAnyH_done (by kernel_rfl) ?_ _
      refine NoPanic.normal ?_
      have Bx : Hid (Below w.heap.size w vx) := Bv.out.trans (kx.1.out.mono Bv.out.size)
      have Gx := Lib.hid ((kx.1.out.block _ hBlt).trans Gv.out)
      obtain ⟨b', o', ea, _, _, c2, _⟩ := (HNb.out vx Bx.out).at i x Hx.out
      simp only [Option.some.injEq, Addr.mk.injEq, and_true] at ea
      obtain ⟨rfl, rfl⟩ := ea
      obtain ⟨_, k0, k1, _⟩ := kx
      clear t0 t1 c0 cont hHeld S0
      cases q with
      | true =>
        have q1 := QT.part_yes (p := p) QT.Nd.o1 Hx.out hpx
        have q2 := QT.part_yes (p := p) QT.Nd.o2 Hx.out hpx
        have hi6 : i + 1 ≤ 256 := by have := Hs.out; omega
        have d1 := B1.out i (by omega)
        have d2 := B2.out i (by omega)
        have d3 := B1.out (i + 1) hi6
        have d4 := B2.out (i + 1) hi6
        have d5 := HFn.out x (List.mem_of_getElem? Hx.out)
        have hadd : ∀ V : World, (binOp .add 43 (.complex .f64 (FL.fI (QT.part N p QT.Nd.o1 i : Nat)) (FL.fI (QT.part N p QT.Nd.o2 i : Nat))) (.complex .f64 (FL.fB x.o1) (FL.fB x.o2))).run Tryz.prog V = .ok (.complex .f64 (FL.fI (QT.part N p QT.Nd.o1 (i + 1) : Nat)) (FL.fI (QT.part N p QT.Nd.o2 (i + 1) : Nat))) V := fun V => by
          rw [q1, q2, Int.natCast_add, Int.natCast_add]
          refine run_cadd _ _ _ (x.o1 : Int) (x.o2 : Int) V ?_ ?_ ?_ ?_ ?_ ?_ <;> unfold W53 <;> omega
        clear q1 q2 d1 d2 d3 d4 d5 hpx
        go_wp2
        exact ⟨⟨i + 1, by omega, by simp, rfl, Bx, Gx⟩, by simp [intOf]; omega⟩
      | false =>
        have q1 := QT.part_no (p := p) QT.Nd.o1 Hx.out hpx
        have q2 := QT.part_no (p := p) QT.Nd.o2 Hx.out hpx
        have Q1 := Lib.hid q1
        have Q2 := Lib.hid q2
        clear q1 q2 hpx
        go_wp2
        exact ⟨⟨i + 1, by omega, by simp, by rw [Q1.out, Q2.out], Bx, Gx⟩, by simp [intOf]; omega⟩
    · obtain rfl : i = n := by omega
      have hr1 := Lib.hid (QT.part_end (L := N) (p := p) QT.Nd.o1 (i := i) (by have := Hl.out; omega))
      have hr2 := Lib.hid (QT.part_end (L := N) (p := p) QT.Nd.o2 (i := i) (by have := Hl.out; omega))
      go_wp2
      go_ret
      exact ⟨by rw [← hr1.out, ← hr2.out]; rfl, Bv.out⟩
end Go.Proofs.YtkanjdijmdjbaaaGreatDoor

namespace Go.Proofs.YtkanjdijmdjbaaaGreatDoor
open Go Go.RowKit Go.Maps

open Classical in
/-- Every value of the kind reads, as itself. -/
noncomputable def heldG {α : Type} (val : α → Value) (v : Value) : Option (DataW Value × List MemPlace) := if ∃ x, v = val x then some (.held v, []) else none
theorem heldG_val {α : Type} (val : α → Value) (x : α) : heldG val (val x) = some (.held (val x), []) := by unfold heldG; rw [if_pos ⟨x, rfl⟩]
theorem heldG_form {α : Type} {val : α → Value} {v : Value} {z : DataW Value × List MemPlace} (h : heldG val v = some z) : (∃ x, v = val x) ∧ z = (.held v, []) := by
  unfold heldG at h
  by_cases e : ∃ x, v = val x
  · rw [if_pos e] at h; exact ⟨e, (Option.some.inj h).symm⟩
  · rw [if_neg e] at h; cases h
theorem held_inj {α : Type} {val : α → Value} {x y : Value} {ps : List MemPlace} (h : heldG val x = some (DataW.held y, ps)) : x = y := by
  have := (heldG_form h).2
  simp only [Prod.mk.injEq, DataW.held.injEq] at this
  exact this.1.symm
def zNd : Value := .agg #[.string .empty, .string .empty, .complex .f64 0 0, .complex .f64 0 0, .complex .f64 0 0]
def zUs : Value := .agg #[.string .empty, .string .empty, .complex .f64 0 0]
def vNd (x : QT.Nd) : Value := .agg #[.string (str x.nm), .string (str x.pr), .complex .f64 (FL.fB x.o1) (FL.fB x.o2), .complex .f64 (FL.fB x.b1) (FL.fB x.b2), .complex .f64 (FL.fB x.l1) (FL.fB x.l2)]
def vUs (x : QT.Us) : Value := .agg #[.string (str x.id), .string (str x.nd), .complex .f64 (FL.fB x.a1) (FL.fB x.a2)]
theorem fB_zero : FL.fB 0 = 0 := FL.fI_zero
theorem zNd_val : zNd = vNd ⟨[], [], 0, 0, 0, 0, 0, 0⟩ := by
  simp only [zNd, vNd, fB_zero]
  rfl
theorem zUs_val : zUs = vUs ⟨[], [], 0, 0⟩ := by
  simp only [zUs, vUs, fB_zero]
  rfl
theorem KS : Tryz.prog.underlying 9 = some .string := Tryz.underlying9
theorem KK : Keyed Tryz.prog 9 := string_keyed KS
theorem zeroNd (w : World) : (zeroValue 50).run Tryz.prog w = .ok zNd w := by
  simp [zeroValue, zNd, Tryz.t50]
  rfl
theorem zeroUs (w : World) : (zeroValue 52).run Tryz.prog w = .ok zUs w := by
  simp [zeroValue, zUs, Tryz.t52]
  rfl
theorem keyStr (s : QT.Str) (h : s.length ≤ 1099511627776) : keyOf Tryz.prog 9 (.string (str s)) = some (.string s) :=
  Go.WideMaps.keyOf_string_mk KS (s := str s) (by rw [str_size]; simp only [maxLen]; omega)
section
variable {α : Type} {key : α → QT.Str} {val : α → Value} {w w' : World} {b n : Nat} {N : List α} {ok : Bool}
def QT.fnd (key : α → QT.Str) (N : List α) (s : QT.Str) : Option α := N.find? fun x => key x == s
theorem QT.fnd_key {s : QT.Str} {x : α} (h : QT.fnd key N s = some x) : key x = s := by
  have := List.find?_some h
  simpa using this
theorem QT.fnd_mem {s : QT.Str} {x : α} (h : QT.fnd key N s = some x) : x ∈ N := List.mem_of_find?_eq_some h
theorem QT.fnd_snoc_same {x : α} (h : QT.fnd key N (key x) = none) : QT.fnd key (N ++ [x]) (key x) = some x := by
  unfold QT.fnd at *
  rw [List.find?_append, h]
  simp
theorem QT.fnd_snoc_other {x : α} {s : QT.Str} (h : key x ≠ s) : QT.fnd key (N ++ [x]) s = QT.fnd key N s := by
  unfold QT.fnd
  rw [List.find?_append]
  simp [h]
/-- The datum reads as the list. -/
def ReadsG (key : α → QT.Str) (val : α → Value) (D : DataW Value) (N : List α) : Prop :=
  (∀ s z, D.atKey (.string s) z = ((QT.fnd key N s).map fun x => DataW.held (val x)).getD z) ∧ Maps.size D = N.length
/-- BLOCK b IS A MAP OF AT MOST n ENTRIES; where all is right ('ok') it holds the list's. -/
def MapD (key : α → QT.Str) (val : α → Value) (ok : Bool) (w : World) (b n : Nat) (N : List α) : Prop :=
  ∃ D : DataW Value, w.ownsMap Tryz.prog 9 (heldG val) b n D ∧ (ok = true → ReadsG key val D N)
theorem MapD.lt (h : MapD key val ok w b n N) : b < w.heap.size := by obtain ⟨D, h, _⟩ := h; exact h.lt
theorem MapD.kept {X : Nat → Prop} (h : MapD key val ok w b n N) (f : Fr X w w') (hx : ¬ X b) : MapD key val ok w' b n N := by
  obtain ⟨D, ⟨es, clock, hb, r⟩, q⟩ := h
  exact ⟨D, ⟨es, clock, f.heap hb hx, r⟩, q⟩
theorem MapD.below (h : MapD key val ok w b n N) (f : Below w.heap.size w w') : MapD key val ok w' b n N := h.kept (X := fun _ => False) (Fr.of_below f) (fun x => x)
theorem MapD.mono {m : Nat} (h : MapD key val ok w b n N) (hm : n ≤ m) : MapD key val ok w b m N := by
  obtain ⟨D, h, q⟩ := h
  exact ⟨D, h.mono hm, q⟩
theorem MapD.not (h : MapD key val ok w b n N) (M : List α) : MapD key val false w b n M := by
  obtain ⟨D, h, _⟩ := h
  exact ⟨D, h, fun e => by cases e⟩
theorem MapD.made (w : World) : MapD key val ok (w.alloc (.map #[] 0)) w.heap.size 0 ([] : List α) :=
  ⟨.map [], World.ownsMap_made _ _ _ _, fun _ => ⟨fun s z => by simp [DataW.atKey, QT.fnd], rfl⟩⟩
theorem ReadsG.has {D : DataW Value} (h : ReadsG key val D N) (s : QT.Str) : Maps.has D (.string s) = (QT.fnd key N s).isSome := by
  cases hf : QT.fnd key N s with
  | none => exact Maps.has_false_of_atKey (fun z => by rw [h.1 s z, hf]; rfl)
  | some x => exact Maps.has_true_of_atKey (y := .held (val x)) (fun z => by rw [h.1 s z, hf]; rfl)
/-- 'm[k]'. -/
theorem MapD.look (h : MapD key val true w b n N) {t e : TypeId} {z : Value} (ht : Tryz.prog.underlying t = some (.map 9 e)) (hz : (zeroValue e).run Tryz.prog w = .ok z w) (hz0 : ∃ x, z = val x) (s : QT.Str) (hs : s.length ≤ 1099511627776) :
    (Instr.lookup t (.map (some b)) (.string (str s)) false).run Tryz.prog w = .ok (((QT.fnd key N s).map val).getD z) w := by
  obtain ⟨D, hown, hr⟩ := h
  obtain ⟨v, ps, hrun, hv⟩ := hown.lookup KK ht hz (zd := .held z) (zp := []) (by obtain ⟨x, rfl⟩ := hz0; exact heldG_val val x) (keyStr s hs)
  rw [hrun, (hr rfl).1 s] at *
  cases hf : QT.fnd key N s with
  | none => rw [hf] at hv; rw [held_inj hv]; rfl
  | some x => rw [hf] at hv; rw [held_inj hv]; rfl
/-- 'v, ok := m[k]'. -/
theorem MapD.lookOk (h : MapD key val true w b n N) {t e : TypeId} {z : Value} (ht : Tryz.prog.underlying t = some (.map 9 e)) (hz : (zeroValue e).run Tryz.prog w = .ok z w) (hz0 : ∃ x, z = val x) (s : QT.Str) (hs : s.length ≤ 1099511627776) :
    (Instr.lookup t (.map (some b)) (.string (str s)) true).run Tryz.prog w = .ok (.tuple #[((QT.fnd key N s).map val).getD z, .bool (QT.fnd key N s).isSome]) w := by
  obtain ⟨D, hown, hr⟩ := h
  obtain ⟨v, ps, hrun, hv⟩ := hown.look_ok KK ht hz (zd := .held z) (zp := []) (by obtain ⟨x, rfl⟩ := hz0; exact heldG_val val x) (keyStr s hs)
  rw [(hr rfl).has] at hrun
  rw [hrun, (hr rfl).1 s] at *
  cases hf : QT.fnd key N s with
  | none => rw [hf] at hv; rw [held_inj hv]; rfl
  | some x => rw [hf] at hv; rw [held_inj hv]; rfl
/-- 'len(m)'. -/
theorem MapD.len (h : MapD key val true w b n N) {t e : TypeId} (ht : Tryz.prog.underlying t = some (.map 9 e)) (ty : TypeId) : (Builtin.len_ #[t] ty #[.map (some b)]).run Tryz.prog w = .ok (.int .i64 (N.length : Nat)) w := by
  obtain ⟨D, hown, hr⟩ := h
  rw [hown.len ht ty, (hr rfl).2]
theorem fr_of_turned (h : w.mapTurned w' b) : Fr (fun j => j = b) w w' := Fr.of_grown h.grown (fun k e => by cases e; rfl)
/-- 'm[k] = v'. -/
theorem MapD.put (h : MapD key val ok w b n N) {t e : TypeId} (ht : Tryz.prog.underlying t = some (.map 9 e)) (hn : n < 1099511627776) (x : α) (hs : (key x).length ≤ 1099511627776) {ok' : Bool} (hk : ok' = true → ok = true ∧ QT.fnd key N (key x) = none) :
    ∃ w', (Instr.mapUpdate t (.map (some b)) (.string (str (key x))) (val x)).run Tryz.prog w = .ok () w' ∧ MapD key val ok' w' b (n + 1) (N ++ [x]) ∧ Fr (fun j => j = b) w w' := by
  obtain ⟨D, hown, hr⟩ := h
  obtain ⟨w', hrun, ho, ht⟩ := hown.store KK ht (by simp only [maxLen]; omega) (keyStr _ hs) (heldG_val val x)
  refine ⟨w', hrun, ⟨_, ho, fun e => ?_⟩, fr_of_turned ht⟩
  obtain ⟨h1, h2⟩ := hk e
  obtain ⟨ha, hsz⟩ := hr h1
  refine ⟨fun s z => ?_, ?_⟩
  · by_cases hq : key x = s
    · subst hq
      rw [Maps.atKey_put_same hown.isMap (show WideAt.IsKeyLit (.string _) from trivial), QT.fnd_snoc_same h2]
      rfl
    · rw [Maps.atKey_put_other (fun e => hq (Lit.string.inj e).symm), QT.fnd_snoc_other hq]
      exact ha s z
  · rw [Maps.size_put (hown.tidy KK), ReadsG.has ⟨ha, hsz⟩, h2, hsz]
    simp
/-- A RANGE OVER SUCH A MAP: block r is the iterator; 'left s': the entry of that key is still to come. -/
def RangeG (key : α → QT.Str) (val : α → Value) (w : World) (b r n : Nat) (N : List α) (left : QT.Str → Bool) (cnt : Nat) : Prop :=
  ∃ (D : DataW Value) (lf : Lit → Bool), w.ranges Tryz.prog 9 (heldG val) b r n D lf cnt ∧ ReadsG key val D N ∧ ∀ s, lf (.string s) = left s
variable {r cnt : Nat} {left : QT.Str → Bool}
theorem RangeG.map (h : RangeG key val w b r n N left cnt) : MapD key val true w b n N := by
  obtain ⟨D, lf, h, hr, _⟩ := h
  exact ⟨D, h.owns, fun _ => hr⟩
theorem RangeG.lt (h : RangeG key val w b r n N left cnt) : r < w.heap.size ∧ b < w.heap.size ∧ r ≠ b := by
  obtain ⟨D, lf, h, _, _⟩ := h
  exact ⟨h.lt, h.owns.lt, h.ne⟩
theorem RangeG.left_eq (h : RangeG key val w b r n N left cnt) : w.rangeLeft b r = cnt := by
  obtain ⟨D, lf, h, _, _⟩ := h
  exact h.left_eq
theorem RangeG.kept {X : Nat → Prop} (h : RangeG key val w b r n N left cnt) (f : Fr X w w') (hb : ¬ X b) (hr : ¬ X r) : RangeG key val w' b r n N left cnt := by
  obtain ⟨D, lf, ⟨es, clock, since, seen, c0, h1, h2, h3, h4, h5, h6⟩, q⟩ := h
  exact ⟨D, lf, ⟨es, clock, since, seen, c0, f.heap h1 hb, h2, h3, h4, f.heap h5 hr, h6⟩, q⟩
theorem RangeG.below (h : RangeG key val w b r n N left cnt) (f : Below w.heap.size w w') : RangeG key val w' b r n N left cnt := h.kept (X := fun _ => False) (Fr.of_below f) (fun x => x) (fun x => x)
variable {P : Program} {ops : Array Oper} {rest : List Oper} {o : Oper} {a : Act} {Q : Exit → Act → World → Prop}
/-- 'range m'. -/
theorem wpList_rangeG (hg : o.guard = none) (m : Operand) {t e : TypeId} (hop : o.op = Op.range t m) (ht : Tryz.prog.underlying t = some (.map 9 e)) (h : MapD key val true w b n N) (hm : a.eval m = .map (some b))
    (hK : ∀ w', RangeG key val w' b w.heap.size n N (fun s => (QT.fnd key N s).isSome) N.length → Below w.heap.size w w' → w'.heap.size = w.heap.size + 1 → wpList Tryz.prog ops Q rest (a.put o.dst (.pointer (some ⟨w.heap.size, 0, none⟩))) w') :
    wpList Tryz.prog ops Q (o :: rest) a w := by
  obtain ⟨D, hown, hr⟩ := h
  refine wpList_range_own w hg m t hop _ e KK ht (heldG val) b n D hm hown (fun w' h1 h2 h3 => ?_)
  rw [(hr rfl).2] at h1
  exact hK w' ⟨D, _, h1, hr rfl, fun s => (hr rfl).has s⟩ (Fr.below (Fr.of_grown h2 (fun k e => by cases e))) h3
/-- THE STEP. -/
theorem wpList_nextG (hg : o.guard = none) (it : Operand) (hop : o.op = Op.next it false) (h : RangeG key val w b r n N left cnt) (hit : a.eval it = .pointer (some ⟨r, 0, none⟩))
    (hDone : cnt = 0 → (∀ s, left s = false) → wpList Tryz.prog ops Q rest (a.put o.dst (.tuple #[.bool false])) w)
    (hMore : ∀ (x : α) (w' : World) (cnt' : Nat), x ∈ N → QT.fnd key N (key x) = some x → left (key x) = true → RangeG key val w' b r n N (fun s => left s && !(s == key x)) cnt' → cnt' < cnt → Fr (fun j => j = r) w w' → w'.heap.size = w.heap.size →
      (Instr.entry (.pointer (some ⟨r, 0, none⟩))).run Tryz.prog w' = .ok (.tuple #[.string (str (key x)), val x]) w' → wpList Tryz.prog ops Q rest (a.put o.dst (.tuple #[.bool true, .string (str (key x)), val x])) w') :
    wpList Tryz.prog ops Q (o :: rest) a w := by
  obtain ⟨D, lf, hrg, hr, hl⟩ := h
  refine wpList_next_ranges w hg it hop _ KK (heldG val) (fun s : QT.Str => .string (str s)) (fun v : Value => v) (fun key kl hk => ?_) (fun v y _ => ⟨v, rfl⟩) b r n D lf cnt hit hrg (fun h0 h1 => hDone h0 (fun s => by rw [← hl s]; exact h1 _)) (fun s c kl y w' cnt' hk hlk hv hat hrg' hlt hgr hsz hen => ?_)
  · obtain ⟨x, h1, _⟩ := Maps.keyOf_str KS hk
    exact ⟨x, h1⟩
  · obtain ⟨s', h1, h2, _⟩ := Maps.keyOf_str KS hk
    have es : s = s' := encStr_inj h1
    subst es
    subst h2
    have hy : y = (.held c, []) := (heldG_form hv).2
    subst hy
    cases hf : QT.fnd key N s with
    | none =>
      have e1 := hat (.held (.bool true))
      have e2 := hat (.held (.bool false))
      rw [hr.1 s, hf] at e1 e2
      simp only [Option.map_none, Option.getD_none] at e1 e2
      rw [← e1] at e2
      simp at e2
    | some x =>
      have e1 := hat (.held (.bool true))
      rw [hr.1 s, hf] at e1
      simp only [Option.map_some, Option.getD_some, DataW.held.injEq] at e1
      have hkx := QT.fnd_key hf
      subst e1
      subst hkx
      refine hMore x w' cnt' (QT.fnd_mem hf) hf (by rw [← hl]; exact hlk) ⟨D, _, hrg', hr, fun s => ?_⟩ hlt (Fr.of_grown hgr (fun k e => by cases e; rfl)) hsz hen
      rw [hl s]
      rfl
end
end Go.Proofs.YtkanjdijmdjbaaaGreatDoor

namespace Go.Proofs.YtkanjdijmdjbaaaGreatDoor
open Go Go.RowKit

theorem QT.S_oneG {α : Type} {key : α → QT.Str} {U : List α} (hp : U.Pairwise (fun a b => key a ≠ key b)) {x : α} (h : x ∈ U) (G : α → Nat) : QT.S U (fun y => if key y = key x then G y else 0) = G x := by
  induction U with
  | nil => cases h
  | cons y r ih =>
    obtain ⟨h1, h2⟩ := List.pairwise_cons.1 hp
    rw [QT.S_cons]
    rcases List.mem_cons.1 h with e | h'
    · subst e
      rw [if_pos rfl, show QT.S r (fun y => if key y = key x then G y else 0) = QT.S r (fun _ => 0) from QT.S_congr (fun z hz => if_neg (fun e => h1 z hz e.symm)), QT.S_zero]
      omega
    · rw [if_neg (h1 x h'), ih h2 h']
      omega
theorem QT.S_left_done {α : Type} {key : α → QT.Str} {U : List α} {p : α → Bool} {left : QT.Str → Bool} (h : ∀ s, left s = false) (F : α → Nat) : QT.S (U.filter fun y => p y && !left (key y)) F = QT.S (U.filter p) F := by
  congr 1
  refine List.filter_congr fun y _ => ?_
  rw [h]; simp
theorem QT.S_left_start {α : Type} {key : α → QT.Str} {U : List α} {p : α → Bool} (F : α → Nat) : QT.S (U.filter fun y => p y && !(QT.fnd key U (key y)).isSome) F = 0 := by
  have : (U.filter fun y => p y && !(QT.fnd key U (key y)).isSome) = [] := by
    rw [List.filter_eq_nil_iff]
    intro y hy
    have : (QT.fnd key U (key y)).isSome = true := by
      unfold QT.fnd
      rw [List.find?_isSome]
      exact ⟨y, hy, by simp⟩
    rw [this]; simp
  rw [this]; rfl
theorem QT.S_left_step {α : Type} {key : α → QT.Str} {U : List α} (hp : U.Pairwise (fun a b => key a ≠ key b)) {p : α → Bool} {left : QT.Str → Bool} {x : α} (hx : x ∈ U) (hl : left (key x) = true) (F : α → Nat) :
    QT.S (U.filter fun y => p y && !(left (key y) && !(key y == key x))) F = QT.S (U.filter fun y => p y && !left (key y)) F + (if p x = true then F x else 0) := by
  rw [QT.S_filter, QT.S_filter, ← QT.S_oneG hp hx (fun y => if p y = true then F y else 0), ← QT.S_add]
  refine QT.S_congr fun y hy => ?_
  by_cases e : key y = key x
  · rw [if_pos e, e, hl]
    cases p y <;> simp
  · rw [if_neg e]
    have : (key y == key x) = false := by simpa using e
    rw [this]
    simp
/-- THE PROGRAM's TREE: block T; its maps bn, bu. -/
structure TreeQ (w : World) (T bn bu n m : Nat) (N : List QT.Nd) (U : List QT.Us) : Prop where
  tb : w.heap[T]? = some (.cells #[.map (some bn), .map (some bu)] 121)
  mN : MapD QT.Nd.nm vNd true w bn n N
  mU : MapD QT.Us.id vUs true w bu m U
theorem TreeQ.below {w w' : World} {T bn bu n m : Nat} {N : List QT.Nd} {U : List QT.Us} (h : TreeQ w T bn bu n m N U) (f : Below w.heap.size w w') : TreeQ w' T bn bu n m N U :=
  ⟨(f.block _ (Array.getElem?_eq_some_iff.1 h.tb).1).trans h.tb, h.mN.below f, h.mU.below f⟩
/-- THE LISTS ARE AS THE PROGRAM ASKS. -/
structure GoodQ (N : List QT.Nd) (U : List QT.Us) : Prop where
  pN : N.Pairwise (fun a b => a.nm ≠ b.nm)
  pU : U.Pairwise (fun a b => a.id ≠ b.id)
  fN : ∀ x ∈ N, QT.fineNd x
  fU : ∀ x ∈ U, QT.fineUs x
  lN : N.length ≤ 256
  lU : U.length ≤ 1024
set_option maxRecDepth 100000 in
set_option maxHeartbeats 4000000 in
theorem here_any (T bn bu n m : Nat) (N : List QT.Nd) (U : List QT.Us) (s : QT.Str) (w : World) (hT : TreeQ w T bn bu n m N U) (hG : GoodQ N U) :
    Calls Tryz.prog 138 #[.pointer (some ⟨T, 0, none⟩), .string (str s)] w fun v w' => v = .returned (.complex .f64 (FL.fB (QT.here U QT.Us.a1 s)) (FL.fB (QT.here U QT.Us.a2 s))) ∧ Below w.heap.size w w' := by
  have hstc := @run_store_complex Tryz.prog
  obtain ⟨t0, t1, _, _⟩ := cells2 hT.tb
  have HM := Lib.hid hT.mU
  have HG := Lib.hid hG
  have HTlt := Lib.hid (Array.getElem?_eq_some_iff.1 hT.tb).1
  obtain ⟨p, hp⟩ : ∃ p : QT.Us → Bool, p = fun u => u.nd == s := ⟨_, rfl⟩
  have Hp := Lib.hid (fun u => congrFun hp u)
  have HE := Lib.hid (show QT.here U QT.Us.a1 s = QT.S (U.filter p) QT.Us.a1 ∧ QT.here U QT.Us.a2 s = QT.S (U.filter p) QT.Us.a2 from by rw [hp]; exact ⟨rfl, rfl⟩)
  obtain ⟨Z, hZ⟩ : ∃ Z : (QT.Str → Bool) → (QT.Us → Nat) → Nat, Z = fun left F => QT.S (U.filter fun y => p y && !left y.id) F := ⟨_, rfl⟩
  have HZ := Lib.hid (fun left F => congrFun (congrFun hZ left) F)
  have HZb : Hid (∀ left, Z left QT.Us.a1 ≤ 1125899906842624 ∧ Z left QT.Us.a2 ≤ 1125899906842624) := Lib.hid (fun left => by
    have b1 := QT.S_bound (l := U.filter fun y => p y && !left y.id) (F := QT.Us.a1) (B := 1099511627776) (fun x hx => (hG.fU x (List.mem_filter.1 hx).1).2.1)
    have b2 := QT.S_bound (l := U.filter fun y => p y && !left y.id) (F := QT.Us.a2) (B := 1099511627776) (fun x hx => (hG.fU x (List.mem_filter.1 hx).1).2.2)
    have l1 := List.length_filter_le (fun y => p y && !left y.id) U
    have l2 := Nat.mul_le_mul_right 1099511627776 (Nat.le_trans l1 hG.lU)
    rw [hZ]
    simp only
    omega)
  have Zs : Z (fun s => (QT.fnd QT.Us.id U s).isSome) QT.Us.a1 = 0 ∧ Z (fun s => (QT.fnd QT.Us.id U s).isSome) QT.Us.a2 = 0 := by
    rw [hZ]
    exact ⟨QT.S_left_start _, QT.S_left_start _⟩
  have HZs := Lib.hid Zs
  clear hT hG hp hZ Zs
  go_enter Tryz.func138, Tryz.ntmps138
  go_wp2_with (at_range; refine wpList_rangeG rfl _ rfl Tryz.underlying119 HM.out rfl ?_; intro w0 hrg0 hb0 hs0; have Hrg0 := Lib.hid hrg0; have Hb0 := Lib.hid hb0; clear hrg0 hb0 hs0)
  go_frame
  clear t0 t1
  go_loopw [5] (fun v5 V => ∃ (left : QT.Str → Bool) (cnt : Nat), v5 = .complex .f64 (FL.fI (Z left QT.Us.a1 : Nat)) (FL.fI (Z left QT.Us.a2 : Nat)) ∧ Hid (RangeG QT.Us.id vUs V bu w.heap.size m U left cnt) ∧ Hid (Below w.heap.size w V)) (fun _ V => V.rangeLeft bu w.heap.size)
  case atStart => exact ⟨_, _, by rw [HZs.out.1, HZs.out.2]; rfl, Hrg0, Hb0⟩
  case round =>
    obtain ⟨left, cnt, rfl, Hrg, Hb⟩ := hrel
    clear Hrg0 Hb0
    go_wp2_with (at_next; refine wpList_nextG rfl _ rfl Hrg.out rfl ?_ ?_)
    · intro _ hl0
      have hr1 := Lib.hid ((HZ.out left QT.Us.a1).trans (QT.S_left_done hl0 QT.Us.a1))
      have hr2 := Lib.hid ((HZ.out left QT.Us.a2).trans (QT.S_left_done hl0 QT.Us.a2))
      clear hl0
      go_wp2
      go_ret
      exact ⟨by rw [HE.out.1, HE.out.2, ← hr1.out, ← hr2.out]; rfl, Hb.out⟩
    · intro x w1 cnt1 hx hfx hlx hrg1 hlt hg1 hs1 hen
      rw [vUs] at hen ⊢
      have Hrg1 := Lib.hid hrg1
      have Hlt := Lib.hid hlt
      have Hb1 : Hid (Below w.heap.size w w1) := Lib.hid (Hb.out.trans ⟨hg1.os, hg1.tape, hg1.output, hg1.size, fun q hq => hg1.block q (Nat.lt_of_lt_of_le hq Hb.out.size) (by omega)⟩)
      have hst1 := (HZ.out (fun s => left s && !(s == x.id)) QT.Us.a1).trans (QT.S_left_step HG.out.pU (p := p) hx hlx QT.Us.a1)
      have hst2 := (HZ.out (fun s => left s && !(s == x.id)) QT.Us.a2).trans (QT.S_left_step HG.out.pU (p := p) hx hlx QT.Us.a2)
      rw [← HZ.out left QT.Us.a1] at hst1
      rw [← HZ.out left QT.Us.a2] at hst2
      have hbd := HZb.out left
      have hxb := (HG.out.fU x hx).2
      simp only [QT.cap] at hxb
      obtain ⟨q, hq⟩ : ∃ q, p x = q := ⟨_, rfl⟩
      have ht : ((str x.nd).toList == (str s).toList) = q := by rw [str_toList, str_toList, ← Hp.out x, hq]
      obtain ⟨V, hV⟩ : ∃ V, V = w1.alloc (.cells #[.string (str x.id), .string (str x.nd), .complex .f64 (FL.fB x.a1) (FL.fB x.a2)] 52) := ⟨_, rfl⟩
      have fV : Below w1.heap.size w1 V := by rw [hV]; exact (Below.refl _ _).alloc (Nat.le_refl _) _
      have HrgV := Lib.hid (Hrg1.out.below fV)
      have HbV := Lib.hid (Hb1.out.trans (fV.mono Hb1.out.size))
      have Hm : Hid (V.rangeLeft bu w.heap.size < wr.rangeLeft bu w.heap.size) := Lib.hid (by rw [HrgV.out.left_eq, Hrg.out.left_eq]; exact hlt)
      rw [hq] at hst1 hst2
      clear hrg1 hlt hg1 hs1 hfx hlx hx fV Hrg1 Hlt Hb1
      cases q with
      | true =>
        have hadd : ∀ V : World, (binOp .add 43 (.complex .f64 (FL.fI (Z left QT.Us.a1 : Nat)) (FL.fI (Z left QT.Us.a2 : Nat))) (.complex .f64 (FL.fB x.a1) (FL.fB x.a2))).run Tryz.prog V = .ok (.complex .f64 (FL.fI (Z (fun s => left s && !(s == x.id)) QT.Us.a1 : Nat)) (FL.fI (Z (fun s => left s && !(s == x.id)) QT.Us.a2 : Nat))) V := fun V => by
          rw [hst1, hst2, if_pos rfl, if_pos rfl, Int.natCast_add, Int.natCast_add]
          refine run_cadd _ _ _ (x.a1 : Int) (x.a2 : Int) V ?_ ?_ ?_ ?_ ?_ ?_ <;> unfold W53 <;> omega
        clear hst1 hst2 hbd hxb hq
        go_wp2_with (rw [← hV])
        exact ⟨⟨_, cnt1, rfl, HrgV, HbV⟩, Hm.out⟩
      | false =>
        have Q1 : Hid (Z (fun s => left s && !(s == x.id)) QT.Us.a1 = Z left QT.Us.a1) := Lib.hid (by rw [hst1, if_neg (by simp)]; omega)
        have Q2 : Hid (Z (fun s => left s && !(s == x.id)) QT.Us.a2 = Z left QT.Us.a2) := Lib.hid (by rw [hst2, if_neg (by simp)]; omega)
        clear hst1 hst2 hbd hxb hq
        go_wp2_with (rw [← hV])
        exact ⟨⟨_, cnt1, by rw [Q1.out, Q2.out], HrgV, HbV⟩, Hm.out⟩
end Go.Proofs.YtkanjdijmdjbaaaGreatDoor
