/-
  Slices of nodes and of uses that are read; the document's Find, by a contract.
  Conditions: the slice reads as nodes.
  The document's under, by a contract.
  Conditions: the slice reads as nodes.
  The document's Rooted, by a contract.
  Conditions: the slice reads as nodes, at most 2^40.
-/
import Derived.Test.YtflghelhdalhiaaGreatDoorSli
import Derived.Test.YtflghelhdalhiaaGreatDoorG9
namespace Go.Proofs.YtflghelhdalhiaaGreatDoor
open Go Go.RowKit

/-- The slice value v reads as the nodes N. -/
def RdsNd (w : World) (v : Value) (N : List QT.Nd) : Prop :=
  ∃ a cap, v = .slice a N.length cap ∧ N.length ≤ cap ∧ cap ≤ maxLen ∧ (N = [] ∨ ∃ b o, a = some ⟨b, o, none⟩ ∧ ∀ i x, N[i]? = some x → ∀ j u, (valsNd x)[j]? = some u → w.cell? ⟨b, o + i * 5 + j, none⟩ = some u)
theorem RdsNd.below {w w' : World} {v : Value} {N : List QT.Nd} (h : RdsNd w v N) (f : Below w.heap.size w w') : RdsNd w' v N := by
  obtain ⟨a, cap, rfl, h1, h2, h3⟩ := h
  refine ⟨a, cap, rfl, h1, h2, ?_⟩
  rcases h3 with h3 | ⟨b, o, rfl, hc⟩
  · exact .inl h3
  · refine .inr ⟨b, o, rfl, fun i x hx j u hu => ?_⟩
    have c := hc i x hx j u hu
    exact (World.cell?_of_block (f.block b (World.block_lt_of_cell? _ _ c))).trans c
theorem RdsNd.at {w : World} {a : Option Addr} {n c : Nat} {N : List QT.Nd} (h : RdsNd w (.slice a n c) N) (i : Nat) (x : QT.Nd) (hx : N[i]? = some x) :
    ∃ b o, a = some ⟨b, o, none⟩ ∧ w.cell? ⟨b, o + i * 5, none⟩ = some (.string (str x.nm)) ∧ w.cell? ⟨b, o + i * 5 + 1, none⟩ = some (.string (str x.pr)) ∧ w.cell? ⟨b, o + i * 5 + 2, none⟩ = some (.complex .f64 (FL.fB x.o1) (FL.fB x.o2)) ∧
      w.cell? ⟨b, o + i * 5 + 3, none⟩ = some (.complex .f64 (FL.fB x.b1) (FL.fB x.b2)) ∧ w.cell? ⟨b, o + i * 5 + 4, none⟩ = some (.complex .f64 (FL.fB x.l1) (FL.fB x.l2)) := by
  obtain ⟨a', cap, he, _, _, h3⟩ := h
  simp only [Value.slice.injEq] at he
  obtain ⟨rfl, _, rfl⟩ := he
  rcases h3 with rfl | ⟨b, o, rfl, hc⟩
  · simp at hx
  · exact ⟨b, o, rfl, hc i x hx 0 _ rfl, hc i x hx 1 _ rfl, hc i x hx 2 _ rfl, hc i x hx 3 _ rfl, hc i x hx 4 _ rfl⟩
theorem RdsNd.len {w : World} {a : Option Addr} {n c : Nat} {N : List QT.Nd} (h : RdsNd w (.slice a n c) N) : N.length = n ∧ n ≤ c ∧ c ≤ maxLen := by
  obtain ⟨a', cap, he, h1, h2, _⟩ := h
  simp only [Value.slice.injEq] at he
  obtain ⟨rfl, rfl, rfl⟩ := he
  exact ⟨rfl, h1, h2⟩
/-- Where a name is; -1: nowhere. -/
def QT.at (N : List QT.Nd) (s : QT.Str) : Int := match N.findIdx? fun n => n.nm == s with
  | none => -1
  | some i => i
theorem str_toList (l : List UInt8) : (str l).toList = l := by rw [ByteArray.toList_eq]; rfl
theorem QT.at_found {N : List QT.Nd} {s : QT.Str} {k : Nat} {x : QT.Nd} (hx : N[k]? = some x) (he : (x.nm == s) = true) (hp : ∀ (j : Nat) (x : QT.Nd), j < k → N[j]? = some x → (x.nm == s) = false) : QT.at N s = k ∧ QT.find N s = some x := by
  obtain ⟨hk, hxk⟩ := List.getElem?_eq_some_iff.1 hx
  have h1 : (N.findIdx? fun n => n.nm == s) = some k := by
    rw [List.findIdx?_eq_some_iff_getElem]
    refine ⟨hk, by rw [hxk]; exact he, fun j hj => ?_⟩
    have := hp j N[j] hj (List.getElem?_eq_getElem (by omega))
    simp only [this]
    simp
  refine ⟨by unfold QT.at; rw [h1], ?_⟩
  unfold QT.find
  rw [List.find?_eq_some_iff_getElem]
  refine ⟨he, k, hk, hxk, fun j hj => ?_⟩
  have := hp j N[j] hj (List.getElem?_eq_getElem (by omega))
  simp only [this]
  simp
theorem QT.at_none {N : List QT.Nd} {s : QT.Str} (hp : ∀ (j : Nat) (x : QT.Nd), j < N.length → N[j]? = some x → (x.nm == s) = false) : QT.at N s = -1 ∧ QT.find N s = none := by
  have hall : ∀ x ∈ N, (x.nm == s) = false := fun x hx => by
    obtain ⟨j, hj, rfl⟩ := List.getElem_of_mem hx
    exact hp j _ hj (List.getElem?_eq_getElem hj)
  have h1 : (N.findIdx? fun n => n.nm == s) = none := by
    rw [List.findIdx?_eq_none_iff]
    exact hall
  refine ⟨by unfold QT.at; rw [h1], ?_⟩
  unfold QT.find
  rw [List.find?_eq_none]
  intro x hx
  rw [hall x hx]; simp
/-- Where a name is, and what is there. -/
theorem QT.at_cases (N : List QT.Nd) (s : QT.Str) : (QT.at N s = -1 ∧ QT.find N s = none) ∨ ∃ (i : Nat) (x : QT.Nd), QT.at N s = i ∧ N[i]? = some x ∧ QT.find N s = some x := by
  cases h : N.findIdx? (fun n => n.nm == s) with
  | none =>
    refine .inl (QT.at_none fun j x hj hx => ?_)
    exact (List.findIdx?_eq_none_iff.1 h) x (List.mem_of_getElem? hx)
  | some i =>
    obtain ⟨hi, he, hp⟩ := List.findIdx?_eq_some_iff_getElem.1 h
    have := QT.at_found (k := i) (List.getElem?_eq_getElem hi) he (fun j x hj hx => by
      obtain ⟨hj2, rfl⟩ := List.getElem?_eq_some_iff.1 hx
      have := hp j hj
      simpa using this)
    exact .inr ⟨i, _, this.1, List.getElem?_eq_getElem hi, this.2⟩
set_option maxRecDepth 100000 in
set_option maxHeartbeats 4000000 in
/-- Find. -/
theorem rfind_any (a : Option Addr) (n c : Nat) (u : Value) (N : List QT.Nd) (s : QT.Str) (w : World) (hN : RdsNd w (.slice a n c) N) :
    Calls Tryz.prog 55 #[.agg #[.slice a n c, u], .string (str s)] w fun v w' => v = .returned (.int .i64 (QT.at N s)) ∧ Below w.heap.size w w' := by
  obtain ⟨hl, hnc, hcm⟩ := hN.len
  have hn : (n : Int) ≤ 9223372036854775807 := by simp only [maxLen] at hcm; omega
  have Hl := Lib.hid hl
  obtain ⟨W, hW⟩ : ∃ W, W = w.alloc (.cells #[.slice a n c, u] 32) := ⟨_, rfl⟩
  have bW : Hid (Below w.heap.size w W) := by rw [hW]; exact (Below.refl _ _).alloc (Nat.le_refl _) _
  have HN := Lib.hid (hN.below bW.out)
  have g : W.heap[w.heap.size]? = some (.cells #[.slice a n c, u] 32) := by rw [hW]; exact heap_alloc_new _ _
  obtain ⟨t0, t1, _, _⟩ := cells2 g
  clear hl hnc hcm hN g
  go_enter Tryz.func55, Tryz.ntmps55
  go_wp2_with fail
  rw [← hW]
  clear hW
  go_loop [5] (fun v => ∃ k : Nat, k ≤ n ∧ v = .int .i64 k ∧ Hid (∀ (j : Nat) (x : QT.Nd), j < k → N[j]? = some x → (x.nm == s) = false)) (fun v => n - (intOf v).toNat)
  case atStart => exact ⟨0, Nat.zero_le _, rfl, fun j x hj => by omega⟩
  case round =>
    obtain ⟨k, hk, rfl, Hp⟩ := hrel
    by_cases hlt : k < n
    · have h1 : (k : Int) < (n : Int) := by omega
      obtain ⟨x, hx⟩ : ∃ x, N[k]? = some x := ⟨_, List.getElem?_eq_getElem (by have := Hl.out; omega)⟩
      obtain ⟨b, o, rfl, c0, _⟩ := HN.out.at k x hx
      cases he : (x.nm == s) with
      | true =>
        have ht : ((str x.nm).toList == (str s).toList) = true := by rw [str_toList, str_toList]; exact he
        have hr := Lib.hid (QT.at_found hx he Hp.out).1
        clear Hp hx he
        go_wp2
        go_ret
        exact ⟨by rw [hr.out]; rfl, bW.out⟩
      | false =>
        have ht : ((str x.nm).toList == (str s).toList) = false := by rw [str_toList, str_toList]; exact he
        have hn2 : Hid (∀ (j : Nat) (y : QT.Nd), j < k + 1 → N[j]? = some y → (y.nm == s) = false) := Lib.hid (fun j y hj hy => by
          by_cases e : j = k
          · subst e; rw [hx] at hy; cases hy; exact he
          · exact Hp.out j y (by omega) hy)
        clear Hp hx he
        go_wp2
        exact ⟨⟨k + 1, by omega, by simp, hn2⟩, by simp [intOf]; omega⟩
    · obtain rfl : k = n := by omega
      have hr := Lib.hid (QT.at_none (N := N) (s := s) (fun j x hj hx => Hp.out j x (by have := Hl.out; omega) hx)).1
      clear Hp
      go_wp2
      go_ret
      exact ⟨by rw [hr.out]; rfl, bW.out⟩
end Go.Proofs.YtflghelhdalhiaaGreatDoor

namespace Go.Proofs.YtflghelhdalhiaaGreatDoor
open Go Go.RowKit

set_option maxRecDepth 100000 in
set_option maxHeartbeats 4000000 in
/-- under. -/
theorem runder_any (a : Option Addr) (n c : Nat) (u : Value) (N : List QT.Nd) (s t : QT.Str) (w : World) (hN : RdsNd w (.slice a n c) N) (hs : n ≤ 1099511627776) :
    Calls Tryz.prog 84 #[.agg #[.slice a n c, u], .string (str s), .string (str t)] w fun v w' => v = .returned (.bool (QT.un N s t)) ∧ Below w.heap.size w w' := by
  obtain ⟨hl, _, _⟩ := hN.len
  have hn : (n : Int) ≤ 281474976710656 := by omega
  have Hl := Lib.hid hl
  have HF := Lib.hid (fun (V : World) (s : QT.Str) (b : Below w.heap.size w V) => rfind_any a n c u N s V (hN.below b))
  have HNb := Lib.hid (fun (V : World) (b : Below w.heap.size w V) => hN.below b)
  obtain ⟨W, hW⟩ : ∃ W, W = w.alloc (.cells #[.slice a n c, u] 32) := ⟨_, rfl⟩
  have bW : Hid (Below w.heap.size w W) := by rw [hW]; exact (Below.refl _ _).alloc (Nat.le_refl _) _
  have gW : Hid (W.heap[w.heap.size]? = some (.cells #[.slice a n c, u] 32)) := by rw [hW]; exact heap_alloc_new _ _
  have HU : Hid (QT.un N s t = QT.under N (n + 1) s t) := Lib.hid (by rw [← hl]; rfl)
  generalize QT.un N s t = RES at *
  clear hl hN hs
  go_enter Tryz.func84, Tryz.ntmps84
  go_wp2_with fail
  rw [← hW]
  clear hW
  go_loopw [1, 7] (fun v1 v7 V => ∃ (k : Nat) (s' : QT.Str), k ≤ n + 1 ∧ v7 = .int .i64 k ∧ v1 = .string (str s') ∧ Hid (RES = QT.under N (n + 1 - k) s' t) ∧ Hid (Below w.heap.size w V) ∧ Hid (V.heap[w.heap.size]? = some (.cells #[.slice a n c, u] 32))) (fun _ v _ => n + 1 - (intOf v).toNat)
  case atStart => exact ⟨0, s, Nat.zero_le _, rfl, rfl, HU, bW, gW⟩
  case round =>
    obtain ⟨k, s', hk, rfl, rfl, Hu, Bv, Gv⟩ := hrel
    clear HU bW gW
    obtain ⟨t0, t1, _, _⟩ := cells2 Gv.out
    by_cases hlt : k ≤ n
    · have h1 : (k : Int) ≤ (n : Int) := by omega
      obtain ⟨m, hm⟩ : ∃ m, n + 1 - k = m + 1 := ⟨n - k, by omega⟩
      have Hm : Hid (n + 1 - (k + 1) = m) := Lib.hid (by omega)
      rw [hm] at Hu
      clear hm
      by_cases hst : s' = t
      · subst hst
        have hr : Hid (RES = true) := Lib.hid (by rw [Hu.out]; unfold QT.under; rw [if_pos rfl])
        have ht : ((str s').toList == (str s').toList) = true := by simp
        clear Hu
        go_wp2
        go_ret
        exact ⟨by rw [hr.out]; rfl, Bv.out⟩
      · have ht : ((str s').toList == (str t).toList) = false := by rw [str_toList, str_toList]; simpa using hst
        have HF1 := Lib.hid (HF.out wr s' Bv.out)
        rcases QT.at_cases N s' with ⟨e1, e2⟩ | ⟨i, x, e1, ei, e2⟩
        · have hr : Hid (RES = false) := Lib.hid (by rw [Hu.out]; unfold QT.under; rw [if_neg hst, e2])
          rw [e1] at HF1
          clear Hu e1 e2 hst
          go_wp2_with fail
          refine HF1.out.mono ?_
          rintro e w1 ⟨rfl, b1⟩
          have B1 : Hid (Below w.heap.size w w1) := Bv.out.trans (b1.mono Bv.out.size)
          clear b1 HF1
          go_wp2
          go_ret
          exact ⟨by rw [hr.out]; rfl, B1.out⟩
        · have hr : Hid (RES = QT.under N m x.pr t) := Lib.hid (by rw [Hu.out]; conv => lhs; unfold QT.under; rw [if_neg hst, e2])
          rw [e1] at HF1
          have hin : i < n := by have := (List.getElem?_eq_some_iff.1 ei).1; have := Hl.out; omega
          have h2 : (i : Int) < (n : Int) := by omega
          have h3 : ¬ ((i : Int) < 0) := by omega
          have Ei := Lib.hid ei
          clear Hu e1 e2 hst ei
          go_wp2_with fail
          refine HF1.out.mono ?_
          rintro e w1 ⟨rfl, b1⟩
          have B1 : Hid (Below w.heap.size w w1) := Bv.out.trans (b1.mono Bv.out.size)
          have G1 := Lib.hid ((b1.block _ (Array.getElem?_eq_some_iff.1 Gv.out).1).trans Gv.out)
          obtain ⟨b, o, ea, _, c1, _⟩ := (HNb.out w1 B1.out).at i x Ei.out
          subst ea
          clear t0 t1 b1 HF1
          obtain ⟨t0, t1, _, _⟩ := cells2 G1.out
          go_wp2
          exact ⟨⟨k + 1, x.pr, by omega, by simp, rfl, by rw [Hm.out]; exact hr, B1, G1⟩, by simp [intOf]; omega⟩
    · obtain rfl : k = n + 1 := by omega
      have hr : Hid (RES = false) := Lib.hid (by rw [Hu.out, Nat.sub_self]; rfl)
      have h1 : ¬ (((n + 1 : Nat) : Int) ≤ (n : Int)) := by omega
      clear Hu
      go_wp2
      go_ret
      exact ⟨by rw [hr.out]; rfl, Bv.out⟩
end Go.Proofs.YtflghelhdalhiaaGreatDoor

namespace Go.Proofs.YtflghelhdalhiaaGreatDoor
open Go Go.RowKit

/-- All ways end, as a truth value. -/
def QT.rootedB (N : List QT.Nd) : Bool := N.all fun n => (QT.dp N (N.length + 2) n.nm).isSome
theorem QT.rootedB_iff (N : List QT.Nd) : QT.rootedB N = true ↔ QT.rooted N := by
  unfold QT.rootedB QT.rooted
  rw [List.all_eq_true]
theorem QT.rootedB_no {N : List QT.Nd} {x : QT.Nd} (hx : x ∈ N) (h : (QT.dp N (N.length + 2) x.nm).isSome = false) : QT.rootedB N = false := by
  unfold QT.rootedB
  rw [List.all_eq_false]
  exact ⟨x, hx, by rw [h]; simp⟩
theorem QT.rootedB_yes {N : List QT.Nd} (h : ∀ (j : Nat) (x : QT.Nd), j < N.length → N[j]? = some x → (QT.dp N (N.length + 2) x.nm).isSome = true) : QT.rootedB N = true := by
  unfold QT.rootedB
  rw [List.all_eq_true]
  intro x hx
  obtain ⟨j, hj, rfl⟩ := List.getElem_of_mem hx
  exact h j _ hj (List.getElem?_eq_getElem hj)
set_option maxRecDepth 100000 in
set_option maxHeartbeats 8000000 in
/-- Rooted. -/
theorem rrooted_any (a : Option Addr) (n c : Nat) (u : Value) (N : List QT.Nd) (w : World) (hN : RdsNd w (.slice a n c) N) (hs : n ≤ 1099511627776) :
    Calls Tryz.prog 26 #[.agg #[.slice a n c, u]] w fun v w' => v = .returned (.bool (QT.rootedB N)) ∧ Below w.heap.size w w' := by
  obtain ⟨hl, _, _⟩ := hN.len
  have hn : (n : Int) ≤ 281474976710656 := by omega
  have Hl := Lib.hid hl
  have HF := Lib.hid (fun (V : World) (s : QT.Str) (b : Below w.heap.size w V) => rfind_any a n c u N s V (hN.below b))
  have HNb := Lib.hid (fun (V : World) (b : Below w.heap.size w V) => hN.below b)
  obtain ⟨W, hW⟩ : ∃ W, W = w.alloc (.cells #[.slice a n c, u] 32) := ⟨_, rfl⟩
  have bW : Hid (Below w.heap.size w W) := by rw [hW]; exact (Below.refl _ _).alloc (Nat.le_refl _) _
  have gW : Hid (W.heap[w.heap.size]? = some (.cells #[.slice a n c, u] 32)) := by rw [hW]; exact heap_alloc_new _ _
  clear hl hN hs
  go_enter Tryz.func26, Tryz.ntmps26
  go_wp2_with fail
  rw [← hW]
  clear hW
  go_loopw [3] (fun v V => ∃ i : Nat, i ≤ n ∧ v = .int .i64 i ∧ Hid (∀ (j : Nat) (x : QT.Nd), j < i → N[j]? = some x → (QT.dp N (n + 2) x.nm).isSome = true) ∧ Hid (Below w.heap.size w V) ∧ Hid (V.heap[w.heap.size]? = some (.cells #[.slice a n c, u] 32))) (fun v _ => n - (intOf v).toNat)
  case atStart => exact ⟨0, Nat.zero_le _, rfl, Lib.hid (fun j x hj => by omega), bW, gW⟩
  case round =>
    obtain ⟨i, hi, rfl, Hp, Bv, Gv⟩ := hrel
    clear bW gW
    obtain ⟨t0, t1, _, _⟩ := cells2 Gv.out
    by_cases hlt : i < n
    · have h1 : (i : Int) < (n : Int) := by omega
      obtain ⟨x, hx⟩ : ∃ x, N[i]? = some x := ⟨_, List.getElem?_eq_getElem (by have := Hl.out; omega)⟩
      have Hx := Lib.hid hx
      obtain ⟨b, o, ea, c0, _⟩ := (HNb.out wr Bv.out).at i x hx
      subst ea
      clear hx
      go_wp2_with fail
      go_loopw [4, 5] (fun v4 v5 V => ∃ (k : Nat) (s' : QT.Str), k ≤ n + 1 ∧ v5 = .int .i64 k ∧ v4 = .string (str s') ∧ Hid ((QT.dp N (n + 2) x.nm).isSome = (QT.dp N (n + 2 - k) s').isSome) ∧ Hid (Below w.heap.size w V) ∧ Hid (V.heap[w.heap.size]? = some (.cells #[.slice (some ⟨b, o, none⟩) n c, u] 32))) (fun _ v _ => n + 1 - (intOf v).toNat)
      case atStart => exact ⟨0, x.nm, Nat.zero_le _, rfl, rfl, rfl, Bv, Gv⟩
      case round =>
        obtain ⟨k, s', hk, rfl, rfl, Hu, Bx, Gx⟩ := hrel
        clear t0 t1 c0
        obtain ⟨t0, t1, _, _⟩ := cells2 Gx.out
        by_cases hs0 : s' = []
        · subst hs0
          have ht : (str []).toList.isEmpty = true := by rw [str_toList]; rfl
          have hp2 : Hid (∀ (j : Nat) (y : QT.Nd), j < i + 1 → N[j]? = some y → (QT.dp N (n + 2) y.nm).isSome = true) := Lib.hid (fun j y hj hy => by
            by_cases e : j = i
            · subst e
              rw [Hx.out] at hy
              cases hy
              rw [Hu.out]
              obtain ⟨m, hm⟩ : ∃ m, n + 2 - k = m + 1 := ⟨n + 1 - k, by omega⟩
              rw [hm]
              rfl
            · exact Hp.out j y (by omega) hy)
          clear Hu Hp Bv Gv
          go_wp2
          exact ⟨⟨i + 1, by omega, by simp, hp2, Bx, Gx⟩, by simp [intOf]; omega⟩
        · have ht : (str s').toList.isEmpty = false := by rw [str_toList]; simpa using hs0
          have HF1 := Lib.hid (HF.out wr s' Bx.out)
          obtain ⟨m, hm⟩ : ∃ m, n + 2 - k = m + 1 := ⟨n + 1 - k, by omega⟩
          have Hm : Hid (n + 2 - (k + 1) = m) := Lib.hid (by omega)
          have Hm0 : Hid (k = n + 1 → m = 0) := Lib.hid (by omega)
          rw [hm] at Hu
          clear hm
          rcases QT.at_cases N s' with ⟨e1, e2⟩ | ⟨i2, y, e1, ei, e2⟩
          · have hr : Hid (QT.rootedB N = false) := Lib.hid (QT.rootedB_no (List.mem_of_getElem? Hx.out) (by rw [Hl.out, Hu.out]; unfold QT.dp; rw [if_neg hs0, e2]; rfl))
            rw [e1] at HF1
            clear Hu e1 e2 hs0 Hp Bv Gv
            go_wp2_with fail
            refine HF1.out.mono ?_
            rintro e w1 ⟨rfl, b1⟩
            have B1 : Hid (Below w.heap.size w w1) := Bx.out.trans (b1.mono Bx.out.size)
            clear b1 HF1
            go_wp2
            go_ret
            exact ⟨by rw [hr.out]; rfl, B1.out⟩
          · rw [e1] at HF1
            have hin : i2 < n := by have := (List.getElem?_eq_some_iff.1 ei).1; have := Hl.out; omega
            have h2 : (i2 : Int) < (n : Int) := by omega
            have h3 : ¬ ((i2 : Int) < 0) := by omega
            have Ei := Lib.hid ei
            have hd : (QT.dp N (m + 1) s').isSome = (QT.dp N m y.pr).isSome := by conv => lhs; unfold QT.dp; rw [if_neg hs0, e2]; simp
            have Hd := Lib.hid hd
            clear e1 e2 hs0 ei hd
            by_cases hkn : k ≤ n
            · have h4 : ¬ ((n : Int) < (k : Int)) := by omega
              clear Hm0
              go_wp2_with fail
              refine HF1.out.mono ?_
              rintro e w1 ⟨rfl, b1⟩
              have B1 : Hid (Below w.heap.size w w1) := Bx.out.trans (b1.mono Bx.out.size)
              have G1 := Lib.hid ((b1.block _ (Array.getElem?_eq_some_iff.1 Gx.out).1).trans Gx.out)
              obtain ⟨b', o', ea, _, c1, _⟩ := (HNb.out w1 B1.out).at i2 y Ei.out
              simp only [Option.some.injEq, Addr.mk.injEq, and_true] at ea
              obtain ⟨rfl, rfl⟩ := ea
              clear t0 t1 b1 HF1
              obtain ⟨t0, t1, _, _⟩ := cells2 G1.out
              go_wp2
              exact ⟨⟨k + 1, y.pr, by omega, by simp, rfl, Lib.hid (by rw [Hm.out, Hu.out]; exact Hd.out), B1, G1⟩, by simp [intOf]; omega⟩
            · obtain rfl : k = n + 1 := by omega
              have hr : Hid (QT.rootedB N = false) := Lib.hid (QT.rootedB_no (List.mem_of_getElem? Hx.out) (by rw [Hl.out, Hu.out, Hd.out, Hm0.out rfl]; rfl))
              have h4 : (n : Int) < ((n + 1 : Nat) : Int) := by omega
              clear Hu Hd Hp Bv Gv Hm Hm0
              go_wp2_with fail
              refine HF1.out.mono ?_
              rintro e w1 ⟨rfl, b1⟩
              have B1 : Hid (Below w.heap.size w w1) := Bx.out.trans (b1.mono Bx.out.size)
              have G1 := (b1.block _ (Array.getElem?_eq_some_iff.1 Gx.out).1).trans Gx.out
              clear t0 t1 b1 HF1
              obtain ⟨t0, t1, _, _⟩ := cells2 G1
              clear G1
              go_wp2
              go_ret
              exact ⟨by rw [hr.out]; rfl, B1.out⟩
    · obtain rfl : i = n := by omega
      have hr : Hid (QT.rootedB N = true) := Lib.hid (QT.rootedB_yes (fun j x hj hx => by rw [Hl.out]; exact Hp.out j x (by have := Hl.out; omega) hx))
      clear Hp
      go_wp2
      go_ret
      exact ⟨by rw [hr.out]; rfl, Bv.out⟩
end Go.Proofs.YtflghelhdalhiaaGreatDoor
