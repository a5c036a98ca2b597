/-
  The program's New; the closure of Decode that reads an amount.
  Conditions: the listed variables read as listed ('Env').
  The program's Uses, by a contract.
  Conditions: the tree's maps hold the lists' (TreeQ), which rise (RiseQ).
  The memory of the program's Decode of a tree; what is right so far, in plain Lean.
  Conditions: none but those that the theorems' lines name.
  The program's Node, (Node).may and Total.
  Conditions: the tree's maps hold the lists' (TreeQ); the node is there.
-/
import Derived.Test.YtflghelhdalhiaaGreatDoorRootQ
import Derived.Test.YtflghelhdalhiaaGreatDoorG18
import Derived.Test.YtflghelhdalhiaaGreatDoorG19
namespace Go.Proofs.YtflghelhdalhiaaGreatDoor
open Go Go.RowKit

/-- THE TREE UNDER WAY: its maps hold the lists' where all is right. -/
structure TreeD (w : World) (T bn bu : Nat) (okN okU : Bool) (n m : Nat) (N : List QT.Nd) (U : List QT.Us) : Prop where
  tb : w.heap[T]? = some (.cells #[.map (some bn), .map (some bu)] 61)
  mN : MapD QT.Nd.nm vNd okN w bn n N
  mU : MapD QT.Us.id vUs okU w bu m U
  ne : bn ≠ bu ∧ T ≠ bn ∧ T ≠ bu
theorem TreeD.kept {X : Nat → Prop} {w w' : World} {T bn bu n m : Nat} {okN okU : Bool} {N : List QT.Nd} {U : List QT.Us} (h : TreeD w T bn bu okN okU n m N U) (f : Fr X w w') (h1 : ¬ X T) (h2 : ¬ X bn) (h3 : ¬ X bu) : TreeD w' T bn bu okN okU n m N U :=
  ⟨f.heap h.tb h1, h.mN.kept f h2, h.mU.kept f h3, h.ne⟩
theorem TreeD.below {w w' : World} {T bn bu n m : Nat} {okN okU : Bool} {N : List QT.Nd} {U : List QT.Us} (h : TreeD w T bn bu okN okU n m N U) (f : Below w.heap.size w w') : TreeD w' T bn bu okN okU n m N U :=
  h.kept (X := fun _ => False) (Fr.of_below f) (fun x => x) (fun x => x) (fun x => x)
theorem TreeD.tree {w : World} {T bn bu n m : Nat} {N : List QT.Nd} {U : List QT.Us} (h : TreeD w T bn bu true true n m N U) : TreeQ w T bn bu n m N U := ⟨h.tb, h.mN, h.mU⟩
set_option maxHeartbeats 1000000 in
/-- New. -/
theorem newQ_any (w : World) :
    Calls Tryz.prog 10 #[] w fun e w' => e = .returned (.pointer (some ⟨w.heap.size + 1 + 1, 0, none⟩)) ∧ (∀ okN okU, TreeD w' (w.heap.size + 1 + 1) w.heap.size (w.heap.size + 1) okN okU 0 0 [] []) ∧ Below w.heap.size w w' := by
  obtain ⟨W, hW⟩ : ∃ W, W = ((w.alloc (.map #[] 0)).alloc (.map #[] 0)).alloc (.cells #[.map (some w.heap.size), .map (some (w.heap.size + 1))] 61) := ⟨_, rfl⟩
  have f1 : Below (w.alloc (.map #[] 0)).heap.size (w.alloc (.map #[] 0)) W := by rw [hW]; exact ((Below.refl _ _).alloc (Nat.le_refl _) _).alloc (by simp) _
  have f2 : Below ((w.alloc (.map #[] 0)).alloc (.map #[] 0)).heap.size ((w.alloc (.map #[] 0)).alloc (.map #[] 0)) W := by rw [hW]; exact (Below.refl _ _).alloc (Nat.le_refl _) _
  have fin : (∀ okN okU, TreeD W (w.heap.size + 1 + 1) w.heap.size (w.heap.size + 1) okN okU 0 0 [] []) ∧ Below w.heap.size w W := by
    refine ⟨fun okN okU => ⟨?_, (MapD.made w).below f1, ?_, by omega, by omega, by omega⟩, ?_⟩
    · rw [hW]
      have := heap_alloc_new ((w.alloc (.map #[] 0)).alloc (.map #[] 0)) (.cells #[.map (some w.heap.size), .map (some (w.heap.size + 1))] 61)
      simpa using this
    · have := (MapD.made (key := QT.Us.id) (val := vUs) (ok := okU) (w.alloc (.map #[] 0))).below f2
      simpa using this
    · rw [hW]; exact (((Below.refl _ _).alloc (Nat.le_refl _) _).alloc (by simp) _).alloc (by simp <;> omega) _
  have Fin := Lib.hid fin
  clear fin f1 f2
  have hmm := @run_makeMap Tryz.prog
  go_enter Tryz.func10, Tryz.ntmps10
  go_wp2
  go_ret
  rw [← hW]
  exact ⟨rfl, Fin.out⟩
set_option maxRecDepth 100000 in
set_option maxHeartbeats 2000000 in
/-- An amount off what is read. -/
theorem damount_any (RB M : Nat) (l : List UInt8) (k : Nat) (w : World) (hE : Env w) (h : Rd w M l k) (hc : w.cell? ⟨RB, 0, none⟩ = some (.pointer (some ⟨M, 0, none⟩))) (hne : RB ≠ M) :
    Calls Tryz.prog 15 #[.pointer (some ⟨RB, 0, none⟩)] w fun e w' => e = .returned (.complex .f64 (FL.fB (PK.uintP QT.cap l k).1) (FL.fB (PK.uintP QT.cap (PK.uintP QT.cap l k).2.1 (PK.uintP QT.cap l k).2.2).1)) ∧
      Rd w' M (PK.uintP QT.cap (PK.uintP QT.cap l k).2.1 (PK.uintP QT.cap l k).2.2).2.1 (PK.uintP QT.cap (PK.uintP QT.cap l k).2.1 (PK.uintP QT.cap l k).2.2).2.2 ∧ Fr (fun j => j = M) w w' := by
  show Calls _ _ _ _ fun e w' => e = .returned (.complex .f64 (FL.fB (PK.uintP 1099511627776 l k).1) (FL.fB (PK.uintP 1099511627776 (PK.uintP 1099511627776 l k).2.1 (PK.uintP 1099511627776 l k).2.2).1)) ∧ Rd w' M (PK.uintP 1099511627776 (PK.uintP 1099511627776 l k).2.1 (PK.uintP 1099511627776 l k).2.2).2.1 (PK.uintP 1099511627776 (PK.uintP 1099511627776 l k).2.1 (PK.uintP 1099511627776 l k).2.2).2.2 ∧ Fr (fun j => j = M) w w'
  have hg := h.glob
  have cont : Hid (∀ V, Fr (fun j => j = M) w V → (Hid (Fr (fun j => j = M) w V) ∧ V.cell? ⟨RB, 0, none⟩ = some (.pointer (some ⟨M, 0, none⟩)))) := Lib.hid (fun V f => ⟨Lib.hid f, f.cell hc hne⟩)
  have C1 : Hid (∀ V, (Hid (Fr (fun j => j = M) w V) ∧ V.cell? ⟨RB, 0, none⟩ = some (.pointer (some ⟨M, 0, none⟩))) → Hid (Rd V M l k) → Calls Tryz.prog 16 #[.pointer (some ⟨M, 0, none⟩), .int .u64 1099511627776] V fun e w' => e = .returned (.int .u64 (PK.uintP 1099511627776 l k).1) ∧ Hid (Rd w' M (PK.uintP 1099511627776 l k).2.1 (PK.uintP 1099511627776 l k).2.2) ∧ (Hid (Fr (fun j => j = M) w w') ∧ w'.cell? ⟨RB, 0, none⟩ = some (.pointer (some ⟨M, 0, none⟩)))) := Lib.hid (fun V hs hr => (uint_any M 1099511627776 l k V (hE.kept hs.1.out (fun k hk e => by omega)) hr.out).mono fun e w' ⟨q1, q2, q3⟩ => ⟨q1, Lib.hid q2, cont.out w' (hs.1.out.trans q3)⟩)
  generalize PK.uintP 1099511627776 l k = R at *
  obtain ⟨x, l1, k1⟩ := R
  simp only at C1 ⊢
  have C2 : Hid (∀ V, (Hid (Fr (fun j => j = M) w V) ∧ V.cell? ⟨RB, 0, none⟩ = some (.pointer (some ⟨M, 0, none⟩))) → Hid (Rd V M l1 k1) → Calls Tryz.prog 16 #[.pointer (some ⟨M, 0, none⟩), .int .u64 1099511627776] V fun e w' => e = .returned (.int .u64 (PK.uintP 1099511627776 l1 k1).1) ∧ Hid (Rd w' M (PK.uintP 1099511627776 l1 k1).2.1 (PK.uintP 1099511627776 l1 k1).2.2) ∧ (Hid (Fr (fun j => j = M) w w') ∧ w'.cell? ⟨RB, 0, none⟩ = some (.pointer (some ⟨M, 0, none⟩)))) := Lib.hid (fun V hs hr => (uint_any M 1099511627776 l1 k1 V (hE.kept hs.1.out (fun k hk e => by omega)) hr.out).mono fun e w' ⟨q1, q2, q3⟩ => ⟨q1, Lib.hid q2, cont.out w' (hs.1.out.trans q3)⟩)
  generalize PK.uintP 1099511627776 l1 k1 = R at *
  obtain ⟨y, l2, k2⟩ := R
  simp only at C2 ⊢
  have cx : floatOfInt .f64 (x : Int) = FL.fB x := rfl
  have cy : floatOfInt .f64 (y : Int) = FL.fB y := rfl
  have S0 := cont.out w.drew (Fr.refl _ _).drew
  have r0 : Hid (Rd w.drew M l k) := Lib.hid ⟨h.glob, h.ex⟩
  clear h hc hne hg cont hE
  go_enter Tryz.func15, Tryz.ntmps15
  go_wp2_with fail
  refine wp_region_noPanic ?_
  refine wp_region_held_drew (S := fun V => (Hid (Fr (fun j => j = M) w V) ∧ V.cell? ⟨RB, 0, none⟩ = some (.pointer (some ⟨M, 0, none⟩)))) (by kernel_rfl) S0 (fun hHeld => ?_)
  refine wpAnyH_take (i := 0) (v := ?hv0) (List.getElem?_toArray.trans rfl) (by kernel_rfl) (by kernel_rfl) (by kernel_rfl) (fun _ _ _ h => h) (Or.inl ⟨by rfl, ?hy0⟩) (by assumption) ?hr0
  case hy0 => (intro wt hSw; (try dsimp only at hSw); go_simp; try (with_reducible rfl))
  try simp only [Act.put, List.setIfInBounds_toArray, List.set_cons_zero, List.set_cons_succ]
  refine wpAnyH_take (i := 2) (v := ?hv2) (List.getElem?_toArray.trans rfl) (by kernel_rfl) (by kernel_rfl) (by kernel_rfl) (fun _ _ _ h => h) (Or.inl ⟨by rfl, ?hy2⟩) (by assumption) ?hr2
  case hy2 => (intro wt hSw; (try dsimp only at hSw); go_simp; try (with_reducible rfl))
  try simp only [Act.put, List.setIfInBounds_toArray, List.set_cons_zero, List.set_cons_succ]
  refine wpAnyH_ready (rs := [1]) (by kernel_rfl) (by simp) ?_
  refine AllReadyH.cons (List.getElem?_toArray.trans rfl) (fun K hK => ?_) AllReadyH.nil
  go_simp
  go_at_call 16
  refine (C1.out _ ?_ r0).mono ?_
  assumption
  rintro e v1 ⟨rfl, r1, k1⟩
  clear C1 r0
  try (go_wp2_with fail)
  refine hK.out _ _ ?_ (fun hHeld => ?_)
  · (try dsimp only)
    assumption
  clear hK K
  try simp only [Act.put, List.setIfInBounds_toArray, List.set_cons_zero, List.set_cons_succ]
  refine wpAnyH_ready (rs := [3]) (by kernel_rfl) (by simp) ?_
  refine AllReadyH.cons (List.getElem?_toArray.trans rfl) (fun K hK => ?_) AllReadyH.nil
  go_simp
  go_at_call 16
  refine (C2.out _ ?_ r1).mono ?_
  assumption
  rintro e v2 ⟨rfl, r2, k2⟩
  clear C2 r1
  try (go_wp2_with fail)
  refine hK.out _ _ ?_ (fun hHeld => ?_)
  · (try dsimp only)
    assumption
  clear hK K
  try simp only [Act.put, List.setIfInBounds_toArray, List.set_cons_zero, List.set_cons_succ]
  refine wpAnyH_take (i := 4) (v := ?hv4) (List.getElem?_toArray.trans rfl) (by kernel_rfl) (by kernel_rfl) (by kernel_rfl) (fun _ _ _ h => h) (Or.inl ⟨by rfl, ?hy4⟩) (by assumption) ?hr4
  case hy4 => (intro wt hSw; (try dsimp only at hSw); go_simp; try (with_reducible rfl))
  try simp only [Act.put, List.setIfInBounds_toArray, List.set_cons_zero, List.set_cons_succ]
  refine wpAnyH_take (i := 5) (v := ?hv5) (List.getElem?_toArray.trans rfl) (by kernel_rfl) (by kernel_rfl) (by kernel_rfl) (fun _ _ _ h => h) (Or.inl ⟨by rfl, ?hy5⟩) (by assumption) ?hr5
  case hy5 => (intro wt hSw; (try dsimp only at hSw); go_simp; try (with_reducible rfl))
  try simp only [Act.put, List.setIfInBounds_toArray, List.set_cons_zero, List.set_cons_succ]
  refine wpAnyH_done (by kernel_rfl) ?_ _
  refine NoPanic.normal ?_
  have F2 := k2.1
  clear S0 k1 k2 hHeld
  go_wp2
  go_ret
  exact ⟨rfl, r2.out, F2.out⟩
end Go.Proofs.YtflghelhdalhiaaGreatDoor

namespace Go.Proofs.YtflghelhdalhiaaGreatDoor
open Go Go.RowKit Go.Maps Go.Sort Go.Shelf

theorem TUsQ : UsT Tryz.prog 80 46 := ⟨Tryz.underlying80, by kernel_rfl⟩
theorem GoodQ.fndU {N : List QT.Nd} {U : List QT.Us} (h : GoodQ N U) {x : QT.Us} (hx : x ∈ U) : QT.fnd QT.Us.id U x.id = some x := by
  have hp := h.pU
  clear h
  unfold QT.fnd
  induction U with
  | nil => cases hx
  | cons y r ih =>
    obtain ⟨h1, h2⟩ := List.pairwise_cons.1 hp
    rw [List.find?_cons]
    rcases List.mem_cons.1 hx with e | h'
    · subst e; simp
    · have : (y.id == x.id) = false := by simpa using h1 x h'
      rw [this]
      exact ih h' h2
set_option maxRecDepth 100000 in
set_option maxHeartbeats 4000000 in
/-- Uses. -/
theorem uses_any (T bn bu n m : Nat) (N : List QT.Nd) (U : List QT.Us) (w : World) (hT : TreeQ w T bn bu n m N U) (hR : RiseQ N U) :
    Calls Tryz.prog 35 #[.pointer (some ⟨T, 0, none⟩)] w fun e w' => ∃ a c, e = .returned (.slice a U.length c) ∧ OwnUs w' (.slice a U.length c) U ∧ (∀ b, Value.ownBlock (.slice a U.length c) = some b → w.heap.size ≤ b) ∧ Below w.heap.size w w' := by
  obtain ⟨t0, t1, _, _⟩ := cells2 hT.tb
  obtain ⟨D, hown, hr⟩ := id hT.mU
  have hsz : Maps.size D ≤ 1024 := by rw [(hr rfl).2]; exact hR.lU
  have HS := Lib.hid (sortedU bu m D (heldG vUs) w hown (by simp only [maxLen]; omega) (by omega))
  have HK := Lib.hid (fun (ss : List (List UInt8)) (hp : ss.Perm (strKeys D)) => keys_sorted hown (hr rfl) hR.rU hp)
  have HTb := Lib.hid (fun (V : World) (b : Below w.heap.size w V) => hT.below b)
  have Hlk := Lib.hid (fun (V : World) (x : QT.Us) (hx : x ∈ U) (b : Below w.heap.size w V) => show (Instr.lookup 59 (.map (some bu)) (.string (str x.id)) false).run Tryz.prog V = .ok (vUs x) V from by
    have h1 := (hT.below b).mU.look Tryz.underlying59 (zeroUs V) ⟨_, zUs_val⟩ x.id (by have := (hR.fU x hx).1.1; omega)
    rw [hR.good.fndU hx] at h1
    exact h1)
  have hUl : (U.length : Int) ≤ 281474976710656 := by have := hR.lU; omega
  have HUl := Lib.hid hR.lU
  clear hT hown hr hR hsz
  go_enter Tryz.func35, Tryz.ntmps35
  go_wp2_with fail
  refine (keysU (some bu) w).mono ?_
  rintro e w1 ⟨rfl, rfl⟩
  go_wp2_with fail
  refine HS.out.mono ?_
  rintro e w2 ⟨v, ss, rfl, hp, hrow, _, hb⟩
  have hk := HK.out ss hp
  have hlen : ss.length = (U.map QT.Us.id).length := by rw [← hk, List.length_mergeSort]
  rw [hk, hlen] at hrow
  have hO := (OwnS.of_row hrow)
  have B2 := Lib.hid (((Below.refl _ w).alloc (Nat.le_refl _) (.cells #[.map (some bu)] 59)).trans (hb.mono (by simp)))
  obtain ⟨a, c, rfl, hat⟩ := hO.at
  rw [List.length_map]
  have HA := Lib.hid hat
  clear hrow hb hk hlen HS HK hp hO hat t0 t1
  go_wp2_with fail
  go_loopw [3, 15] (fun v3 v15 V => ∃ (j : Nat) (a' : Option Addr) (c' : Nat), j ≤ U.length ∧ v15 = .int .i64 j ∧ v3 = .slice a' j c' ∧ Hid (OwnUs V (.slice a' j c') (U.take j)) ∧ Hid (∀ b, Value.ownBlock (.slice a' j c') = some b → w2.heap.size ≤ b) ∧ Hid (Below w2.heap.size w2 V)) (fun _ v _ => U.length - (intOf v).toNat)
  case atStart => exact ⟨0, none, 0, Nat.zero_le _, rfl, rfl, Lib.hid (OwnUs.nil _), Lib.hid (fun b hb => by simp [Value.ownBlock] at hb), Lib.hid (Below.refl _ _)⟩
  case round =>
    obtain ⟨j, a', c', hj, rfl, rfl, OU, OB, Vj⟩ := hrel
    by_cases hlt : j < U.length
    · have h1 : (j : Int) < (U.length : Int) := by omega
      obtain ⟨x, hx⟩ : ∃ x, U[j]? = some x := ⟨_, List.getElem?_eq_getElem hlt⟩
      have hxm := List.mem_of_getElem? hx
      obtain ⟨g, ea, hc⟩ := HA.out j x.id (by rw [List.getElem?_map, hx]; rfl)
      subst ea
      have hc2 := (World.cell?_of_block (a := ⟨g, j, none⟩) (Vj.out.block g (World.block_lt_of_cell? _ _ hc))).trans hc
      have bw : Below w.heap.size w wr := B2.out.trans (Vj.out.mono B2.out.size)
      obtain ⟨_, t1, _⟩ := cells2 (HTb.out wr bw).tb
      have hlk := Hlk.out wr x hxm bw
      rw [vUs] at hlk
      have hnext : U.take (j + 1) = U.take j ++ [x] := by rw [List.take_add_one, hx]; rfl
      have Hnext := Lib.hid hnext
      have HO : Hid (∀ o, OwnUs (wr.alloc o) (.slice a' j c') (U.take j)) := Lib.hid (fun o => OU.out.below ((Below.refl _ _).alloc (Nat.le_refl _) o))
      have HL : Hid ((U.take j).length = j) := Lib.hid (by rw [List.length_take]; omega)
      have HCc : Hid (∀ i u, (valsUs x)[i]? = some u → (wr.alloc (.cells #[.string (str x.id), .string (str x.nd), .complex .f64 (FL.fB x.a1) (FL.fB x.a2)] 46)).cell? ⟨wr.heap.size, i, none⟩ = some u) := Lib.hid (fun i u hu => by
        rw [World.cell?_alloc_new, ← hu]
        simp [valsUs])
      clear hx hxm hc bw hnext
      go_wp2_with (at_builtin; refine wpList_appUs rfl (.tmp 19) (.tmp 26) rfl TUsQ (v := .slice a' j c') (n := j) HL.out rfl (HO.out _) rfl HCc.out (by have := HUl.out; omega) ?_; intro a9 c9 w9 o9 g9 b9; have fa := (Below.refl w2.heap.size wr).alloc Vj.out.size (.cells #[.string (str x.id), .string (str x.nd), .complex .f64 (FL.fB x.a1) (FL.fB x.a2)] 46); have F9 : Hid (Below w2.heap.size w2 w9) := Lib.hid (Vj.out.trans (fa.trans ⟨g9.os, g9.tape, g9.output, g9.size, fun q hq => g9.block q (by have := Vj.out.size; have := fa.size; omega) (fun e => by have := OB.out q e; omega)⟩)); have B9 : Hid (∀ b, Value.ownBlock (.slice a9 (j + 1) c9) = some b → w2.heap.size ≤ b) := Lib.hid (fun b hb => by rcases b9 with e | ⟨g', e, hg⟩; (exact OB.out b (by rw [← e]; exact hb)); (rw [e] at hb; simp [Value.ownBlock] at hb; have := Vj.out.size; have := fa.size; omega)); have O9 := Lib.hid o9; clear o9 g9 b9 fa)
      exact ⟨⟨j + 1, a9, c9, hlt, by simp, rfl, by rw [Hnext.out]; exact O9, B9, F9⟩, by simp [intOf]; omega⟩
    · obtain rfl : j = U.length := by omega
      have OE : Hid (OwnUs wr (.slice a' U.length c') U) := Lib.hid (by have := OU.out; rwa [List.take_length] at this)
      have BE := Lib.hid (B2.out.trans (Vj.out.mono B2.out.size))
      clear OU
      go_wp2
      go_ret
      exact ⟨a', c', rfl, OE.out, fun b hb => Nat.le_trans B2.out.size (OB.out b hb), BE.out⟩
end Go.Proofs.YtflghelhdalhiaaGreatDoor

namespace Go.Proofs.YtflghelhdalhiaaGreatDoor
open Go Go.RowKit

theorem QT.fnd_none {α : Type} {key : α → QT.Str} {N : List α} {s : QT.Str} (h : ∀ y ∈ N, Op.bytesLess (key y) s = true) : QT.fnd key N s = none := by
  unfold QT.fnd
  rw [List.find?_eq_none]
  intro y hy
  have := h y hy
  simp only [beq_iff_eq]
  intro e
  rw [e, QT.less_irr] at this; cases this
theorem QT.okN_fresh {N : List QT.Nd} {x : QT.Nd} (h : (QT.okN (N ++ [x])).1 = true) : (QT.okN N).1 = true ∧ QT.fnd QT.Nd.nm N x.nm = none := by
  have h1 := h
  rw [QT.okN_snoc] at h1
  unfold QT.stepO at h1
  simp only [Bool.and_eq_true] at h1
  refine ⟨h1.1.1.1, QT.fnd_none fun y hy => ?_⟩
  obtain ⟨_, _, h3⟩ := QT.rises QT.Nd.nm (fun _ => true) (N ++ [x]) true [] h
  rw [List.pairwise_append] at h3
  exact h3.2.2 y hy x (by simp)
theorem QT.okV_fresh {N : List QT.Nd} {U : List QT.Us} {x : QT.Us} (h : (QT.okV N (U ++ [x])).1 = true) : (QT.okV N U).1 = true ∧ QT.fnd QT.Us.id U x.id = none := by
  have h1 := h
  rw [QT.okV_snoc] at h1
  unfold QT.stepO at h1
  simp only [Bool.and_eq_true] at h1
  refine ⟨h1.1.1.1, QT.fnd_none fun y hy => ?_⟩
  obtain ⟨_, _, h3⟩ := QT.rises QT.Us.id (fun u => (QT.find N u.nd).isSome) (U ++ [x]) (QT.okN N).1 [] h
  rw [List.pairwise_append] at h3
  exact h3.2.2 y hy x (by simp)
theorem QT.okN_rises {N : List QT.Nd} (h : (QT.okN N).1 = true) : N.Pairwise (fun a b => Op.bytesLess a.nm b.nm = true) := (QT.rises QT.Nd.nm (fun _ => true) N true [] h).2.2
theorem Rd.kept8q {X : Nat → Prop} {w w' : World} {M : Nat} {l : List UInt8} {k : Nat} (h : Rd w M l k) (f : Fr X w w') (hM : ¬ X M) (hx : ∀ k, X k → ∀ j n, w.cell? ⟨k, j, none⟩ ≠ some (.int .u8 n)) : Rd w' M l k := by
  obtain ⟨hg, a, c, hh, hi⟩ := h
  exact ⟨hg, a, c, f.heap hh hM, hi.kept8q f hx⟩
theorem Rd.below' {w w' : World} {M : Nat} {l : List UInt8} {k : Nat} (h : Rd w M l k) (f : Below w.heap.size w w') : Rd w' M l k :=
  h.kept8q (X := fun _ => False) (Fr.of_below f) (fun x => x) (fun _ x => x.elim)
/-- DECODE's MEMORY: the reader (block RM, its variable RB), the tree under way. -/
structure DsS (w V : World) (RM RB T bn bu : Nat) (l : List UInt8) (k : Nat) (okN okU : Bool) (n m : Nat) (N : List QT.Nd) (U : List QT.Us) : Prop where
  be : Below w.heap.size w V
  rb : V.cell? ⟨RB, 0, none⟩ = some (.pointer (some ⟨RM, 0, none⟩))
  rd : Rd V RM l k
  tr : TreeD V T bn bu okN okU n m N U
  lr : l.length ≤ roomB
  d1 : RB ≠ RM ∧ T ≠ RM ∧ bn ≠ RM ∧ bu ≠ RM ∧ RB ≠ bn ∧ RB ≠ bu
  d2 : w.heap.size ≤ RM ∧ w.heap.size ≤ bn ∧ w.heap.size ≤ bu
section
variable {n' m' : Nat} {w V V' : World} {RM RB T bn bu n m : Nat} {l l' : List UInt8} {k k' : Nat} {okN okU ok' : Bool} {N N' : List QT.Nd} {U U' : List QT.Us}
theorem DsS.below (h : DsS w V RM RB T bn bu l k okN okU n m N U) (f : Below V.heap.size V V') : DsS w V' RM RB T bn bu l k okN okU n m N U :=
  ⟨h.be.trans (f.mono h.be.size), (World.cell?_of_block (a := ⟨RB, 0, none⟩) (f.block RB (World.block_lt_of_cell? _ _ h.rb))).trans h.rb, h.rd.below' f, h.tr.below f, h.lr, h.d1, h.d2⟩
theorem DsS.env (h : DsS w V RM RB T bn bu l k okN okU n m N U) (hE : Env w) : Env V := hE.wr h.be hE.big
/-- The reader turns (and new blocks). -/
theorem DsS.rdTo (h : DsS w V RM RB T bn bu l k okN okU n m N U) (f : Fr (fun j => j = RM) V V') (hr : Rd V' RM l' k') (hl : l'.length ≤ roomB) : DsS w V' RM RB T bn bu l' k' okN okU n m N U :=
  ⟨h.be.trans ⟨f.os, f.tape, f.output, f.size, fun q hq => f.block q (Nat.lt_of_lt_of_le hq h.be.size) (by have := h.d2.1; omega)⟩, f.cell h.rb h.d1.1, hr, h.tr.kept f h.d1.2.1 h.d1.2.2.1 h.d1.2.2.2.1, hl, h.d1, h.d2⟩
theorem map_noByte {w : World} {b n : Nat} {α : Type} {key : α → QT.Str} {val : α → Value} {ok : Bool} {L : List α} (h : MapD key val ok w b n L) (j : Nat) (x : Int) : w.cell? ⟨b, j, none⟩ ≠ some (.int .u8 x) := by
  obtain ⟨D, ⟨es, clock, hb, _⟩, _⟩ := h
  simp [World.cell?, hb]
/-- The map of nodes turns. -/
theorem DsS.putN (h : DsS w V RM RB T bn bu l k okN okU n m N U) (f : Fr (fun j => j = bn) V V') (hm : MapD QT.Nd.nm vNd ok' V' bn n' N') : DsS w V' RM RB T bn bu l k ok' okU n' m N' U :=
  ⟨h.be.trans ⟨f.os, f.tape, f.output, f.size, fun q hq => f.block q (Nat.lt_of_lt_of_le hq h.be.size) (by have := h.d2.2.1; omega)⟩, f.cell h.rb h.d1.2.2.2.2.1, h.rd.kept8q f (fun e => h.d1.2.2.1 e.symm) (fun q hq => by subst hq; exact map_noByte h.tr.mN),
   ⟨f.heap h.tr.tb h.tr.ne.2.1, hm, h.tr.mU.kept f (fun e => h.tr.ne.1 e.symm), h.tr.ne⟩, h.lr, h.d1, h.d2⟩
/-- The map of uses turns. -/
theorem DsS.putU (h : DsS w V RM RB T bn bu l k okN okU n m N U) (f : Fr (fun j => j = bu) V V') (hm : MapD QT.Us.id vUs ok' V' bu m' U') : DsS w V' RM RB T bn bu l k okN ok' n m' N U' :=
  ⟨h.be.trans ⟨f.os, f.tape, f.output, f.size, fun q hq => f.block q (Nat.lt_of_lt_of_le hq h.be.size) (by have := h.d2.2.2; omega)⟩, f.cell h.rb h.d1.2.2.2.2.2, h.rd.kept8q f (fun e => h.d1.2.2.2.1 e.symm) (fun q hq => by subst hq; exact map_noByte h.tr.mU),
   ⟨f.heap h.tr.tb h.tr.ne.2.2, h.tr.mN.kept f (fun e => h.tr.ne.1 e), hm, h.tr.ne⟩, h.lr, h.d1, h.d2⟩
end
end Go.Proofs.YtflghelhdalhiaaGreatDoor

namespace Go.Proofs.YtflghelhdalhiaaGreatDoor
open Go Go.RowKit

set_option maxRecDepth 100000 in
set_option maxHeartbeats 2000000 in
/-- A node's amounts are such. -/
theorem nodeMay_any (x : QT.Nd) (w : World) (hx : QT.fineNd x) :
    Calls Tryz.prog 40 #[.agg #[.string (str x.nm), .string (str x.pr), .complex .f64 (FL.fB x.o1) (FL.fB x.o2), .complex .f64 (FL.fB x.b1) (FL.fB x.b2), .complex .f64 (FL.fB x.l1) (FL.fB x.l2)]] w fun e w' => e = .returned (.bool true) ∧ Below w.heap.size w w' := by
  obtain ⟨_, f3, f4, f5, f6, f7, f8⟩ := hx
  simp only [QT.cap] at f3 f4 f5 f6 f7 f8
  obtain ⟨W, hW⟩ : ∃ W, W = w.alloc (.cells #[.string (str x.nm), .string (str x.pr), .complex .f64 (FL.fB x.o1) (FL.fB x.o2), .complex .f64 (FL.fB x.b1) (FL.fB x.b2), .complex .f64 (FL.fB x.l1) (FL.fB x.l2)] 43) := ⟨_, rfl⟩
  have bW : Below w.heap.size w W := by rw [hW]; exact (Below.refl _ _).alloc (Nat.le_refl _) _
  have BW := Lib.hid bW
  have gW : W.heap[w.heap.size]? = some (.cells #[.string (str x.nm), .string (str x.pr), .complex .f64 (FL.fB x.o1) (FL.fB x.o2), .complex .f64 (FL.fB x.b1) (FL.fB x.b2), .complex .f64 (FL.fB x.l1) (FL.fB x.l2)] 43) := by rw [hW]; exact heap_alloc_new _ _
  obtain ⟨⟨z0, z1, z2, z3, z4⟩, _⟩ := cells5f gW
  have M : ∀ a b : Nat, a ≤ 1099511627776 → b ≤ 1099511627776 → Hid (Calls Tryz.prog 41 #[.complex .f64 (FL.fB a) (FL.fB b)] W fun e w' => e = .returned (.bool true) ∧ W = w') := fun a b ha hb => Lib.hid (by
    have := mayQ_any a b W (by omega) (by omega)
    rw [decide_eq_true (show a ≤ 1099511627776 ∧ b ≤ 1099511627776 from ⟨ha, hb⟩)] at this
    exact this)
  have M1 := M _ _ f3 f4
  have M2 := M _ _ f5 f6
  have M3 := M _ _ f7 f8
  clear M f3 f4 f5 f6 f7 f8 gW bW
  go_enter Tryz.func40, Tryz.ntmps40
  go_wp2_with (rw [← hW])
  clear hW
  go_wp2_with fail
  refine M1.out.mono ?_
  rintro e w1 ⟨rfl, rfl⟩
  go_wp2_with fail
  refine M2.out.mono ?_
  rintro e w1 ⟨rfl, rfl⟩
  go_wp2_with fail
  refine M3.out.mono ?_
  rintro e w1 ⟨rfl, rfl⟩
  go_wp2
  go_ret
  exact ⟨rfl, BW.out⟩
set_option maxRecDepth 100000 in
set_option maxHeartbeats 4000000 in
/-- A node that is there. -/
theorem node_any (T bn bu n m : Nat) (N : List QT.Nd) (U : List QT.Us) (x : QT.Nd) (s : QT.Str) (w : World) (hT : TreeQ w T bn bu n m N U) (hs : QT.fnd QT.Nd.nm N s = some x) (hl : s.length ≤ 1099511627776) :
    Calls Tryz.prog 42 #[.pointer (some ⟨T, 0, none⟩), .string (str s)] w fun e w' => e = .returned (.tuple #[.agg #[.string (str x.nm), .string (str x.pr), .complex .f64 (FL.fB x.o1) (FL.fB x.o2), .complex .f64 (FL.fB x.b1) (FL.fB x.b2), .complex .f64 (FL.fB x.l1) (FL.fB x.l2)], .nilIface]) ∧ Below w.heap.size w w' := by
  have hstc := @run_store_complex Tryz.prog
  obtain ⟨W0, hW0⟩ : ∃ W, W = w.alloc (.cells #[.string ⟨#[]⟩, .string ⟨#[]⟩, .complex .f64 0 0, .complex .f64 0 0, .complex .f64 0 0] 43) := ⟨_, rfl⟩
  have b0 : Below w.heap.size w W0 := by rw [hW0]; exact (Below.refl _ _).alloc (Nat.le_refl _) _
  have g0 : W0.heap[w.heap.size]? = some (.cells #[.string ⟨#[]⟩, .string ⟨#[]⟩, .complex .f64 0 0, .complex .f64 0 0, .complex .f64 0 0] 43) := by rw [hW0]; exact heap_alloc_new _ _
  have T0 := hT.below b0
  obtain ⟨t0, _⟩ := cells2 T0.tb
  have hlk := T0.mN.lookOk Tryz.underlying58 (zeroNd W0) ⟨_, zNd_val⟩ s hl
  rw [hs] at hlk
  simp only [Option.map_some, Option.getD_some, Option.isSome_some, vNd] at hlk
  obtain ⟨W1, hW1⟩ : ∃ W, W = W0.alloc (.cells #[.string (str x.nm), .string (str x.pr), .complex .f64 (FL.fB x.o1) (FL.fB x.o2), .complex .f64 (FL.fB x.b1) (FL.fB x.b2), .complex .f64 (FL.fB x.l1) (FL.fB x.l2)] 43) := ⟨_, rfl⟩
  have b1 : Below W0.heap.size W0 W1 := by rw [hW1]; exact (Below.refl _ _).alloc (Nat.le_refl _) _
  have g1 : W1.heap[W0.heap.size]? = some (.cells #[.string (str x.nm), .string (str x.pr), .complex .f64 (FL.fB x.o1) (FL.fB x.o2), .complex .f64 (FL.fB x.b1) (FL.fB x.b2), .complex .f64 (FL.fB x.l1) (FL.fB x.l2)] 43) := by rw [hW1]; exact heap_alloc_new _ _
  have g01 := (b1.block w.heap.size (Array.getElem?_eq_some_iff.1 g0).1).trans g0
  obtain ⟨⟨y0, y1, y2, y3, y4⟩, _⟩ := cells5f g1
  obtain ⟨⟨z0, z1, z2, z3, z4⟩, q0, q1, q2, q3, q4⟩ := cells5f g01
  obtain ⟨W2, hW2⟩ : ∃ V, V = (((((W1.setCell ⟨w.heap.size, 0, none⟩ (.string (str x.nm))).setCell ⟨w.heap.size, 1, none⟩ (.string (str x.pr))).setCell ⟨w.heap.size, 2, none⟩ (.complex .f64 (FL.fB x.o1) (FL.fB x.o2))).setCell ⟨w.heap.size, 3, none⟩ (.complex .f64 (FL.fB x.b1) (FL.fB x.b2))).setCell ⟨w.heap.size, 4, none⟩ (.complex .f64 (FL.fB x.l1) (FL.fB x.l2))) := ⟨_, rfl⟩
  have f2 : Fr (fun j => j = w.heap.size) W1 W2 := by rw [hW2]; exact fr5 _ _ _ _ _ _ _
  have g2 : W2.heap[w.heap.size]? = some (.cells #[.string (str x.nm), .string (str x.pr), .complex .f64 (FL.fB x.o1) (FL.fB x.o2), .complex .f64 (FL.fB x.b1) (FL.fB x.b2), .complex .f64 (FL.fB x.l1) (FL.fB x.l2)] 43) := by rw [hW2]; exact stored5 g01 _ _ _ _ _
  obtain ⟨⟨e0, e1, e2, e3, e4⟩, _⟩ := cells5f g2
  have EW := Lib.hid (And.intro e0 (And.intro e1 (And.intro e2 (And.intro e3 e4))))
  have b01 := b0.trans (b1.mono b0.size)
  have BW : Hid (Below w.heap.size w W2) := Lib.hid (b01.trans ⟨f2.os, f2.tape, f2.output, f2.size, fun q hq => f2.block q (Nat.lt_of_lt_of_le hq b01.size) (by omega)⟩)
  have HW0 : Hid (w.alloc (.cells #[.string ⟨#[]⟩, .string ⟨#[]⟩, .complex .f64 0 0, .complex .f64 0 0, .complex .f64 0 0] 43) = W0) := Lib.hid hW0.symm
  have HW1 : Hid (W0.alloc (.cells #[.string (str x.nm), .string (str x.pr), .complex .f64 (FL.fB x.o1) (FL.fB x.o2), .complex .f64 (FL.fB x.b1) (FL.fB x.b2), .complex .f64 (FL.fB x.l1) (FL.fB x.l2)] 43) = W1) := Lib.hid hW1.symm
  have HW2 := Lib.hid hW2.symm
  clear hW0 hW1 hW2 b0 b1 b01 f2 g0 g1 g01 g2 e0 e1 e2 e3 e4 T0 hT hs hl
  go_enter Tryz.func42, Tryz.ntmps42
  go_wp2_with (first | rw [HW0.out] | rw [HW1.out] | (rw [HW2.out]; obtain ⟨e0, e1, e2, e3, e4⟩ := EW.out; refine bodyPost_ret (v := .tuple #[.agg #[.string (str x.nm), .string (str x.pr), .complex .f64 (FL.fB x.o1) (FL.fB x.o2), .complex .f64 (FL.fB x.b1) (FL.fB x.b2), .complex .f64 (FL.fB x.l1) (FL.fB x.l2)], .nilIface]) (by simp [results, Tryz.results42, go_sem, e0, e1, e2, e3, e4]) rfl ?_; exact ⟨rfl, BW.out⟩))
set_option maxRecDepth 100000 in
set_option maxHeartbeats 4000000 in
/-- The total of a node that is there. -/
theorem total_any (T bn bu n m : Nat) (N : List QT.Nd) (U : List QT.Us) (x : QT.Nd) (w : World) (hT : TreeQ w T bn bu n m N U) (hF : FullQ N U) (hx : x ∈ N) :
    Calls Tryz.prog 13 #[.pointer (some ⟨T, 0, none⟩), .string (str x.nm)] w fun e w' => e = .returned (.tuple #[.complex .f64 (FL.fB (QT.Total N QT.Nd.o1 x.nm)) (FL.fB (QT.Total N QT.Nd.o2 x.nm)), .nilIface]) ∧ Below w.heap.size w w' := by
  have hstc := @run_store_complex Tryz.prog
  have HN := Lib.hid (node_any T bn bu n m N U x x.nm w hT (hF.rise.good.fnd hx) (by have := (hF.rise.fN x hx).1.1; omega))
  have HS : Hid (∀ V, Below w.heap.size w V → Calls Tryz.prog 43 #[.pointer (some ⟨T, 0, none⟩), .string (str x.nm)] V fun e w' =>
      e = .returned (.tuple #[.complex .f64 (FL.fB (QT.Total N QT.Nd.o1 x.nm)) (FL.fB (QT.Total N QT.Nd.o2 x.nm)), .complex .f64 (FL.fB (QT.Used N U QT.Us.a1 x.nm)) (FL.fB (QT.Used N U QT.Us.a2 x.nm))]) ∧ Below V.heap.size V w') := Lib.hid (fun V b => sums_any N U hF T bn bu n m (N.length + 1) x V hx (by omega) (hT.below b))
  clear hT hF hx
  go_enter Tryz.func13, Tryz.ntmps13
  go_wp2_with fail
  refine HN.out.mono ?_
  rintro e w1 ⟨rfl, b1⟩
  obtain ⟨W, hW⟩ : ∃ W, W = w1.alloc (.cells #[.string (str x.nm), .string (str x.pr), .complex .f64 (FL.fB x.o1) (FL.fB x.o2), .complex .f64 (FL.fB x.b1) (FL.fB x.b2), .complex .f64 (FL.fB x.l1) (FL.fB x.l2)] 43) := ⟨_, rfl⟩
  have bW : Below w.heap.size w W := by rw [hW]; exact b1.trans ((Below.refl _ _).alloc b1.size _)
  have BW := Lib.hid bW
  have HW := Lib.hid hW.symm
  have HS1 := Lib.hid (HS.out W bW)
  clear hW bW b1 HN HS
  go_wp2_with (rw [HW.out])
  refine HS1.out.mono ?_
  rintro e w2 ⟨rfl, b2⟩
  have B2 := Lib.hid (BW.out.trans (b2.mono BW.out.size))
  clear b2
  go_wp2
  go_ret2
  exact ⟨rfl, B2.out⟩
end Go.Proofs.YtflghelhdalhiaaGreatDoor
