/-
  The program's tree: its two maps; what is used at a node itself (here), by a contract.
  Conditions: the tree's maps hold the lists' (TreeQ); names of at most 2^40 bytes, amounts at most 2^40, at most 1024 uses.
  The program's Nodes and children, by contracts.
  Conditions: the tree's maps hold the lists' (TreeQ), which rise (RiseQ).
-/
import Derived.Test.YtflghelhdalhiaaGreatDoorMapQ
import Derived.Test.YtflghelhdalhiaaGreatDoorG7
import Derived.Test.YtflghelhdalhiaaGreatDoorG11
import Derived.Test.YtflghelhdalhiaaGreatDoorG1
import Derived.Shelf.SlicesE.DeleteFunc
import Derived.Deep.RegionHeld3
namespace Go.Proofs.YtflghelhdalhiaaGreatDoor
open Go Go.RowKit

theorem QT.S_oneG {α : Type} {key : α → QT.Str} {U : List α} (hp : U.Pairwise (fun a b => key a ≠ key b)) {x : α} (h : x ∈ U) (G : α → Nat) : QT.S U (fun y => if key y = key x then G y else 0) = G x := by
  induction U with
  | nil => cases h
  | cons y r ih =>
    obtain ⟨h1, h2⟩ := List.pairwise_cons.1 hp
    rw [QT.S_cons]
    rcases List.mem_cons.1 h with e | h'
    · subst e
      rw [if_pos rfl, show QT.S r (fun y => if key y = key x then G y else 0) = QT.S r (fun _ => 0) from QT.S_congr (fun z hz => if_neg (fun e => h1 z hz e.symm)), QT.S_zero]
      omega
    · rw [if_neg (h1 x h'), ih h2 h']
      omega
theorem QT.S_left_done {α : Type} {key : α → QT.Str} {U : List α} {p : α → Bool} {left : QT.Str → Bool} (h : ∀ s, left s = false) (F : α → Nat) : QT.S (U.filter fun y => p y && !left (key y)) F = QT.S (U.filter p) F := by
  congr 1
  refine List.filter_congr fun y _ => ?_
  rw [h]; simp
theorem QT.S_left_start {α : Type} {key : α → QT.Str} {U : List α} {p : α → Bool} (F : α → Nat) : QT.S (U.filter fun y => p y && !(QT.fnd key U (key y)).isSome) F = 0 := by
  have : (U.filter fun y => p y && !(QT.fnd key U (key y)).isSome) = [] := by
    rw [List.filter_eq_nil_iff]
    intro y hy
    have : (QT.fnd key U (key y)).isSome = true := by
      unfold QT.fnd
      rw [List.find?_isSome]
      exact ⟨y, hy, by simp⟩
    rw [this]; simp
  rw [this]; rfl
theorem QT.S_left_step {α : Type} {key : α → QT.Str} {U : List α} (hp : U.Pairwise (fun a b => key a ≠ key b)) {p : α → Bool} {left : QT.Str → Bool} {x : α} (hx : x ∈ U) (hl : left (key x) = true) (F : α → Nat) :
    QT.S (U.filter fun y => p y && !(left (key y) && !(key y == key x))) F = QT.S (U.filter fun y => p y && !left (key y)) F + (if p x = true then F x else 0) := by
  rw [QT.S_filter, QT.S_filter, ← QT.S_oneG hp hx (fun y => if p y = true then F y else 0), ← QT.S_add]
  refine QT.S_congr fun y hy => ?_
  by_cases e : key y = key x
  · rw [if_pos e, e, hl]
    cases p y <;> simp
  · rw [if_neg e]
    have : (key y == key x) = false := by simpa using e
    rw [this]
    simp
/-- THE PROGRAM's TREE: block T; its maps bn, bu. -/
structure TreeQ (w : World) (T bn bu n m : Nat) (N : List QT.Nd) (U : List QT.Us) : Prop where
  tb : w.heap[T]? = some (.cells #[.map (some bn), .map (some bu)] 61)
  mN : MapD QT.Nd.nm vNd true w bn n N
  mU : MapD QT.Us.id vUs true w bu m U
theorem TreeQ.below {w w' : World} {T bn bu n m : Nat} {N : List QT.Nd} {U : List QT.Us} (h : TreeQ w T bn bu n m N U) (f : Below w.heap.size w w') : TreeQ w' T bn bu n m N U :=
  ⟨(f.block _ (Array.getElem?_eq_some_iff.1 h.tb).1).trans h.tb, h.mN.below f, h.mU.below f⟩
/-- THE LISTS ARE AS THE PROGRAM ASKS. -/
structure GoodQ (N : List QT.Nd) (U : List QT.Us) : Prop where
  pN : N.Pairwise (fun a b => a.nm ≠ b.nm)
  pU : U.Pairwise (fun a b => a.id ≠ b.id)
  fN : ∀ x ∈ N, QT.fineNd x
  fU : ∀ x ∈ U, QT.fineUs x
  lN : N.length ≤ 256
  lU : U.length ≤ 1024
set_option maxRecDepth 100000 in
set_option maxHeartbeats 4000000 in
theorem here_any (T bn bu n m : Nat) (N : List QT.Nd) (U : List QT.Us) (s : QT.Str) (w : World) (hT : TreeQ w T bn bu n m N U) (hG : GoodQ N U) :
    Calls Tryz.prog 75 #[.pointer (some ⟨T, 0, none⟩), .string (str s)] w fun v w' => v = .returned (.complex .f64 (FL.fB (QT.here U QT.Us.a1 s)) (FL.fB (QT.here U QT.Us.a2 s))) ∧ Below w.heap.size w w' := by
  have hstc := @run_store_complex Tryz.prog
  obtain ⟨t0, t1, _, _⟩ := cells2 hT.tb
  have HM := Lib.hid hT.mU
  have HG := Lib.hid hG
  have HTlt := Lib.hid (Array.getElem?_eq_some_iff.1 hT.tb).1
  obtain ⟨p, hp⟩ : ∃ p : QT.Us → Bool, p = fun u => u.nd == s := ⟨_, rfl⟩
  have Hp := Lib.hid (fun u => congrFun hp u)
  have HE := Lib.hid (show QT.here U QT.Us.a1 s = QT.S (U.filter p) QT.Us.a1 ∧ QT.here U QT.Us.a2 s = QT.S (U.filter p) QT.Us.a2 from by rw [hp]; exact ⟨rfl, rfl⟩)
  obtain ⟨Z, hZ⟩ : ∃ Z : (QT.Str → Bool) → (QT.Us → Nat) → Nat, Z = fun left F => QT.S (U.filter fun y => p y && !left y.id) F := ⟨_, rfl⟩
  have HZ := Lib.hid (fun left F => congrFun (congrFun hZ left) F)
  have HZb : Hid (∀ left, Z left QT.Us.a1 ≤ 1125899906842624 ∧ Z left QT.Us.a2 ≤ 1125899906842624) := Lib.hid (fun left => by
    have b1 := QT.S_bound (l := U.filter fun y => p y && !left y.id) (F := QT.Us.a1) (B := 1099511627776) (fun x hx => (hG.fU x (List.mem_filter.1 hx).1).2.1)
    have b2 := QT.S_bound (l := U.filter fun y => p y && !left y.id) (F := QT.Us.a2) (B := 1099511627776) (fun x hx => (hG.fU x (List.mem_filter.1 hx).1).2.2)
    have l1 := List.length_filter_le (fun y => p y && !left y.id) U
    have l2 := Nat.mul_le_mul_right 1099511627776 (Nat.le_trans l1 hG.lU)
    rw [hZ]
    simp only
    omega)
  have Zs : Z (fun s => (QT.fnd QT.Us.id U s).isSome) QT.Us.a1 = 0 ∧ Z (fun s => (QT.fnd QT.Us.id U s).isSome) QT.Us.a2 = 0 := by
    rw [hZ]
    exact ⟨QT.S_left_start _, QT.S_left_start _⟩
  have HZs := Lib.hid Zs
  clear hT hG hp hZ Zs
  go_enter Tryz.func75, Tryz.ntmps75
  go_wp2_with (at_range; refine wpList_rangeG rfl _ rfl Tryz.underlying59 HM.out rfl ?_; intro w0 hrg0 hb0 hs0; have Hrg0 := Lib.hid hrg0; have Hb0 := Lib.hid hb0; clear hrg0 hb0 hs0)
  go_frame
  clear t0 t1
  go_loopw [5] (fun v5 V => ∃ (left : QT.Str → Bool) (cnt : Nat), v5 = .complex .f64 (FL.fI (Z left QT.Us.a1 : Nat)) (FL.fI (Z left QT.Us.a2 : Nat)) ∧ Hid (RangeG QT.Us.id vUs V bu w.heap.size m U left cnt) ∧ Hid (Below w.heap.size w V)) (fun _ V => V.rangeLeft bu w.heap.size)
  case atStart => exact ⟨_, _, by rw [HZs.out.1, HZs.out.2]; rfl, Hrg0, Hb0⟩
  case round =>
    obtain ⟨left, cnt, rfl, Hrg, Hb⟩ := hrel
    clear Hrg0 Hb0
    go_wp2_with (at_next; refine wpList_nextG rfl _ rfl Hrg.out rfl ?_ ?_)
    · intro _ hl0
      have hr1 := Lib.hid ((HZ.out left QT.Us.a1).trans (QT.S_left_done hl0 QT.Us.a1))
      have hr2 := Lib.hid ((HZ.out left QT.Us.a2).trans (QT.S_left_done hl0 QT.Us.a2))
      clear hl0
      go_wp2
      go_ret
      exact ⟨by rw [HE.out.1, HE.out.2, ← hr1.out, ← hr2.out]; rfl, Hb.out⟩
    · intro x w1 cnt1 hx hfx hlx hrg1 hlt hg1 hs1 hen
      rw [vUs] at hen ⊢
      have Hrg1 := Lib.hid hrg1
      have Hlt := Lib.hid hlt
      have Hb1 : Hid (Below w.heap.size w w1) := Lib.hid (Hb.out.trans ⟨hg1.os, hg1.tape, hg1.output, hg1.size, fun q hq => hg1.block q (Nat.lt_of_lt_of_le hq Hb.out.size) (by omega)⟩)
      have hst1 := (HZ.out (fun s => left s && !(s == x.id)) QT.Us.a1).trans (QT.S_left_step HG.out.pU (p := p) hx hlx QT.Us.a1)
      have hst2 := (HZ.out (fun s => left s && !(s == x.id)) QT.Us.a2).trans (QT.S_left_step HG.out.pU (p := p) hx hlx QT.Us.a2)
      rw [← HZ.out left QT.Us.a1] at hst1
      rw [← HZ.out left QT.Us.a2] at hst2
      have hbd := HZb.out left
      have hxb := (HG.out.fU x hx).2
      simp only [QT.cap] at hxb
      obtain ⟨q, hq⟩ : ∃ q, p x = q := ⟨_, rfl⟩
      have ht : ((str x.nd).toList == (str s).toList) = q := by rw [str_toList, str_toList, ← Hp.out x, hq]
      obtain ⟨V, hV⟩ : ∃ V, V = w1.alloc (.cells #[.string (str x.id), .string (str x.nd), .complex .f64 (FL.fB x.a1) (FL.fB x.a2)] 46) := ⟨_, rfl⟩
      have fV : Below w1.heap.size w1 V := by rw [hV]; exact (Below.refl _ _).alloc (Nat.le_refl _) _
      have HrgV := Lib.hid (Hrg1.out.below fV)
      have HbV := Lib.hid (Hb1.out.trans (fV.mono Hb1.out.size))
      have Hm : Hid (V.rangeLeft bu w.heap.size < wr.rangeLeft bu w.heap.size) := Lib.hid (by rw [HrgV.out.left_eq, Hrg.out.left_eq]; exact hlt)
      rw [hq] at hst1 hst2
      clear hrg1 hlt hg1 hs1 hfx hlx hx fV Hrg1 Hlt Hb1
      cases q with
      | true =>
        have hadd : ∀ V : World, (binOp .add 41 (.complex .f64 (FL.fI (Z left QT.Us.a1 : Nat)) (FL.fI (Z left QT.Us.a2 : Nat))) (.complex .f64 (FL.fB x.a1) (FL.fB x.a2))).run Tryz.prog V = .ok (.complex .f64 (FL.fI (Z (fun s => left s && !(s == x.id)) QT.Us.a1 : Nat)) (FL.fI (Z (fun s => left s && !(s == x.id)) QT.Us.a2 : Nat))) V := fun V => by
          rw [hst1, hst2, if_pos rfl, if_pos rfl, Int.natCast_add, Int.natCast_add]
          refine run_cadd _ _ _ (x.a1 : Int) (x.a2 : Int) V ?_ ?_ ?_ ?_ ?_ ?_ <;> unfold W53 <;> omega
        clear hst1 hst2 hbd hxb hq
        go_wp2_with (rw [← hV])
        exact ⟨⟨_, cnt1, rfl, HrgV, HbV⟩, Hm.out⟩
      | false =>
        have Q1 : Hid (Z (fun s => left s && !(s == x.id)) QT.Us.a1 = Z left QT.Us.a1) := Lib.hid (by rw [hst1, if_neg (by simp)]; omega)
        have Q2 : Hid (Z (fun s => left s && !(s == x.id)) QT.Us.a2 = Z left QT.Us.a2) := Lib.hid (by rw [hst2, if_neg (by simp)]; omega)
        clear hst1 hst2 hbd hxb hq
        go_wp2_with (rw [← hV])
        exact ⟨⟨_, cnt1, by rw [Q1.out, Q2.out], HrgV, HbV⟩, Hm.out⟩
end Go.Proofs.YtflghelhdalhiaaGreatDoor

namespace Go.Proofs.YtflghelhdalhiaaGreatDoor
open Go Go.RowKit Go.Maps Go.Sort Go.Shelf

/-- THE LISTS RISE, and are as the program asks. -/
structure RiseQ (N : List QT.Nd) (U : List QT.Us) : Prop where
  rN : N.Pairwise (fun a b => Op.bytesLess a.nm b.nm = true)
  rU : U.Pairwise (fun a b => Op.bytesLess a.id b.id = true)
  fN : ∀ x ∈ N, QT.fineNd x
  fU : ∀ x ∈ U, QT.fineUs x
  lN : N.length ≤ 256
  lU : U.length ≤ 1024
theorem RiseQ.good {N : List QT.Nd} {U : List QT.Us} (h : RiseQ N U) : GoodQ N U :=
  ⟨h.rN.imp (fun {a b} q e => by rw [e, QT.less_irr] at q; cases q), h.rU.imp (fun {a b} q e => by rw [e, QT.less_irr] at q; cases q), h.fN, h.fU, h.lN, h.lU⟩
theorem GoodQ.fnd {N : List QT.Nd} {U : List QT.Us} (h : GoodQ N U) {x : QT.Nd} (hx : x ∈ N) : QT.fnd QT.Nd.nm N x.nm = some x := by
  have hp := h.pN
  clear h
  unfold QT.fnd
  induction N with
  | nil => cases hx
  | cons y r ih =>
    obtain ⟨h1, h2⟩ := List.pairwise_cons.1 hp
    rw [List.find?_cons]
    rcases List.mem_cons.1 hx with e | h'
    · subst e; simp
    · have : (y.nm == x.nm) = false := by simpa using h1 x h'
      rw [this]
      exact ih h' h2
set_option maxHeartbeats 1000000 in
/-- Nodes. -/
theorem nodes_any (T bn bu n m : Nat) (N : List QT.Nd) (U : List QT.Us) (w : World) (hT : TreeQ w T bn bu n m N U) (hR : RiseQ N U) :
    Calls Tryz.prog 33 #[.pointer (some ⟨T, 0, none⟩)] w fun e w' => ∃ v, e = .returned v ∧ OwnS w' w.heap.size v (N.map QT.Nd.nm) ∧ Below w.heap.size w w' := by
  obtain ⟨t0, t1, _, _⟩ := cells2 hT.tb
  obtain ⟨D, hown, hr⟩ := hT.mN
  have hsz : Maps.size D ≤ 256 := by rw [(hr rfl).2]; exact hR.lN
  have HS := Lib.hid (sortedN bn n D (heldG vNd) w hown (by simp only [maxLen]; omega) (by omega))
  have HK := Lib.hid (fun (ss : List (List UInt8)) (hp : ss.Perm (strKeys D)) => keys_sorted hown (hr rfl) hR.rN hp)
  clear hT hown hr hR hsz
  go_enter Tryz.func33, Tryz.ntmps33
  go_wp2_with fail
  refine (keysN (some bn) w).mono ?_
  rintro e w1 ⟨rfl, rfl⟩
  go_wp2_with fail
  refine HS.out.mono ?_
  rintro e w2 ⟨v, ss, rfl, hp, hrow, _, hb⟩
  have hk := HK.out ss hp
  have hlen : ss.length = (N.map QT.Nd.nm).length := by rw [← hk, List.length_mergeSort]
  rw [hk, hlen] at hrow
  have HO := Lib.hid ((OwnS.of_row hrow).base (c := w.heap.size) (by simp))
  have HB := Lib.hid (((Below.refl _ w).alloc (Nat.le_refl _) (.cells #[.map (some bn)] 58)).trans (hb.mono (by simp)))
  clear hrow hb hk hlen HS HK hp
  go_wp2
  go_ret
  exact ⟨v, rfl, HO.out, HB.out⟩

/-! ### children -/
abbrev NameQ : Type := { s : QT.Str // s.length ≤ 1099511627776 }
instance : Inhabited NameQ := ⟨⟨[], Nat.zero_le _⟩⟩
def encQ (x : NameQ) : Value := .string (str x.1)
/-- The node that the map tells. -/
def QT.at0 (N : List QT.Nd) (s : QT.Str) : QT.Nd := (QT.fnd QT.Nd.nm N s).getD ⟨[], [], 0, 0, 0, 0, 0, 0⟩
theorem zNd_eq : zNd = vNd ⟨[], [], 0, 0, 0, 0, 0, 0⟩ := by
  have e : FL.fB 0 = 0 := FL.fI_zero
  simp only [zNd, vNd, e]
  rfl
theorem MapD.at0 {w : World} {b n : Nat} {N : List QT.Nd} (h : MapD QT.Nd.nm vNd true w b n N) (s : QT.Str) (hs : s.length ≤ 1099511627776) :
    (Instr.lookup 58 (.map (some b)) (.string (str s)) false).run Tryz.prog w = .ok (vNd (QT.at0 N s)) w := by
  rw [h.look Tryz.underlying58 (zeroNd _) ⟨_, zNd_val⟩ s hs]
  unfold QT.at0
  cases QT.fnd QT.Nd.nm N s with
  | none => rw [Option.map_none, Option.getD_none, Option.getD_none, zNd_eq]
  | some y => rfl
theorem fldN1 (y : QT.Nd) : ∀ w : World, (Instr.field 43 (.agg #[.string (str y.nm), .string (str y.pr), .complex .f64 (FL.fB y.o1) (FL.fB y.o2), .complex .f64 (FL.fB y.b1) (FL.fB y.b2), .complex .f64 (FL.fB y.l1) (FL.fB y.l2)]) 1).run Tryz.prog w = .ok (.string (str y.pr)) w := fun _ => by kernel_rfl
theorem fldN2 (y : QT.Nd) : ∀ w : World, (Instr.field 43 (.agg #[.string (str y.nm), .string (str y.pr), .complex .f64 (FL.fB y.o1) (FL.fB y.o2), .complex .f64 (FL.fB y.b1) (FL.fB y.b2), .complex .f64 (FL.fB y.l1) (FL.fB y.l2)]) 2).run Tryz.prog w = .ok (.complex .f64 (FL.fB y.o1) (FL.fB y.o2)) w := fun _ => by kernel_rfl
theorem fldN3 (y : QT.Nd) : ∀ w : World, (Instr.field 43 (.agg #[.string (str y.nm), .string (str y.pr), .complex .f64 (FL.fB y.o1) (FL.fB y.o2), .complex .f64 (FL.fB y.b1) (FL.fB y.b2), .complex .f64 (FL.fB y.l1) (FL.fB y.l2)]) 3).run Tryz.prog w = .ok (.complex .f64 (FL.fB y.b1) (FL.fB y.b2)) w := fun _ => by kernel_rfl
theorem fldN4 (y : QT.Nd) : ∀ w : World, (Instr.field 43 (.agg #[.string (str y.nm), .string (str y.pr), .complex .f64 (FL.fB y.o1) (FL.fB y.o2), .complex .f64 (FL.fB y.b1) (FL.fB y.b2), .complex .f64 (FL.fB y.l1) (FL.fB y.l2)]) 4).run Tryz.prog w = .ok (.complex .f64 (FL.fB y.l1) (FL.fB y.l2)) w := fun _ => by kernel_rfl
set_option maxHeartbeats 1000000 in
theorem kid_gives (T BT BN bn n : Nat) (N : List QT.Nd) (name x : QT.Str) (hx : x.length ≤ 1099511627776) (W : World) (h1 : W.cell? ⟨BT, 0, none⟩ = some (.pointer (some ⟨T, 0, none⟩))) (h2 : W.cell? ⟨BN, 0, none⟩ = some (.string (str name)))
    (h3 : W.cell? ⟨T, 0, none⟩ = some (.map (some bn))) (hM : MapD QT.Nd.nm vNd true W bn n N) :
    Calls Tryz.prog 78 #[.string (str x), .pointer (some ⟨BT, 0, none⟩), .pointer (some ⟨BN, 0, none⟩)] W fun e w' => e = .returned (.bool (!((QT.at0 N x).pr == name))) ∧ ∃ q, w' = W.drewN q := by
  have hl := MapD.at0 (hM.below (Below.refl _ _).drew) x hx
  obtain ⟨y, hy⟩ : ∃ y, y = QT.at0 N x := ⟨_, rfl⟩
  rw [← hy] at hl ⊢
  rw [vNd] at hl
  have S0 : (W.drew.cell? ⟨BT, 0, none⟩ = some (.pointer (some ⟨T, 0, none⟩)) ∧ W.drew.cell? ⟨BN, 0, none⟩ = some (.string (str name)) ∧ W.drew.cell? ⟨T, 0, none⟩ = some (.map (some bn)) ∧ (Instr.lookup 58 (.map (some bn)) (.string (str x)) false).run Tryz.prog W.drew = .ok (.agg #[.string (str y.nm), .string (str y.pr), .complex .f64 (FL.fB y.o1) (FL.fB y.o2), .complex .f64 (FL.fB y.b1) (FL.fB y.b2), .complex .f64 (FL.fB y.l1) (FL.fB y.l2)]) W.drew) := ⟨h1, h2, h3, hl⟩
  obtain ⟨q, hq⟩ : ∃ q, q = (y.pr == name) := ⟨_, rfl⟩
  have ht : ((str y.pr).toList == (str name).toList) = q := by rw [str_toList, str_toList, hq]
  rw [← hq]
  have hf1 := fldN1 y
  clear hM hy hq hl
  go_enter Tryz.func78, Tryz.ntmps78
  go_wp2_with fail
  refine wp_region_noPanic ?_
  refine wp_region_held_drew (S := fun V => (V.cell? ⟨BT, 0, none⟩ = some (.pointer (some ⟨T, 0, none⟩)) ∧ V.cell? ⟨BN, 0, none⟩ = some (.string (str name)) ∧ V.cell? ⟨T, 0, none⟩ = some (.map (some bn)) ∧ (Instr.lookup 58 (.map (some bn)) (.string (str x)) false).run Tryz.prog V = .ok (.agg #[.string (str y.nm), .string (str y.pr), .complex .f64 (FL.fB y.o1) (FL.fB y.o2), .complex .f64 (FL.fB y.b1) (FL.fB y.b2), .complex .f64 (FL.fB y.l1) (FL.fB y.l2)]) V)) (by kernel_rfl) S0 (fun hHeld => ?_)
  refine wpAnyH_take (i := 0) (v := ?hv0) (List.getElem?_toArray.trans rfl) (by kernel_rfl) (by kernel_rfl) (by kernel_rfl) (fun _ _ _ h => h) (Or.inl ⟨by rfl, ?hy0⟩) (by assumption) ?hr0
  case hy0 => (intro wt hSw; (try dsimp only at hSw); go_simp; try (with_reducible rfl))
  try simp only [Act.put, List.setIfInBounds_toArray, List.set_cons_zero, List.set_cons_succ]
  refine wpAnyH_take (i := 1) (v := ?hv1) (List.getElem?_toArray.trans rfl) (by kernel_rfl) (by kernel_rfl) (by kernel_rfl) (fun _ _ _ h => h) (Or.inl ⟨by rfl, ?hy1⟩) (by assumption) ?hr1
  case hy1 => (intro wt hSw; (try dsimp only at hSw); go_simp; try (with_reducible rfl))
  try simp only [Act.put, List.setIfInBounds_toArray, List.set_cons_zero, List.set_cons_succ]
  refine wpAnyH_take (i := 2) (v := ?hv2) (List.getElem?_toArray.trans rfl) (by kernel_rfl) (by kernel_rfl) (by kernel_rfl) (fun _ _ _ h => h) (Or.inl ⟨by rfl, ?hy2⟩) (by assumption) ?hr2
  case hy2 => (intro wt hSw; (try dsimp only at hSw); go_simp; try (with_reducible rfl))
  try simp only [Act.put, List.setIfInBounds_toArray, List.set_cons_zero, List.set_cons_succ]
  refine wpAnyH_take (i := 3) (v := ?hv3) (List.getElem?_toArray.trans rfl) (by kernel_rfl) (by kernel_rfl) (by kernel_rfl) (fun _ _ _ h => h) (Or.inl ⟨by rfl, ?hy3⟩) (by assumption) ?hr3
  case hy3 => (intro wt hSw; (try dsimp only at hSw); go_simp; try (with_reducible rfl))
  try simp only [Act.put, List.setIfInBounds_toArray, List.set_cons_zero, List.set_cons_succ]
  refine wpAnyH_take (i := 4) (v := ?hv4) (List.getElem?_toArray.trans rfl) (by kernel_rfl) (by kernel_rfl) (by kernel_rfl) (fun _ _ _ h => h) (Or.inl ⟨by rfl, ?hy4⟩) (by assumption) ?hr4
  case hy4 => (intro wt hSw; (try dsimp only at hSw); go_simp; try (with_reducible rfl))
  try simp only [Act.put, List.setIfInBounds_toArray, List.set_cons_zero, List.set_cons_succ]
  refine wpAnyH_take (i := 5) (v := ?hv5) (List.getElem?_toArray.trans rfl) (by kernel_rfl) (by kernel_rfl) (by kernel_rfl) (fun _ _ _ h => h) (Or.inl ⟨by rfl, ?hy5⟩) (by assumption) ?hr5
  case hy5 => (intro wt hSw; (try dsimp only at hSw); go_simp; try (with_reducible rfl))
  try simp only [Act.put, List.setIfInBounds_toArray, List.set_cons_zero, List.set_cons_succ]
  refine wpAnyH_take (i := 6) (v := ?hv6) (List.getElem?_toArray.trans rfl) (by kernel_rfl) (by kernel_rfl) (by kernel_rfl) (fun _ _ _ h => h) (Or.inl ⟨by rfl, ?hy6⟩) (by assumption) ?hr6
  case hy6 => (intro wt hSw; (try dsimp only at hSw); go_simp; try (with_reducible rfl))
  try simp only [Act.put, List.setIfInBounds_toArray, List.set_cons_zero, List.set_cons_succ]
  refine wpAnyH_take (i := 7) (v := ?hv7) (List.getElem?_toArray.trans rfl) (by kernel_rfl) (by kernel_rfl) (by kernel_rfl) (fun _ _ _ h => h) (Or.inl ⟨by rfl, ?hy7⟩) (by assumption) ?hr7
  case hy7 => (intro wt hSw; (try dsimp only at hSw); go_simp; try (with_reducible rfl))
  try simp only [Act.put, List.setIfInBounds_toArray, List.set_cons_zero, List.set_cons_succ]
  refine wpAnyH_take (i := 8) (v := ?hv8) (List.getElem?_toArray.trans rfl) (by kernel_rfl) (by kernel_rfl) (by kernel_rfl) (fun _ _ _ h => h) (Or.inl ⟨by rfl, ?hy8⟩) (by assumption) ?hr8
  case hy8 => (intro wt hSw; (try dsimp only at hSw); go_simp; try (with_reducible rfl))
  try simp only [Act.put, List.setIfInBounds_toArray, List.set_cons_zero, List.set_cons_succ]
  refine wpAnyH_take (i := 9) (v := ?hv9) (List.getElem?_toArray.trans rfl) (by kernel_rfl) (by kernel_rfl) (by kernel_rfl) (fun _ _ _ h => h) (Or.inl ⟨by rfl, ?hy9⟩) (by assumption) ?hr9
  case hy9 => (intro wt hSw; (try dsimp only at hSw); go_simp; try (with_reducible rfl))
  try simp only [Act.put, List.setIfInBounds_toArray, List.set_cons_zero, List.set_cons_succ]
  refine wpAnyH_done (by kernel_rfl) ?_ _
  refine NoPanic.normal ?_
  go_wp2
  go_ret
  exact ⟨rfl, 1, rfl⟩
end Go.Proofs.YtflghelhdalhiaaGreatDoor
