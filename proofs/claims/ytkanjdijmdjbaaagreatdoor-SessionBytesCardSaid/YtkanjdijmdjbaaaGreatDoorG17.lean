/-
  The program's asked, holds and fits, by contracts.
  Conditions: a full tree (FullQ); for asked and holds: it fits.
  The program's fits, by a contract.
  Conditions: a full tree (FullQ).
-/
import Derived.Test.YtkanjdijmdjbaaaGreatDoorG16
import Derived.Test.YtkanjdijmdjbaaaGreatDoorG4
namespace Go.Proofs.YtkanjdijmdjbaaaGreatDoor
open Go Go.RowKit

theorem QT.SI_take_succ {α : Type} {L : List α} {j : Nat} {x : α} (h : L[j]? = some x) (F : α → Int) : QT.SI (L.take (j + 1)) F = QT.SI (L.take j) F + F x := by
  rw [List.take_add_one, h, QT.SI_append]
  simp [QT.SI]
set_option maxRecDepth 100000 in
set_option maxHeartbeats 8000000 in
/-- asked. -/
theorem asked_any (N : List QT.Nd) (U : List QT.Us) (hF : FullQ N U) (hfit : QT.fitsB N U = true) (T bn bu n m : Nat) (t : QT.Nd) (w : World) (hT : TreeQ w T bn bu n m N U) :
    Calls Tryz.prog 99 #[.pointer (some ⟨T, 0, none⟩), .string (str t.nm)] w fun e w' => e = .returned (.complex .f64 (FL.fI (QT.asked1 N U t.nm)) (FL.fI (QT.asked2 N U t.nm))) ∧ Below w.heap.size w w' := by
  have HC := Lib.hid (fun (c : QT.Nd) (V : World) (hc : c ∈ QT.kidsN N t.nm) (b : Below w.heap.size w V) => claim_any N U hF T bn bu n m c V (QT.kidsN_mem hc).1 (hT.below b))
  have HH := Lib.hid (here_any T bn bu n m N U t.nm w hT hF.rise.good)
  have HK := Lib.hid (fun (V : World) (b : Below w.heap.size w V) => children_any T bn bu n m N U t.nm V (hT.below b) hF.rise)
  obtain ⟨C, hC⟩ : ∃ C, C = QT.kidsN N t.nm := ⟨_, rfl⟩
  have hCl : C.length ≤ 256 := by rw [hC]; exact Nat.le_trans (List.length_filter_le _ _) hF.rise.lN
  have hCi : (C.length : Int) ≤ 281474976710656 := by omega
  obtain ⟨h1, eh1⟩ : ∃ z, z = QT.here U QT.Us.a1 t.nm := ⟨_, rfl⟩
  obtain ⟨h2, eh2⟩ : ∃ z, z = QT.here U QT.Us.a2 t.nm := ⟨_, rfl⟩
  have e1 : QT.asked1 N U t.nm = (h1 : Int) + QT.SI C (QT.claim1 N U) := by rw [hC, eh1]; rfl
  have e2 : QT.asked2 N U t.nm = (h2 : Int) + QT.SI C (QT.claim2 N U) := by rw [hC, eh2]; rfl
  have b1 : h1 ≤ 1125899906842624 := by
    have := QT.S_bound (l := U.filter fun u => u.nd == t.nm) (F := QT.Us.a1) (B := 1099511627776) (fun x hx => (hF.rise.fU x (List.mem_filter.1 hx).1).2.1)
    have l1 := List.length_filter_le (fun u => u.nd == t.nm) U
    have l2 := Nat.mul_le_mul_right 1099511627776 (Nat.le_trans l1 hF.rise.lU)
    rw [eh1]; unfold QT.here; omega
  have b2 : h2 ≤ 1125899906842624 := by
    have := QT.S_bound (l := U.filter fun u => u.nd == t.nm) (F := QT.Us.a2) (B := 1099511627776) (fun x hx => (hF.rise.fU x (List.mem_filter.1 hx).1).2.2)
    have l1 := List.length_filter_le (fun u => u.nd == t.nm) U
    have l2 := Nat.mul_le_mul_right 1099511627776 (Nat.le_trans l1 hF.rise.lU)
    rw [eh2]; unfold QT.here; omega
  have hcl : ∀ c ∈ C, (QT.claim1 N U c).natAbs ≤ 1099511627776 ∧ (QT.claim2 N U c).natAbs ≤ 1099511627776 := fun c hc => by
    rw [hC] at hc
    have hcN := (QT.kidsN_mem hc).1
    exact QT.claim_le hfit hcN ⟨(hF.rise.fN c hcN).2.2.2.2.2.1, (hF.rise.fN c hcN).2.2.2.2.2.2⟩
  obtain ⟨P1, hP1⟩ : ∃ P : Nat → Int, P = fun j => (h1 : Int) + QT.SI (C.take j) (QT.claim1 N U) := ⟨_, rfl⟩
  obtain ⟨P2, hP2⟩ : ∃ P : Nat → Int, P = fun j => (h2 : Int) + QT.SI (C.take j) (QT.claim2 N U) := ⟨_, rfl⟩
  have HB : Hid (∀ j, W53 (P1 j) ∧ W53 (P2 j)) := Lib.hid (fun j => by
    have s1 := QT.SI_bound (l := C.take j) (F := QT.claim1 N U) (B := 1099511627776) (fun c hc => (hcl c (List.mem_of_mem_take hc)).1)
    have s2 := QT.SI_bound (l := C.take j) (F := QT.claim2 N U) (B := 1099511627776) (fun c hc => (hcl c (List.mem_of_mem_take hc)).2)
    have l1 : (C.take j).length ≤ 256 := Nat.le_trans (List.length_take_le' _ _) hCl
    have l2 := Nat.mul_le_mul_right 1099511627776 l1
    rw [hP1, hP2]
    unfold W53
    simp only
    omega)
  have HS : Hid (∀ j c, C[j]? = some c → P1 (j + 1) = P1 j + QT.claim1 N U c ∧ P2 (j + 1) = P2 j + QT.claim2 N U c) := Lib.hid (fun j c h => by
    rw [hP1, hP2]
    simp only
    rw [QT.SI_take_succ h, QT.SI_take_succ h]
    omega)
  have HE : Hid (P1 C.length = QT.asked1 N U t.nm ∧ P2 C.length = QT.asked2 N U t.nm) := Lib.hid (by
    rw [hP1, hP2, e1, e2]
    simp only [List.take_length, and_self])
  have HZ : Hid (P1 0 = (h1 : Int) ∧ P2 0 = (h2 : Int)) := Lib.hid (by
    rw [hP1, hP2]
    simp [QT.SI])
  have hlen : QT.kids N t.nm = C.map QT.Nd.nm := by rw [hC]; rfl
  rw [hlen] at HK
  rw [← eh1, ← eh2] at HH
  have HCm : Hid (∀ j c, C[j]? = some c → c ∈ QT.kidsN N t.nm) := Lib.hid (fun j c h => by rw [← hC]; exact List.mem_of_getElem? h)
  have HCb : Hid (∀ j c, C[j]? = some c → W53 (QT.claim1 N U c) ∧ W53 (QT.claim2 N U c)) := Lib.hid (fun j c h => by
    have := hcl c (List.mem_of_getElem? h)
    unfold W53
    omega)
  clear hlen hCl hC hT hF hfit e1 e2 eh1 eh2 b1 b2 hcl hP1 hP2
  go_enter Tryz.func99, Tryz.ntmps99
  go_wp2_with fail
  refine HH.out.mono ?_
  rintro e v1 ⟨rfl, b1⟩
  have HK1 := Lib.hid (HK.out v1 b1)
  have B1 := Lib.hid b1
  clear b1 HH HK
  go_wp2_with fail
  refine HK1.out.mono ?_
  rintro e v2 ⟨v, rfl, hO, b2⟩
  obtain ⟨a, c, rfl, hat⟩ := hO.at
  rw [List.length_map]
  have B2 := Lib.hid (B1.out.trans (b2.mono B1.out.size))
  have HA := Lib.hid hat
  clear hO b2 HK1 B1 hat
  go_wp2_with fail
  go_loopw [5, 15] (fun v5 v15 V => ∃ j : Nat, j ≤ C.length ∧ v15 = .int .i64 j ∧ v5 = .complex .f64 (FL.fI (P1 j)) (FL.fI (P2 j)) ∧ Hid (Below w.heap.size w V) ∧ Hid (Below v2.heap.size v2 V)) (fun _ v _ => C.length - (intOf v).toNat)
  case atStart => exact ⟨0, Nat.zero_le _, rfl, by rw [HZ.out.1, HZ.out.2]; rfl, B2, Lib.hid (Below.refl _ _)⟩
  case round =>
    obtain ⟨j, hj, rfl, rfl, Bj, Vj⟩ := hrel
    clear HZ B2
    by_cases hlt : j < C.length
    · have h1 : (j : Int) < (C.length : Int) := by omega
      obtain ⟨x, hx⟩ : ∃ x, C[j]? = some x := ⟨_, List.getElem?_eq_getElem hlt⟩
      obtain ⟨g, ea, hc⟩ := HA.out j x.nm (by rw [List.getElem?_map, hx]; rfl)
      subst ea
      have hc2 := (World.cell?_of_block (a := ⟨g, j, none⟩) (Vj.out.block g (World.block_lt_of_cell? _ _ hc))).trans hc
      have HI := Lib.hid (HC.out x wr (HCm.out j x hx) Bj.out)
      obtain ⟨s1, s2⟩ := HS.out j x hx
      have A1 : ∀ V : World, (binOp .add 43 (.complex .f64 (FL.fI (P1 j)) (FL.fI (P2 j))) (.complex .f64 (FL.fI (QT.claim1 N U x)) (FL.fI (QT.claim2 N U x)))).run Tryz.prog V = .ok (.complex .f64 (FL.fI (P1 (j + 1))) (FL.fI (P2 (j + 1)))) V := fun V => by
        have d := HB.out (j + 1)
        rw [s1, s2] at d ⊢
        exact run_cadd _ _ _ _ _ V (HB.out j).1 (HB.out j).2 (HCb.out j x hx).1 (HCb.out j x hx).2 d.1 d.2
      clear s1 s2 hx hc
      generalize QT.claim1 N U x = X1 at *
      generalize QT.claim2 N U x = X2 at *
      go_wp2_with fail
      refine HI.out.mono ?_
      rintro e w5 ⟨rfl, b5⟩
      have B5 := Lib.hid (Bj.out.trans (b5.mono Bj.out.size))
      have V5 := Lib.hid (Vj.out.trans (b5.mono Vj.out.size))
      clear b5 HI
      go_wp2
      exact ⟨⟨j + 1, hlt, by simp, rfl, B5, V5⟩, by simp [intOf]; omega⟩
    · obtain rfl : j = C.length := by omega
      go_wp2
      go_ret
      exact ⟨by rw [← HE.out.1, ← HE.out.2]; rfl, Bj.out⟩
/-- Claimed amounts and limits are small where the tree fits. -/
theorem FullQ.small {N : List QT.Nd} {U : List QT.Us} (hF : FullQ N U) (hfit : QT.fitsB N U = true) {t : QT.Nd} (ht : t ∈ N) : (W53 (QT.asked1 N U t.nm) ∧ W53 (QT.asked2 N U t.nm)) ∧ W53 (QT.limit1 N t) ∧ W53 (QT.limit2 N t) := by
  have hcl : ∀ c ∈ QT.kidsN N t.nm, (QT.claim1 N U c).natAbs ≤ 1099511627776 ∧ (QT.claim2 N U c).natAbs ≤ 1099511627776 := fun c hc => by
    have hcN := (QT.kidsN_mem hc).1
    exact QT.claim_le hfit hcN ⟨(hF.rise.fN c hcN).2.2.2.2.2.1, (hF.rise.fN c hcN).2.2.2.2.2.2⟩
  have s1 := QT.SI_bound (l := QT.kidsN N t.nm) (F := QT.claim1 N U) (B := 1099511627776) (fun c hc => (hcl c hc).1)
  have s2 := QT.SI_bound (l := QT.kidsN N t.nm) (F := QT.claim2 N U) (B := 1099511627776) (fun c hc => (hcl c hc).2)
  have l1 : (QT.kidsN N t.nm).length ≤ 256 := Nat.le_trans (List.length_filter_le _ _) hF.rise.lN
  have l2 := Nat.mul_le_mul_right 1099511627776 l1
  have q1 := QT.S_bound (l := U.filter fun u => u.nd == t.nm) (F := QT.Us.a1) (B := 1099511627776) (fun x hx => (hF.rise.fU x (List.mem_filter.1 hx).1).2.1)
  have q2 := QT.S_bound (l := U.filter fun u => u.nd == t.nm) (F := QT.Us.a2) (B := 1099511627776) (fun x hx => (hF.rise.fU x (List.mem_filter.1 hx).1).2.2)
  have l3 := List.length_filter_le (fun u => u.nd == t.nm) U
  have l4 := Nat.mul_le_mul_right 1099511627776 (Nat.le_trans l3 hF.rise.lU)
  obtain ⟨⟨f1, f2⟩, _⟩ := QT.fits_at hfit ht
  have fb := (hF.rise.fN t ht).2.2.2
  simp only [QT.cap] at fb
  have a1 : QT.asked1 N U t.nm = (QT.S (U.filter fun u => u.nd == t.nm) QT.Us.a1 : Int) + QT.SI (QT.kidsN N t.nm) (QT.claim1 N U) := rfl
  have a2 : QT.asked2 N U t.nm = (QT.S (U.filter fun u => u.nd == t.nm) QT.Us.a2 : Int) + QT.SI (QT.kidsN N t.nm) (QT.claim2 N U) := rfl
  refine ⟨⟨?_, ?_⟩, ?_, ?_⟩
  · rw [a1]; unfold W53; omega
  · rw [a2]; unfold W53; omega
  · unfold QT.limit1 W53; split <;> omega
  · unfold QT.limit2 W53; split <;> omega
set_option maxRecDepth 100000 in
set_option maxHeartbeats 8000000 in
/-- holds. -/
theorem holds_any (N : List QT.Nd) (U : List QT.Us) (hF : FullQ N U) (hfit : QT.fitsB N U = true) (T bn bu n m : Nat) (w : World) (hT : TreeQ w T bn bu n m N U) :
    Calls Tryz.prog 52 #[.pointer (some ⟨T, 0, none⟩)] w fun e w' => e = .returned (.bool (QT.holdsB N U)) ∧ Below w.heap.size w w' := by
  obtain ⟨t0, t1, _, _⟩ := cells2 hT.tb
  have HM := Lib.hid hT.mN
  have HA := Lib.hid (fun (t : QT.Nd) (V : World) (b : Below w.heap.size w V) => asked_any N U hF hfit T bn bu n m t V (hT.below b))
  have HL := Lib.hid (fun (t : QT.Nd) (V : World) (ht : t ∈ N) (b : Below w.heap.size w V) => limit_any N U hF T bn bu n m t V ht (hT.below b))
  have HW := Lib.hid (fun (t : QT.Nd) (V : World) (ht : t ∈ N) => within_any (QT.asked1 N U t.nm) (QT.asked2 N U t.nm) (QT.limit1 N t) (QT.limit2 N t) V (hF.small hfit ht).1.1 (hF.small hfit ht).1.2 (hF.small hfit ht).2.1 (hF.small hfit ht).2.2)
  have HTlt := Lib.hid (Array.getElem?_eq_some_iff.1 hT.tb).1
  have Hf := Lib.hid (fun (t : QT.Nd) (ht : t ∈ N) => hF.rise.good.fnd ht)
  obtain ⟨okP, hok⟩ : ∃ p : QT.Nd → Bool, p = fun x => decide (QT.asked1 N U x.nm ≤ QT.limit1 N x) && decide (QT.asked2 N U x.nm ≤ QT.limit2 N x) := ⟨_, rfl⟩
  have HOK := Lib.hid (fun x => congrFun hok x)
  have HHB := Lib.hid (show QT.holdsB N U = N.all okP from by rw [hok]; rfl)
  clear hT hF hfit hok
  go_enter Tryz.func52, Tryz.ntmps52
  go_wp2_with (at_range; refine wpList_rangeG rfl _ rfl Tryz.underlying118 HM.out rfl ?_; intro w0 hrg0 hb0 hs0; have Hrg0 := Lib.hid hrg0; have Hb0 := Lib.hid hb0; clear hrg0 hb0 hs0)
  go_frame
  clear t0 t1
  go_loopw [2] (fun _ V => ∃ (left : QT.Str → Bool) (cnt : Nat), Hid (RangeG QT.Nd.nm vNd V bn w.heap.size n N left cnt) ∧ Hid (∀ x ∈ N, left x.nm = false → okP x = true) ∧ Hid (Below w.heap.size w V)) (fun _ V => V.rangeLeft bn w.heap.size)
  case atStart => exact ⟨_, _, Hrg0, Lib.hid (fun x hx h => by rw [Hf.out x hx] at h; cases h), Hb0⟩
  case round =>
    obtain ⟨left, cnt, Hrg, Hp, Hb⟩ := hrel
    clear Hrg0 Hb0
    go_wp2_with (at_next; refine wpList_nextG rfl _ rfl Hrg.out rfl ?_ ?_)
    · intro _ hl0
      have hr := Lib.hid (show QT.holdsB N U = true from by rw [HHB.out, List.all_eq_true]; exact fun x hx => Hp.out x hx (hl0 x.nm))
      clear hl0
      go_wp2
      go_ret
      exact ⟨by rw [hr.out]; rfl, Hb.out⟩
    · intro x w1 cnt1 hx hfx hlx hrg1 hlt hg1 hs1 hen
      rw [vNd] at hen ⊢
      have Hb1 : Hid (Below w.heap.size w w1) := Lib.hid (Hb.out.trans ⟨hg1.os, hg1.tape, hg1.output, hg1.size, fun q hq => hg1.block q (Nat.lt_of_lt_of_le hq Hb.out.size) (by omega)⟩)
      have HA1 := Lib.hid (HA.out x w1 Hb1.out)
      have HL1 := Lib.hid (fun (V : World) (b : Below w.heap.size w V) => HL.out x V hx b)
      have HW1 := Lib.hid (fun V : World => HW.out x V hx)
      rw [← HOK.out x] at HW1
      have Hno := Lib.hid (fun h : okP x = false => show QT.holdsB N U = false from by rw [HHB.out]; exact QT.all_no hx h)
      have Hne := Lib.hid (fun h : okP x = true => show ∀ y ∈ N, (left y.nm && !(y.nm == x.nm)) = false → okP y = true from fun y hy e => by
        by_cases q : y.nm = x.nm
        · have h1 := Hf.out y hy
          rw [q, Hf.out x hx] at h1
          injection h1 with h1
          rw [← h1]; exact h
        · have : (y.nm == x.nm) = false := by simpa using q
          rw [this] at e
          exact Hp.out y hy (by simpa using e))
      have Hrg1 := Lib.hid hrg1
      have Hrgb := Lib.hid (fun (V : World) (b : Below w1.heap.size w1 V) => And.intro (Hrg1.out.below b) (show V.rangeLeft bn w.heap.size < wr.rangeLeft bn w.heap.size from by rw [(Hrg1.out.below b).left_eq, Hrg.out.left_eq]; exact hlt))
      clear hrg1 hlt hg1 hs1 hfx hlx hx Hrg1 Hp
      generalize QT.asked1 N U x.nm = A1 at *
      generalize QT.asked2 N U x.nm = A2 at *
      generalize QT.limit1 N x = L1 at *
      generalize QT.limit2 N x = L2 at *
      go_wp2_with fail
      refine HA1.out.mono ?_
      rintro e w2 ⟨rfl, b2⟩
      have B2 := Lib.hid (Hb1.out.trans (b2.mono Hb1.out.size))
      have V2 := Lib.hid b2
      have HL2 := Lib.hid (HL1.out w2 B2.out)
      clear b2 HA1 HL1
      go_wp2_with fail
      refine HL2.out.mono ?_
      rintro e w3 ⟨rfl, b3⟩
      have B3 := Lib.hid (B2.out.trans (b3.mono B2.out.size))
      have V3 := Lib.hid (V2.out.trans (b3.mono V2.out.size))
      clear b3 HL2 V2 B2
      go_wp2_with fail
      refine (HW1.out w3).mono ?_
      rintro e w4 ⟨rfl, rfl⟩
      clear HW1
      cases hq : okP x with
      | true =>
        have HN := Lib.hid (Hne.out hq)
        have HV := Lib.hid (Hrgb.out w3 V3.out)
        clear hq Hne Hno Hrgb
        go_wp2
        exact ⟨⟨_, cnt1, Lib.hid HV.out.1, HN, B3⟩, HV.out.2⟩
      | false =>
        have HN := Lib.hid (Hno.out hq)
        clear hq Hne Hno Hrgb
        go_wp2
        go_ret
        exact ⟨by rw [HN.out]; rfl, B3.out⟩
theorem FullQ.fits_roots {N : List QT.Nd} {U : List QT.Us} (hF : FullQ N U) (h : ∀ r ∈ QT.kidsN N [], (QT.fitT N r && QT.fitU N U r) = true) : QT.fitsB N U = true := by
  have hr : ∀ r ∈ N, r.pr = [] → (QT.Total N QT.Nd.o1 r.nm ≤ 1099511627776 ∧ QT.Total N QT.Nd.o2 r.nm ≤ 1099511627776) ∧ QT.Used N U QT.Us.a1 r.nm ≤ 1099511627776 ∧ QT.Used N U QT.Us.a2 r.nm ≤ 1099511627776 := fun r hr hp => by
    have := h r (List.mem_filter.2 ⟨hr, by simpa using hp⟩)
    rw [Bool.and_eq_true] at this
    exact ⟨of_decide_eq_true this.1, of_decide_eq_true this.2⟩
  have h1 := (QT.fits_eq hF.uniq hF.root U hF.have_ QT.Nd.o1 QT.Us.a1 1099511627776).1 (fun r a b => ⟨(hr r a b).1.1, (hr r a b).2.1⟩)
  have h2 := (QT.fits_eq hF.uniq hF.root U hF.have_ QT.Nd.o2 QT.Us.a2 1099511627776).1 (fun r a b => ⟨(hr r a b).1.2, (hr r a b).2.2⟩)
  unfold QT.fitsB
  rw [List.all_eq_true]
  intro x hx
  rw [Bool.and_eq_true]
  exact ⟨decide_eq_true ⟨(h1 x hx).1, (h2 x hx).1⟩, decide_eq_true ⟨(h1 x hx).2, (h2 x hx).2⟩⟩
set_option maxRecDepth 100000 in
set_option maxHeartbeats 8000000 in
/-- fits. -/
theorem fits_any (N : List QT.Nd) (U : List QT.Us) (hF : FullQ N U) (T bn bu n m : Nat) (w : World) (hT : TreeQ w T bn bu n m N U) :
    Calls Tryz.prog 51 #[.pointer (some ⟨T, 0, none⟩)] w fun e w' => e = .returned (.bool (QT.fitsB N U)) ∧ Below w.heap.size w w' := by
  have HS := Lib.hid (fun (c : QT.Nd) (V : World) (hc : c ∈ N) (b : Below w.heap.size w V) => sums_any N U hF T bn bu n m (N.length + 1) c V hc (by omega) (hT.below b))
  have HK := Lib.hid (children_any T bn bu n m N U [] w hT hF.rise)
  obtain ⟨C, hC⟩ : ∃ C, C = QT.kidsN N [] := ⟨_, rfl⟩
  have hCl : C.length ≤ 256 := by rw [hC]; exact Nat.le_trans (List.length_filter_le _ _) hF.rise.lN
  have hCi : (C.length : Int) ≤ 281474976710656 := by omega
  have hlen : QT.kids N [] = C.map QT.Nd.nm := by rw [hC]; rfl
  rw [hlen] at HK
  have HCm : Hid (∀ j c, C[j]? = some c → c ∈ N) := Lib.hid (fun j c h => (QT.kidsN_mem (by rw [← hC]; exact List.mem_of_getElem? h)).1)
  have HBt := Lib.hid (fun (s : QT.Str) => show (QT.Total N QT.Nd.o1 s < 9007199254740992 ∧ QT.Total N QT.Nd.o2 s < 9007199254740992) ∧ QT.Used N U QT.Us.a1 s < 9007199254740992 ∧ QT.Used N U QT.Us.a2 s < 9007199254740992 from by
    have b1 := QT.total_bound N QT.Nd.o1 s (B := 1099511627776) (fun y hy => (hF.rise.fN y hy).2.1)
    have b2 := QT.total_bound N QT.Nd.o2 s (B := 1099511627776) (fun y hy => (hF.rise.fN y hy).2.2.1)
    have b3 := QT.used_bound N U QT.Us.a1 s (B := 1099511627776) (fun y hy => (hF.rise.fU y hy).2.1)
    have b4 := QT.used_bound N U QT.Us.a2 s (B := 1099511627776) (fun y hy => (hF.rise.fU y hy).2.2)
    have lN := Nat.mul_le_mul_right 1099511627776 hF.rise.lN
    have lU := Nat.mul_le_mul_right 1099511627776 hF.rise.lU
    omega)
  have HM := Lib.hid (fun (s : QT.Str) (V : World) => And.intro (mayQ_any (QT.Total N QT.Nd.o1 s) (QT.Total N QT.Nd.o2 s) V (HBt.out s).1.1 (HBt.out s).1.2) (mayQ_any (QT.Used N U QT.Us.a1 s) (QT.Used N U QT.Us.a2 s) V (HBt.out s).2.1 (HBt.out s).2.2))
  have Hyes : Hid ((∀ j c, j < C.length → C[j]? = some c → (QT.fitT N c && QT.fitU N U c) = true) → QT.fitsB N U = true) := Lib.hid (fun h => hF.fits_roots (fun r hr => by
    rw [← hC] at hr
    obtain ⟨j, hj, rfl⟩ := List.getElem_of_mem hr
    exact h j _ hj (List.getElem?_eq_getElem hj)))
  have Hno : Hid (∀ j c, C[j]? = some c → (QT.fitT N c && QT.fitU N U c) = false → QT.fitsB N U = false) := Lib.hid (fun j c h e => QT.all_no (HCm.out j c h) e)
  clear hlen hCl hC hT hF HBt
  go_enter Tryz.func51, Tryz.ntmps51
  go_wp2_with fail
  refine HK.out.mono ?_
  rintro e v2 ⟨v, rfl, hO, b2⟩
  obtain ⟨a, c, rfl, hat⟩ := hO.at
  rw [List.length_map]
  have B2 := Lib.hid b2
  have HA := Lib.hid hat
  clear hO b2 HK hat
  go_wp2_with fail
  go_loopw [10] (fun v10 V => ∃ j : Nat, j ≤ C.length ∧ v10 = .int .i64 j ∧ Hid (∀ q c, q < j → C[q]? = some c → (QT.fitT N c && QT.fitU N U c) = true) ∧ Hid (Below w.heap.size w V) ∧ Hid (Below v2.heap.size v2 V)) (fun v _ => C.length - (intOf v).toNat)
  case atStart => exact ⟨0, Nat.zero_le _, rfl, Lib.hid (fun q c h => by omega), B2, Lib.hid (Below.refl _ _)⟩
  case round =>
    obtain ⟨j, hj, rfl, Hp, Bj, Vj⟩ := hrel
    clear B2
    by_cases hlt : j < C.length
    · have h1 : (j : Int) < (C.length : Int) := by omega
      obtain ⟨x, hx⟩ : ∃ x, C[j]? = some x := ⟨_, List.getElem?_eq_getElem hlt⟩
      obtain ⟨g, ea, hc⟩ := HA.out j x.nm (by rw [List.getElem?_map, hx]; rfl)
      subst ea
      have hc2 := (World.cell?_of_block (a := ⟨g, j, none⟩) (Vj.out.block g (World.block_lt_of_cell? _ _ hc))).trans hc
      have HI := Lib.hid (HS.out x wr (HCm.out j x hx) Bj.out)
      have HM1 := Lib.hid (fun V : World => (HM.out x.nm V).1)
      have HM2 := Lib.hid (fun V : World => (HM.out x.nm V).2)
      have eT : QT.fitT N x = decide (QT.Total N QT.Nd.o1 x.nm ≤ 1099511627776 ∧ QT.Total N QT.Nd.o2 x.nm ≤ 1099511627776) := rfl
      have eU : QT.fitU N U x = decide (QT.Used N U QT.Us.a1 x.nm ≤ 1099511627776 ∧ QT.Used N U QT.Us.a2 x.nm ≤ 1099511627776) := rfl
      rw [← eT] at HM1
      rw [← eU] at HM2
      have Hn := Lib.hid (Hno.out j x hx)
      have Hy := Lib.hid (fun h : (QT.fitT N x && QT.fitU N U x) = true => show ∀ q c, q < j + 1 → C[q]? = some c → (QT.fitT N c && QT.fitU N U c) = true from fun q c hq hcq => by
        by_cases e : q = j
        · subst e; rw [hx] at hcq; cases hcq; exact h
        · exact Hp.out q c (by omega) hcq)
      clear eT eU hx hc Hp
      generalize QT.Total N QT.Nd.o1 x.nm = X1 at *
      generalize QT.Total N QT.Nd.o2 x.nm = X2 at *
      generalize QT.Used N U QT.Us.a1 x.nm = X3 at *
      generalize QT.Used N U QT.Us.a2 x.nm = X4 at *
      generalize QT.fitT N x = fT at *
      generalize QT.fitU N U x = fU at *
      go_wp2_with fail
      refine HI.out.mono ?_
      rintro e w5 ⟨rfl, b5⟩
      have B5 := Lib.hid (Bj.out.trans (b5.mono Bj.out.size))
      have V5 := Lib.hid (Vj.out.trans (b5.mono Vj.out.size))
      clear b5 HI
      go_wp2_with fail
      refine (HM1.out w5).mono ?_
      rintro e w6 ⟨rfl, rfl⟩
      clear HM1
      cases fT with
      | false =>
        have hb := Lib.hid (Hn.out rfl)
        clear Hn Hy HM2
        go_wp2
        go_ret
        exact ⟨by rw [hb.out]; rfl, B5.out⟩
      | true =>
        go_wp2_with fail
        refine (HM2.out w5).mono ?_
        rintro e w6 ⟨rfl, rfl⟩
        clear HM2
        cases fU with
        | false =>
          have hb := Lib.hid (Hn.out rfl)
          clear Hn Hy
          go_wp2
          go_ret
          exact ⟨by rw [hb.out]; rfl, B5.out⟩
        | true =>
          have hb := Lib.hid (Hy.out rfl)
          clear Hn Hy
          go_wp2
          exact ⟨⟨j + 1, hlt, by simp, hb, B5, V5⟩, by simp [intOf]; omega⟩
    · obtain rfl : j = C.length := by omega
      have hb := Lib.hid (Hyes.out (fun q c hq h => Hp.out q c hq h))
      clear Hyes Hno Hp
      go_wp2
      go_ret
      exact ⟨by rw [hb.out]; rfl, Bj.out⟩
end Go.Proofs.YtkanjdijmdjbaaaGreatDoor
