/-
  The document's Holds, by a contract.
  Conditions: the slices read as nodes, at most 256, and uses, at most 1024, whose amounts are at most 2^40; the tree fits.
-/
import Derived.Test.YtkanjdijmdjbaaaGreatDoorG13
import Derived.Test.YtkanjdijmdjbaaaGreatDoorG4
namespace Go.Proofs.YtkanjdijmdjbaaaGreatDoor
open Go Go.RowKit

theorem cells5 {W : World} {B : Nat} {x0 x1 x2 x3 x4 : Value} {t : TypeId} (h : W.heap[B]? = some (.cells #[x0, x1, x2, x3, x4] t)) :
    W.cell? ⟨B, 0, none⟩ = some x0 ∧ W.cell? ⟨B, 1, none⟩ = some x1 ∧ W.cell? ⟨B, 2, none⟩ = some x2 ∧ W.cell? ⟨B, 3, none⟩ = some x3 ∧ W.cell? ⟨B, 4, none⟩ = some x4 := by simp [World.cell?, h]
set_option maxRecDepth 100000 in
set_option maxHeartbeats 16000000 in
/-- Holds. -/
theorem rholds_any (a0 : Option Addr) (n0 c0 : Nat) (a : Option Addr) (n c : Nat) (N : List QT.Nd) (L : List QT.Us) (w : World) (hM : RdsNd w (.slice a0 n0 c0) N) (hN : RdsUs w (.slice a n c) L) (hs0 : n0 ≤ 256) (hs : n ≤ 1024)
    (hf0 : ∀ x ∈ N, x.o1 ≤ 1099511627776 ∧ x.o2 ≤ 1099511627776 ∧ x.b1 ≤ 1099511627776 ∧ x.b2 ≤ 1099511627776 ∧ x.l1 ≤ 1099511627776 ∧ x.l2 ≤ 1099511627776) (hf : ∀ x ∈ L, x.a1 ≤ 1099511627776 ∧ x.a2 ≤ 1099511627776) (hfit : QT.fitsB N L = true) :
    Calls Tryz.prog 62 #[.agg #[.slice a0 n0 c0, .slice a n c]] w fun v w' => v = .returned (.bool (QT.holdsB N L)) ∧ Below w.heap.size w w' := by
  have hfo : ∀ x ∈ N, x.o1 ≤ 1099511627776 ∧ x.o2 ≤ 1099511627776 := fun x hx => ⟨(hf0 x hx).1, (hf0 x hx).2.1⟩
  have hfl : ∀ x ∈ N, x.l1 ≤ 1099511627776 ∧ x.l2 ≤ 1099511627776 := fun x hx => (hf0 x hx).2.2.2.2
  have hfb : ∀ x ∈ N, x.b1 ≤ 1099511627776 ∧ x.b2 ≤ 1099511627776 := fun x hx => ⟨(hf0 x hx).2.2.1, (hf0 x hx).2.2.2.1⟩
  have HT := Lib.hid (fun (V : World) (s : QT.Str) (b : Below w.heap.size w V) => rtotal_any a0 n0 c0 (.slice a n c) N s V (hM.below b) hs0 hfo)
  have HC := Lib.hid (fun (V : World) (x : QT.Nd) (hx : x ∈ N) (b : Below w.heap.size w V) => rclaim_any a0 n0 c0 a n c N L x V (hM.below b) (hN.below b) hs0 hs hfo hf (hfl x hx))
  have HBt := Lib.hid (fun (x : QT.Nd) (hx : x ∈ N) => (QT.fits_at hfit hx).1)
  have HBb := Lib.hid hfb
  have HBc := Lib.hid (fun (x : QT.Nd) (hx : x ∈ N) => QT.claim_le hfit hx (hfl x hx))
  have HBu := Lib.hid hf
  have l0 := Lib.hid hM.len.1
  have l1 := Lib.hid hN.len.1
  have Hs0 := Lib.hid hs0
  have Hs := Lib.hid hs
  have hn0 : (n0 : Int) ≤ 281474976710656 := by omega
  have hn : (n : Int) ≤ 281474976710656 := by omega
  have HNb := Lib.hid (fun (V : World) (b : Below w.heap.size w V) => hM.below b)
  have HUb := Lib.hid (fun (V : World) (b : Below w.heap.size w V) => hN.below b)
  obtain ⟨W, hW⟩ : ∃ W, W = w.alloc (.cells #[.slice a0 n0 c0, .slice a n c] 32) := ⟨_, rfl⟩
  have bW : Hid (Below w.heap.size w W) := by rw [hW]; exact (Below.refl _ _).alloc (Nat.le_refl _) _
  have gW : Hid (W.heap[w.heap.size]? = some (.cells #[.slice a0 n0 c0, .slice a n c] 32)) := by rw [hW]; exact heap_alloc_new _ _
  clear hM hN hs0 hs hf0 hf hfit hfo hfl hfb
  have hstc := @run_store_complex Tryz.prog
  go_enter Tryz.func62, Tryz.ntmps62
  go_wp2_with fail
  rw [← hW]
  clear hW
  go_loopw [3] (fun v V => ∃ i : Nat, i ≤ n0 ∧ v = .int .i64 i ∧ Hid (∀ (j : Nat) (x : QT.Nd), j < i → N[j]? = some x → (decide (QT.asked1 N L x.nm ≤ QT.limit1 N x) && decide (QT.asked2 N L x.nm ≤ QT.limit2 N x)) = true) ∧ Hid (Below w.heap.size w V) ∧ Hid (V.heap[w.heap.size]? = some (.cells #[.slice a0 n0 c0, .slice a n c] 32))) (fun v _ => n0 - (intOf v).toNat)
  case atStart => exact ⟨0, Nat.zero_le _, rfl, Lib.hid (fun j x hj => by omega), bW, gW⟩
  case round =>
    obtain ⟨i, hi, rfl, Hp, Bv, Gv⟩ := hrel
    clear bW gW
    obtain ⟨t0, t1, _, _⟩ := cells2 Gv.out
    by_cases hlt : i < n0
    · have h1 : (i : Int) < (n0 : Int) := by omega
      obtain ⟨x, hx⟩ : ∃ x, N[i]? = some x := ⟨_, List.getElem?_eq_getElem (by have := l0.out; omega)⟩
      have Hx := Lib.hid hx
      obtain ⟨b, o, ea, q0, q1, q2, q3, q4⟩ := (HNb.out wr Bv.out).at i x hx
      subst ea
      have hxm := List.mem_of_getElem? hx
      have hBlt := (Array.getElem?_eq_some_iff.1 Gv.out).1
      obtain ⟨V1, hV1⟩ : ∃ V, V = wr.alloc (.cells #[.string (str x.nm), .string (str x.pr), .complex .f64 (FL.fB x.o1) (FL.fB x.o2), .complex .f64 (FL.fB x.b1) (FL.fB x.b2), .complex .f64 (FL.fB x.l1) (FL.fB x.l2)] 176) := ⟨_, rfl⟩
      have gT1 : V1.heap[w.heap.size]? = some (.cells #[.slice (some ⟨b, o, none⟩) n0 c0, .slice a n c] 32) := by rw [hV1]; exact (Below.heap_alloc _ _ _ hBlt).trans Gv.out
      have gN1 : V1.heap[wr.heap.size]? = some (.cells #[.string (str x.nm), .string (str x.pr), .complex .f64 (FL.fB x.o1) (FL.fB x.o2), .complex .f64 (FL.fB x.b1) (FL.fB x.b2), .complex .f64 (FL.fB x.l1) (FL.fB x.l2)] 176) := by rw [hV1]; exact heap_alloc_new _ _
      have bV1 : Below w.heap.size w V1 := by rw [hV1]; exact Bv.out.alloc Bv.out.size _
      rw [hV1] at gT1
      obtain ⟨r0, r1, _, _⟩ := cells2 gT1
      rw [← hV1] at gT1
      have HGT1 := Lib.hid gT1
      have HGN1 := Lib.hid gN1
      have HbV1 := Lib.hid bV1
      have HT1 := Lib.hid (HT.out V1 x.nm bV1)
      obtain ⟨T1, eT1⟩ : ∃ T, T = QT.Total N QT.Nd.o1 x.nm := ⟨_, rfl⟩
      obtain ⟨T2, eT2⟩ : ∃ T, T = QT.Total N QT.Nd.o2 x.nm := ⟨_, rfl⟩
      obtain ⟨L1, eL1⟩ : ∃ T, T = QT.limit1 N x := ⟨_, rfl⟩
      obtain ⟨L2, eL2⟩ : ∃ T, T = QT.limit2 N x := ⟨_, rfl⟩
      have hT := HBt.out x hxm
      have hBb := HBb.out x hxm
      rw [← eT1, ← eT2] at HT1 hT
      have eL1' : L1 = (T1 : Int) + (if x.pr = [] then 0 else (x.b1 : Int)) := by rw [eL1, eT1]; rfl
      have eL2' : L2 = (T2 : Int) + (if x.pr = [] then 0 else (x.b2 : Int)) := by rw [eL2, eT2]; rfl
      have hLb : Hid (W53 L1 ∧ W53 L2) := Lib.hid (by
        rw [eL1', eL2']
        unfold W53
        by_cases e : x.pr = []
        · rw [if_pos e, if_pos e]; omega
        · rw [if_neg e, if_neg e]; omega)
      have Hxm := Lib.hid hxm
      have HeL := Lib.hid (And.intro eL1 eL2)
      clear hx hxm gT1 gN1 bV1 eL1 eL2 eT1 eT2 HT
      go_wp2_with fail
      rw [← hV1]
      clear hV1 r0 r1 q0 q1 q2 q3 q4 t0 t1
      refine HT1.out.mono ?_
      rintro e V2 ⟨rfl, b2⟩
      have BV := Lib.hid (HbV1.out.trans (b2.mono HbV1.out.size))
      have GT2 := Lib.hid ((b2.block _ (Array.getElem?_eq_some_iff.1 HGT1.out).1).trans HGT1.out)
      have GN2 := Lib.hid ((b2.block _ (Array.getElem?_eq_some_iff.1 HGN1.out).1).trans HGN1.out)
      clear b2 HT1 HGT1 HGN1 HbV1
      have hlim : Hid (∀ V : World, x.pr ≠ [] → (binOp .add 43 (.complex .f64 (FL.fB T1) (FL.fB T2)) (.complex .f64 (FL.fB x.b1) (FL.fB x.b2))).run Tryz.prog V = .ok (.complex .f64 (FL.fI L1) (FL.fI L2)) V) := Lib.hid fun V e => by
        rw [eL1', eL2', if_neg e, if_neg e]
        refine run_cadd _ (T1 : Int) (T2 : Int) (x.b1 : Int) (x.b2 : Int) V ?_ ?_ ?_ ?_ ?_ ?_ <;> unfold W53 <;> omega
      have hlim0 : Hid (x.pr = [] → FL.fB T1 = FL.fI L1 ∧ FL.fB T2 = FL.fI L2) := Lib.hid fun e => by
        rw [eL1', eL2', if_pos e, if_pos e, Int.add_zero, Int.add_zero]
        exact ⟨rfl, rfl⟩
      clear eL1' eL2' hT hBb
      obtain ⟨z0, z1, z2, z3, z4⟩ := cells5 GN2.out
      have hnext : ((decide (QT.asked1 N L x.nm ≤ QT.limit1 N x) && decide (QT.asked2 N L x.nm ≤ QT.limit2 N x)) = true) → Hid (∀ (j : Nat) (y : QT.Nd), j < i + 1 → N[j]? = some y → (decide (QT.asked1 N L y.nm ≤ QT.limit1 N y) && decide (QT.asked2 N L y.nm ≤ QT.limit2 N y)) = true) := fun h => Lib.hid (fun j y hj hy => by
        by_cases e : j = i
        · subst e; rw [Hx.out] at hy; cases hy; exact h
        · exact Hp.out j y (by omega) hy)
      have Hnext := Lib.hid hnext
      have Hno := Lib.hid (fun h : (decide (QT.asked1 N L x.nm ≤ QT.limit1 N x) && decide (QT.asked2 N L x.nm ≤ QT.limit2 N x)) = false => show QT.holdsB N L = false from QT.all_no Hxm.out h)
      clear hnext Hp Bv Gv
      obtain ⟨pU, hpU⟩ : ∃ p : QT.Us → Bool, p = fun u => u.nd == x.nm := ⟨_, rfl⟩
      obtain ⟨pN, hpN⟩ : ∃ p : QT.Nd → Bool, p = fun y => y.pr == x.nm := ⟨_, rfl⟩
      have HpU := Lib.hid (fun u => congrFun hpU u)
      have HpN := Lib.hid (fun u => congrFun hpN u)
      have HEh := Lib.hid (show QT.here L QT.Us.a1 x.nm = QT.S (L.filter pU) QT.Us.a1 ∧ QT.here L QT.Us.a2 x.nm = QT.S (L.filter pU) QT.Us.a2 from by rw [hpU]; exact ⟨rfl, rfl⟩)
      have HEa := Lib.hid (show QT.asked1 N L x.nm = (QT.here L QT.Us.a1 x.nm : Int) + QT.SI (N.filter pN) (QT.claim1 N L) ∧ QT.asked2 N L x.nm = (QT.here L QT.Us.a2 x.nm : Int) + QT.SI (N.filter pN) (QT.claim2 N L) from by rw [hpN]; exact ⟨rfl, rfl⟩)
      have B1 := Lib.hid (fun i (hi : i ≤ 1024) => show QT.part L pU QT.Us.a1 i ≤ 1125899906842624 from by have := QT.part_le (L := L) (p := pU) (f := QT.Us.a1) (i := i) (B := 1099511627776) (fun x hx => (HBu.out x hx).1); have := Nat.mul_le_mul_right 1099511627776 hi; omega)
      have B2 := Lib.hid (fun i (hi : i ≤ 1024) => show QT.part L pU QT.Us.a2 i ≤ 1125899906842624 from by have := QT.part_le (L := L) (p := pU) (f := QT.Us.a2) (i := i) (B := 1099511627776) (fun x hx => (HBu.out x hx).2); have := Nat.mul_le_mul_right 1099511627776 hi; omega)
      have P1 := Lib.hid (fun i (hi : i ≤ 256) => show (QT.partI N pN (QT.claim1 N L) i).natAbs ≤ 281474976710656 from by have := QT.partI_le (L := N) (p := pN) (f := QT.claim1 N L) (i := i) (B := 1099511627776) (fun x hx => (HBc.out x hx).1); have := Nat.mul_le_mul_right 1099511627776 hi; omega)
      have P2 := Lib.hid (fun i (hi : i ≤ 256) => show (QT.partI N pN (QT.claim2 N L) i).natAbs ≤ 281474976710656 from by have := QT.partI_le (L := N) (p := pN) (f := QT.claim2 N L) (i := i) (B := 1099511627776) (fun x hx => (HBc.out x hx).2); have := Nat.mul_le_mul_right 1099511627776 hi; omega)
      clear hpU hpN
      by_cases hpr : x.pr = []
      · have ht : (str x.pr).toList.isEmpty = true := by rw [str_toList, hpr]; rfl
        have e12 := hlim0.out hpr
        rw [e12.1, e12.2]
        clear hlim hlim0 e12 hpr
        go_wp2_with fail
        clear ht
        clear z0 z1 z2 z3 z4
        generalize wr.heap.size = BN at *
        go_loopw [6, 7] (fun v6 v V => ∃ k : Nat, k ≤ n ∧ v = .int .i64 k ∧ v6 = .complex .f64 (FL.fI (QT.part L pU QT.Us.a1 k : Nat)) (FL.fI (QT.part L pU QT.Us.a2 k : Nat)) ∧ Hid (Below w.heap.size w V) ∧ Hid (V.heap[w.heap.size]? = some (.cells #[.slice (some ⟨b, o, none⟩) n0 c0, .slice a n c] 32)) ∧ Hid (V.heap[BN]? = some (.cells #[.string (str x.nm), .string (str x.pr), .complex .f64 (FL.fB x.o1) (FL.fB x.o2), .complex .f64 (FL.fB x.b1) (FL.fB x.b2), .complex .f64 (FL.fB x.l1) (FL.fB x.l2)] 176))) (fun _ v _ => n - (intOf v).toNat)
        case atStart => exact ⟨0, Nat.zero_le _, rfl, rfl, BV, GT2, GN2⟩
        case round =>
          obtain ⟨k, hk, rfl, rfl, Bu, Gu, Mu⟩ := hrel
          clear BV GT2 GN2
          obtain ⟨t0, t1, _, _⟩ := cells2 Gu.out
          obtain ⟨z0, _⟩ := cells5 Mu.out
          by_cases hkl : k < n
          · have h2 : (k : Int) < (n : Int) := by omega
            obtain ⟨u, hu⟩ : ∃ u, L[k]? = some u := ⟨_, List.getElem?_eq_getElem (by have := l1.out; omega)⟩
            have Hu := Lib.hid hu
            obtain ⟨ub, uo, ea, _, c1, c2⟩ := (HUb.out wr Bu.out).at k u hu
            subst ea
            clear hu
            have hBlt := (Array.getElem?_eq_some_iff.1 Gu.out).1
            have hMlt := (Array.getElem?_eq_some_iff.1 Mu.out).1
            have hblt := World.block_lt_of_cell? _ _ c1
            have cont : Hid (∀ V, Below wr.heap.size wr V → (Hid (Below wr.heap.size wr V) ∧ V.cell? ⟨w.heap.size, 1, none⟩ = some (.slice (some ⟨ub, uo, none⟩) n c) ∧ V.cell? ⟨BN, 0, none⟩ = some (.string (str x.nm)) ∧ V.cell? ⟨ub, uo + k * 3 + 1, none⟩ = some (.string (str u.nd)))) := fun V h => ⟨Lib.hid h, (World.cell?_of_block (a := ⟨w.heap.size, 1, none⟩) (h.block _ hBlt)).trans t1, (World.cell?_of_block (a := ⟨BN, 0, none⟩) (h.block _ hMlt)).trans z0, (World.cell?_of_block (a := ⟨ub, uo + k * 3 + 1, none⟩) (h.block _ hblt)).trans c1⟩
            have S0 := cont.out wr.drew (Below.refl _ _).drew
            obtain ⟨q, hq⟩ : ∃ q, pU u = q := ⟨_, rfl⟩
            have ht : ((str u.nd).toList == (str x.nm).toList) = q := by rw [str_toList, str_toList, ← HpU.out u, hq]
            go_wp2_with fail
            refine wp_region_noPanic ?_
            refine wp_region_held_drew (S := fun V => (Hid (Below wr.heap.size wr V) ∧ V.cell? ⟨w.heap.size, 1, none⟩ = some (.slice (some ⟨ub, uo, none⟩) n c) ∧ V.cell? ⟨BN, 0, none⟩ = some (.string (str x.nm)) ∧ V.cell? ⟨ub, uo + k * 3 + 1, none⟩ = some (.string (str u.nd)))) (by kernel_rfl) S0 (fun hHeld => ?_)
            refine rTk 0 ?_; try simp only [Act.put, rP1, rP2, rP3]
            refine rTk 1 ?_; try simp only [Act.put, rP1, rP2, rP3]
            refine rTk 2 ?_; try simp only [Act.put, rP1, rP2, rP3]
            refine rTk 3 ?_; try simp only [Act.put, rP1, rP2, rP3]
            refine rTk 4 ?_; try simp only [Act.put, rP1, rP2, rP3]
            refine rTk 5 ?_; try simp only [Act.put, rP1, rP2, rP3]
            refine rTk 6 ?_; try simp only [Act.put, rP1, rP2, rP3]
            refine rTk 7 ?_; try simp only [Act.put, rP1, rP2, rP3]
            refine rTk 8 ?_; try simp only [Act.put, rP1, rP2, rP3]
            refine wpAnyH_done (by kernel_rfl) ?_ _
            refine NoPanic.normal ?_
            have Bx : Hid (Below w.heap.size w wr.drew) := Lib.hid (Bu.out.trans ((Below.refl _ _).drew.mono Bu.out.size))
            have Gx := Lib.hid (show wr.drew.heap[w.heap.size]? = _ from Gu.out)
            have Mx : Hid (wr.drew.heap[BN]? = some (.cells #[.string (str x.nm), .string (str x.pr), .complex .f64 (FL.fB x.o1) (FL.fB x.o2), .complex .f64 (FL.fB x.b1) (FL.fB x.b2), .complex .f64 (FL.fB x.l1) (FL.fB x.l2)] 176)) := Mu
            clear S0 cont hHeld ht
            cases q with
            | true =>
              have q1 := QT.part_yes (p := pU) QT.Us.a1 Hu.out hq
              have q2 := QT.part_yes (p := pU) QT.Us.a2 Hu.out hq
              have hi6 : k + 1 ≤ 1024 := by have := Hs.out; omega
              have d1 := B1.out k (by omega)
              have d2 := B2.out k (by omega)
              have d3 := B1.out (k + 1) hi6
              have d4 := B2.out (k + 1) hi6
              have d5 := HBu.out u (List.mem_of_getElem? Hu.out)
              have hadd : ∀ V : World, (binOp .add 43 (.complex .f64 (FL.fI (QT.part L pU QT.Us.a1 k : Nat)) (FL.fI (QT.part L pU QT.Us.a2 k : Nat))) (.complex .f64 (FL.fB u.a1) (FL.fB u.a2))).run Tryz.prog V = .ok (.complex .f64 (FL.fI (QT.part L pU QT.Us.a1 (k + 1) : Nat)) (FL.fI (QT.part L pU QT.Us.a2 (k + 1) : Nat))) V := fun V => by
                rw [q1, q2, Int.natCast_add, Int.natCast_add]
                refine run_cadd _ _ _ (u.a1 : Int) (u.a2 : Int) V ?_ ?_ ?_ ?_ ?_ ?_ <;> unfold W53 <;> omega
              clear q1 q2 d1 d2 d3 d4 d5 hq
              go_wp2
              exact ⟨⟨k + 1, by omega, by simp, rfl, Bx, Gx, Mx⟩, by simp [intOf]; omega⟩
            | false =>
              have Q1 := Lib.hid (QT.part_no (p := pU) QT.Us.a1 Hu.out hq)
              have Q2 := Lib.hid (QT.part_no (p := pU) QT.Us.a2 Hu.out hq)
              clear hq
              go_wp2
              exact ⟨⟨k + 1, by omega, by simp, by rw [Q1.out, Q2.out], Bx, Gx, Mx⟩, by simp [intOf]; omega⟩
          · obtain rfl : n = k := by omega
            obtain ⟨h1', h1e⟩ : ∃ z : Int, z = (QT.here L QT.Us.a1 x.nm : Int) := ⟨_, rfl⟩
            obtain ⟨h2', h2e⟩ : ∃ z : Int, z = (QT.here L QT.Us.a2 x.nm : Int) := ⟨_, rfl⟩
            have hr1 : ((QT.part L pU QT.Us.a1 n : Nat) : Int) = h1' := by rw [h1e, HEh.out.1, QT.part_end (L := L) (p := pU) QT.Us.a1 (i := n) (by have := l1.out; omega)]
            have hr2 : ((QT.part L pU QT.Us.a2 n : Nat) : Int) = h2' := by rw [h2e, HEh.out.2, QT.part_end (L := L) (p := pU) QT.Us.a2 (i := n) (by have := l1.out; omega)]
            have hb1 : Hid (h1'.natAbs ≤ 1125899906842624 ∧ h2'.natAbs ≤ 1125899906842624) := Lib.hid (by have := B1.out n Hs.out; have := B2.out n Hs.out; omega)
            have HEa' := HEa.out
            rw [← h1e, ← h2e] at HEa'
            have HEb := Lib.hid HEa'
            rw [hr1, hr2]
            clear h1e h2e hr1 hr2 HEa' HEa HEh B1 B2 hkl
            go_wp2_with fail
            clear t0 t1 z0
            go_loopw [6, 8] (fun v6 v V => ∃ k : Nat, k ≤ n0 ∧ v = .int .i64 k ∧ v6 = .complex .f64 (FL.fI (h1' + QT.partI N pN (QT.claim1 N L) k)) (FL.fI (h2' + QT.partI N pN (QT.claim2 N L) k)) ∧ Hid (Below w.heap.size w V) ∧ Hid (V.heap[w.heap.size]? = some (.cells #[.slice (some ⟨b, o, none⟩) n0 c0, .slice a n c] 32)) ∧ Hid (V.heap[BN]? = some (.cells #[.string (str x.nm), .string (str x.pr), .complex .f64 (FL.fB x.o1) (FL.fB x.o2), .complex .f64 (FL.fB x.b1) (FL.fB x.b2), .complex .f64 (FL.fB x.l1) (FL.fB x.l2)] 176))) (fun _ v _ => n0 - (intOf v).toNat)
            case atStart => exact ⟨0, Nat.zero_le _, rfl, by rw [show QT.partI N pN (QT.claim1 N L) 0 = 0 from rfl, show QT.partI N pN (QT.claim2 N L) 0 = 0 from rfl, Int.add_zero, Int.add_zero], Bu, Gu, Mu⟩
            case round =>
              obtain ⟨k, hk, rfl, rfl, Bv, Gv, Mv⟩ := hrel
              clear Bu Gu Mu
              obtain ⟨t0, t1, _, _⟩ := cells2 Gv.out
              obtain ⟨z0, _⟩ := cells5 Mv.out
              by_cases hkl : k < n0
              · have h2 : (k : Int) < (n0 : Int) := by omega
                obtain ⟨y, hy⟩ : ∃ y, N[k]? = some y := ⟨_, List.getElem?_eq_getElem (by have := l0.out; omega)⟩
                have Hy := Lib.hid hy
                obtain ⟨b', o', ea, c0', c1', c2', c3', c4'⟩ := (HNb.out wr Bv.out).at k y hy
                simp only [Option.some.injEq, Addr.mk.injEq, and_true] at ea
                obtain ⟨rfl, rfl⟩ := ea
                have hBlt := (Array.getElem?_eq_some_iff.1 Gv.out).1
                have hMlt := (Array.getElem?_eq_some_iff.1 Mv.out).1
                have hblt := World.block_lt_of_cell? _ _ c0'
                have cont : Hid (∀ V, Below wr.heap.size wr V → (Hid (Below wr.heap.size wr V) ∧ V.cell? ⟨w.heap.size, 0, none⟩ = some (.slice (some ⟨b, o, none⟩) n0 c0) ∧ V.cell? ⟨w.heap.size, 1, none⟩ = some (.slice a n c) ∧ V.cell? ⟨BN, 0, none⟩ = some (.string (str x.nm)) ∧ V.cell? ⟨b, o + k * 5, none⟩ = some (.string (str y.nm)) ∧ V.cell? ⟨b, o + k * 5 + 1, none⟩ = some (.string (str y.pr)) ∧ V.cell? ⟨b, o + k * 5 + 2, none⟩ = some (.complex .f64 (FL.fB y.o1) (FL.fB y.o2)) ∧ V.cell? ⟨b, o + k * 5 + 3, none⟩ = some (.complex .f64 (FL.fB y.b1) (FL.fB y.b2)) ∧ V.cell? ⟨b, o + k * 5 + 4, none⟩ = some (.complex .f64 (FL.fB y.l1) (FL.fB y.l2)))) := fun V h => ⟨Lib.hid h, (World.cell?_of_block (a := ⟨w.heap.size, 0, none⟩) (h.block _ hBlt)).trans t0, (World.cell?_of_block (a := ⟨w.heap.size, 1, none⟩) (h.block _ hBlt)).trans t1, (World.cell?_of_block (a := ⟨BN, 0, none⟩) (h.block _ hMlt)).trans z0, (World.cell?_of_block (a := ⟨b, o + k * 5, none⟩) (h.block _ hblt)).trans c0', (World.cell?_of_block (a := ⟨b, o + k * 5 + 1, none⟩) (h.block _ hblt)).trans c1', (World.cell?_of_block (a := ⟨b, o + k * 5 + 2, none⟩) (h.block _ hblt)).trans c2', (World.cell?_of_block (a := ⟨b, o + k * 5 + 3, none⟩) (h.block _ hblt)).trans c3', (World.cell?_of_block (a := ⟨b, o + k * 5 + 4, none⟩) (h.block _ hblt)).trans c4'⟩
                have S0 := cont.out wr.drew (Below.refl _ _).drew
                have S1 := cont.out wr.drew.drew (Below.refl _ _).drew.drew
                obtain ⟨q, hq⟩ : ∃ q, pN y = q := ⟨_, rfl⟩
                have ht : ((str y.pr).toList == (str x.nm).toList) = q := by rw [str_toList, str_toList, ← HpN.out y, hq]
                have C1 : Hid (∀ V, (Hid (Below wr.heap.size wr V) ∧ V.cell? ⟨w.heap.size, 0, none⟩ = some (.slice (some ⟨b, o, none⟩) n0 c0) ∧ V.cell? ⟨w.heap.size, 1, none⟩ = some (.slice a n c) ∧ V.cell? ⟨BN, 0, none⟩ = some (.string (str x.nm)) ∧ V.cell? ⟨b, o + k * 5, none⟩ = some (.string (str y.nm)) ∧ V.cell? ⟨b, o + k * 5 + 1, none⟩ = some (.string (str y.pr)) ∧ V.cell? ⟨b, o + k * 5 + 2, none⟩ = some (.complex .f64 (FL.fB y.o1) (FL.fB y.o2)) ∧ V.cell? ⟨b, o + k * 5 + 3, none⟩ = some (.complex .f64 (FL.fB y.b1) (FL.fB y.b2)) ∧ V.cell? ⟨b, o + k * 5 + 4, none⟩ = some (.complex .f64 (FL.fB y.l1) (FL.fB y.l2))) → Calls Tryz.prog 112 #[.agg #[.slice (some ⟨b, o, none⟩) n0 c0, .slice a n c], .agg #[.string (str y.nm), .string (str y.pr), .complex .f64 (FL.fB y.o1) (FL.fB y.o2), .complex .f64 (FL.fB y.b1) (FL.fB y.b2), .complex .f64 (FL.fB y.l1) (FL.fB y.l2)]] V fun e w' => e = .returned (.complex .f64 (FL.fI (QT.claim1 N L y)) (FL.fI (QT.claim2 N L y))) ∧ (Hid (Below wr.heap.size wr w') ∧ w'.cell? ⟨w.heap.size, 0, none⟩ = some (.slice (some ⟨b, o, none⟩) n0 c0) ∧ w'.cell? ⟨w.heap.size, 1, none⟩ = some (.slice a n c) ∧ w'.cell? ⟨BN, 0, none⟩ = some (.string (str x.nm)) ∧ w'.cell? ⟨b, o + k * 5, none⟩ = some (.string (str y.nm)) ∧ w'.cell? ⟨b, o + k * 5 + 1, none⟩ = some (.string (str y.pr)) ∧ w'.cell? ⟨b, o + k * 5 + 2, none⟩ = some (.complex .f64 (FL.fB y.o1) (FL.fB y.o2)) ∧ w'.cell? ⟨b, o + k * 5 + 3, none⟩ = some (.complex .f64 (FL.fB y.b1) (FL.fB y.b2)) ∧ w'.cell? ⟨b, o + k * 5 + 4, none⟩ = some (.complex .f64 (FL.fB y.l1) (FL.fB y.l2)))) := fun V h =>
                  (HC.out V y (List.mem_of_getElem? Hy.out) (Bv.out.trans (h.1.out.mono Bv.out.size))).mono fun e w' ⟨e1, e2⟩ => ⟨e1, cont.out w' (h.1.out.trans (e2.mono h.1.out.size))⟩
                have fin : Hid (∀ V, (Hid (Below wr.heap.size wr V) ∧ V.cell? ⟨w.heap.size, 0, none⟩ = some (.slice (some ⟨b, o, none⟩) n0 c0) ∧ V.cell? ⟨w.heap.size, 1, none⟩ = some (.slice a n c) ∧ V.cell? ⟨BN, 0, none⟩ = some (.string (str x.nm)) ∧ V.cell? ⟨b, o + k * 5, none⟩ = some (.string (str y.nm)) ∧ V.cell? ⟨b, o + k * 5 + 1, none⟩ = some (.string (str y.pr)) ∧ V.cell? ⟨b, o + k * 5 + 2, none⟩ = some (.complex .f64 (FL.fB y.o1) (FL.fB y.o2)) ∧ V.cell? ⟨b, o + k * 5 + 3, none⟩ = some (.complex .f64 (FL.fB y.b1) (FL.fB y.b2)) ∧ V.cell? ⟨b, o + k * 5 + 4, none⟩ = some (.complex .f64 (FL.fB y.l1) (FL.fB y.l2))) → Below w.heap.size w V ∧ V.heap[w.heap.size]? = some (.cells #[.slice (some ⟨b, o, none⟩) n0 c0, .slice a n c] 32) ∧ V.heap[BN]? = some (.cells #[.string (str x.nm), .string (str x.pr), .complex .f64 (FL.fB x.o1) (FL.fB x.o2), .complex .f64 (FL.fB x.b1) (FL.fB x.b2), .complex .f64 (FL.fB x.l1) (FL.fB x.l2)] 176)) := fun V h => ⟨Bv.out.trans (h.1.out.mono Bv.out.size), (h.1.out.block _ hBlt).trans Gv.out, (h.1.out.block _ hMlt).trans Mv.out⟩
                clear hy cont hBlt hMlt hblt c0' c1' c2' c3' c4'
                cases q with
                | true =>
                  have q1 := QT.partI_yes (p := pN) (QT.claim1 N L) Hy.out hq
                  have q2 := QT.partI_yes (p := pN) (QT.claim2 N L) Hy.out hq
                  have hi6 : k + 1 ≤ 256 := by have := Hs0.out; omega
                  have d1 := P1.out k (by omega)
                  have d2 := P2.out k (by omega)
                  have d3 := P1.out (k + 1) hi6
                  have d4 := P2.out (k + 1) hi6
                  have d5 := HBc.out y (List.mem_of_getElem? Hy.out)
                  have d6 := hb1.out
                  have hadd : ∀ V : World, (binOp .add 43 (.complex .f64 (FL.fI (h1' + QT.partI N pN (QT.claim1 N L) k)) (FL.fI (h2' + QT.partI N pN (QT.claim2 N L) k))) (.complex .f64 (FL.fI (QT.claim1 N L y)) (FL.fI (QT.claim2 N L y)))).run Tryz.prog V = .ok (.complex .f64 (FL.fI (h1' + QT.partI N pN (QT.claim1 N L) (k + 1))) (FL.fI (h2' + QT.partI N pN (QT.claim2 N L) (k + 1)))) V := fun V => by
                    rw [q1, q2, ← Int.add_assoc, ← Int.add_assoc]
                    rw [q1] at d3
                    rw [q2] at d4
                    refine run_cadd _ _ _ _ _ V ?_ ?_ ?_ ?_ ?_ ?_ <;> unfold W53 <;> omega
                  clear q1 q2 d1 d2 d3 d4 d5 d6 hq
                  go_wp2_with fail
                  refine wp_region_noPanic ?_
                  refine wp_region_held_drew (S := fun V => (Hid (Below wr.heap.size wr V) ∧ V.cell? ⟨w.heap.size, 0, none⟩ = some (.slice (some ⟨b, o, none⟩) n0 c0) ∧ V.cell? ⟨w.heap.size, 1, none⟩ = some (.slice a n c) ∧ V.cell? ⟨BN, 0, none⟩ = some (.string (str x.nm)) ∧ V.cell? ⟨b, o + k * 5, none⟩ = some (.string (str y.nm)) ∧ V.cell? ⟨b, o + k * 5 + 1, none⟩ = some (.string (str y.pr)) ∧ V.cell? ⟨b, o + k * 5 + 2, none⟩ = some (.complex .f64 (FL.fB y.o1) (FL.fB y.o2)) ∧ V.cell? ⟨b, o + k * 5 + 3, none⟩ = some (.complex .f64 (FL.fB y.b1) (FL.fB y.b2)) ∧ V.cell? ⟨b, o + k * 5 + 4, none⟩ = some (.complex .f64 (FL.fB y.l1) (FL.fB y.l2)))) (by kernel_rfl) S0 (fun hHeld => ?_)
                  refine rTk 0 ?_; try simp only [Act.put, rP1, rP2, rP3]
                  refine rTk 1 ?_; try simp only [Act.put, rP1, rP2, rP3]
                  refine rTk 2 ?_; try simp only [Act.put, rP1, rP2, rP3]
                  refine rTk 3 ?_; try simp only [Act.put, rP1, rP2, rP3]
                  refine rTk 4 ?_; try simp only [Act.put, rP1, rP2, rP3]
                  refine rTk 5 ?_; try simp only [Act.put, rP1, rP2, rP3]
                  refine rTk 6 ?_; try simp only [Act.put, rP1, rP2, rP3]
                  refine rTk 7 ?_; try simp only [Act.put, rP1, rP2, rP3]
                  refine rTk 8 ?_; try simp only [Act.put, rP1, rP2, rP3]
                  refine wpAnyH_done (by kernel_rfl) ?_ _
                  refine NoPanic.normal ?_
                  clear S0 hHeld
                  go_wp2_with fail
                  refine wp_region_noPanic ?_
                  refine wp_region_held_drew (S := fun V => (Hid (Below wr.heap.size wr V) ∧ V.cell? ⟨w.heap.size, 0, none⟩ = some (.slice (some ⟨b, o, none⟩) n0 c0) ∧ V.cell? ⟨w.heap.size, 1, none⟩ = some (.slice a n c) ∧ V.cell? ⟨BN, 0, none⟩ = some (.string (str x.nm)) ∧ V.cell? ⟨b, o + k * 5, none⟩ = some (.string (str y.nm)) ∧ V.cell? ⟨b, o + k * 5 + 1, none⟩ = some (.string (str y.pr)) ∧ V.cell? ⟨b, o + k * 5 + 2, none⟩ = some (.complex .f64 (FL.fB y.o1) (FL.fB y.o2)) ∧ V.cell? ⟨b, o + k * 5 + 3, none⟩ = some (.complex .f64 (FL.fB y.b1) (FL.fB y.b2)) ∧ V.cell? ⟨b, o + k * 5 + 4, none⟩ = some (.complex .f64 (FL.fB y.l1) (FL.fB y.l2)))) (by kernel_rfl) S1 (fun hHeld => ?_)
                  refine rTk 0 ?_; try simp only [Act.put, rP1, rP2, rP3]
                  refine rTk 1 ?_; try simp only [Act.put, rP1, rP2, rP3]
                  refine rTk 2 ?_; try simp only [Act.put, rP1, rP2, rP3]
                  refine rTk 3 ?_; try simp only [Act.put, rP1, rP2, rP3]
                  refine rTk 4 ?_; try simp only [Act.put, rP1, rP2, rP3]
                  refine rTk 5 ?_; try simp only [Act.put, rP1, rP2, rP3]
                  refine rTk 6 ?_; try simp only [Act.put, rP1, rP2, rP3]
                  refine rBr 7 fun K hK => ?_
                  go_simp
                  go_at_call 112
                  refine (C1.out _ ?_).mono ?_
                  assumption
                  rintro e vx ⟨rfl, kx⟩
                  clear C1
                  try (go_wp2_with fail)
                  refine hK.out _ _ (by (try dsimp only); assumption) (fun hHeld => ?_)
                  clear hK K
                  try simp only [Act.put, rP1, rP2, rP3]
                  refine rTk 8 ?_; try simp only [Act.put, rP1, rP2, rP3]
                  refine rTk 9 ?_; try simp only [Act.put, rP1, rP2, rP3]
                  refine wpAnyH_done (by kernel_rfl) ?_ _
                  refine NoPanic.normal ?_
                  have FX := Lib.hid (fin.out vx kx)
                  clear t0 t1 z0 fin hHeld S1 kx hadd
                  go_wp2
                  exact ⟨⟨k + 1, by omega, by simp, rfl, Lib.hid FX.out.1, Lib.hid FX.out.2.1, Lib.hid FX.out.2.2⟩, by simp [intOf]; omega⟩
                | false =>
                  have Q1 := Lib.hid (QT.partI_no (p := pN) (QT.claim1 N L) Hy.out hq)
                  have Q2 := Lib.hid (QT.partI_no (p := pN) (QT.claim2 N L) Hy.out hq)
                  clear hq
                  go_wp2_with fail
                  refine wp_region_noPanic ?_
                  refine wp_region_held_drew (S := fun V => (Hid (Below wr.heap.size wr V) ∧ V.cell? ⟨w.heap.size, 0, none⟩ = some (.slice (some ⟨b, o, none⟩) n0 c0) ∧ V.cell? ⟨w.heap.size, 1, none⟩ = some (.slice a n c) ∧ V.cell? ⟨BN, 0, none⟩ = some (.string (str x.nm)) ∧ V.cell? ⟨b, o + k * 5, none⟩ = some (.string (str y.nm)) ∧ V.cell? ⟨b, o + k * 5 + 1, none⟩ = some (.string (str y.pr)) ∧ V.cell? ⟨b, o + k * 5 + 2, none⟩ = some (.complex .f64 (FL.fB y.o1) (FL.fB y.o2)) ∧ V.cell? ⟨b, o + k * 5 + 3, none⟩ = some (.complex .f64 (FL.fB y.b1) (FL.fB y.b2)) ∧ V.cell? ⟨b, o + k * 5 + 4, none⟩ = some (.complex .f64 (FL.fB y.l1) (FL.fB y.l2)))) (by kernel_rfl) S0 (fun hHeld => ?_)
                  refine rTk 0 ?_; try simp only [Act.put, rP1, rP2, rP3]
                  refine rTk 1 ?_; try simp only [Act.put, rP1, rP2, rP3]
                  refine rTk 2 ?_; try simp only [Act.put, rP1, rP2, rP3]
                  refine rTk 3 ?_; try simp only [Act.put, rP1, rP2, rP3]
                  refine rTk 4 ?_; try simp only [Act.put, rP1, rP2, rP3]
                  refine rTk 5 ?_; try simp only [Act.put, rP1, rP2, rP3]
                  refine rTk 6 ?_; try simp only [Act.put, rP1, rP2, rP3]
                  refine rTk 7 ?_; try simp only [Act.put, rP1, rP2, rP3]
                  refine rTk 8 ?_; try simp only [Act.put, rP1, rP2, rP3]
                  refine wpAnyH_done (by kernel_rfl) ?_ _
                  refine NoPanic.normal ?_
                  have FX := Lib.hid (fin.out wr.drew S0)
                  clear fin hHeld S1 C1 S0
                  go_wp2
                  exact ⟨⟨k + 1, by omega, by simp, by rw [Q1.out, Q2.out], Lib.hid FX.out.1, Lib.hid FX.out.2.1, Lib.hid FX.out.2.2⟩, by simp [intOf]; omega⟩
              · obtain rfl : n0 = k := by omega
                obtain ⟨A1, eA1⟩ : ∃ z, z = h1' + QT.partI N pN (QT.claim1 N L) n0 := ⟨_, rfl⟩
                obtain ⟨A2, eA2⟩ : ∃ z, z = h2' + QT.partI N pN (QT.claim2 N L) n0 := ⟨_, rfl⟩
                have a1 : QT.asked1 N L x.nm = A1 := by rw [HEb.out.1, eA1, QT.partI_end (L := N) (p := pN) (QT.claim1 N L) (i := n0) (by have := l0.out; omega)]
                have a2 : QT.asked2 N L x.nm = A2 := by rw [HEb.out.2, eA2, QT.partI_end (L := N) (p := pN) (QT.claim2 N L) (i := n0) (by have := l0.out; omega)]
                have d1 := P1.out n0 Hs0.out
                have d2 := P2.out n0 Hs0.out
                have d6 := hb1.out
                have g1 := ford_gt A1 L1 (by rw [eA1]; unfold W53; omega) hLb.out.1
                have g2 := ford_gt A2 L2 (by rw [eA2]; unfold W53; omega) hLb.out.2
                rw [← eA1, ← eA2]
                have Hno' := Hno.out
                have Hnext' := Hnext.out
                rw [a1, a2, ← HeL.out.1, ← HeL.out.2] at Hno' Hnext'
                clear eA1 eA2 a1 a2 d1 d2 d6 hb1 P1 P2 HEb Hno Hnext HeL hLb z0 hkl
                by_cases h1 : L1 < A1
                · have hb := Lib.hid (Hno' (by rw [decide_eq_false (by omega), Bool.false_and]))
                  rw [decide_eq_true h1] at g1
                  clear Hno' Hnext' h1 g2
                  go_wp2
                  go_ret
                  exact ⟨by rw [hb.out]; rfl, Bv.out⟩
                · rw [decide_eq_false h1] at g1
                  by_cases h2 : L2 < A2
                  · have hb := Lib.hid (Hno' (by rw [decide_eq_false (p := A2 ≤ L2) (by omega), Bool.and_false]))
                    rw [decide_eq_true h2] at g2
                    clear Hno' Hnext' h1 h2
                    go_wp2
                    go_ret
                    exact ⟨by rw [hb.out]; rfl, Bv.out⟩
                  · have NX := Hnext' (by rw [decide_eq_true (p := A1 ≤ L1) (by omega), decide_eq_true (p := A2 ≤ L2) (by omega)]; rfl)
                    rw [decide_eq_false h2] at g2
                    clear Hno' Hnext' h1 h2
                    go_wp2
                    exact ⟨⟨i + 1, by omega, by simp, NX, Bv, Gv⟩, by simp [intOf]; omega⟩
      · have ht : (str x.pr).toList.isEmpty = false := by rw [str_toList]; simpa using hpr
        have hadd := fun V => hlim.out V hpr
        clear hlim hlim0 hpr
        go_wp2_with fail
        clear ht hadd
        clear z0 z1 z2 z3 z4
        generalize wr.heap.size = BN at *
        go_loopw [6, 7] (fun v6 v V => ∃ k : Nat, k ≤ n ∧ v = .int .i64 k ∧ v6 = .complex .f64 (FL.fI (QT.part L pU QT.Us.a1 k : Nat)) (FL.fI (QT.part L pU QT.Us.a2 k : Nat)) ∧ Hid (Below w.heap.size w V) ∧ Hid (V.heap[w.heap.size]? = some (.cells #[.slice (some ⟨b, o, none⟩) n0 c0, .slice a n c] 32)) ∧ Hid (V.heap[BN]? = some (.cells #[.string (str x.nm), .string (str x.pr), .complex .f64 (FL.fB x.o1) (FL.fB x.o2), .complex .f64 (FL.fB x.b1) (FL.fB x.b2), .complex .f64 (FL.fB x.l1) (FL.fB x.l2)] 176))) (fun _ v _ => n - (intOf v).toNat)
        case atStart => exact ⟨0, Nat.zero_le _, rfl, rfl, BV, GT2, GN2⟩
        case round =>
          obtain ⟨k, hk, rfl, rfl, Bu, Gu, Mu⟩ := hrel
          clear BV GT2 GN2
          obtain ⟨t0, t1, _, _⟩ := cells2 Gu.out
          obtain ⟨z0, _⟩ := cells5 Mu.out
          by_cases hkl : k < n
          · have h2 : (k : Int) < (n : Int) := by omega
            obtain ⟨u, hu⟩ : ∃ u, L[k]? = some u := ⟨_, List.getElem?_eq_getElem (by have := l1.out; omega)⟩
            have Hu := Lib.hid hu
            obtain ⟨ub, uo, ea, _, c1, c2⟩ := (HUb.out wr Bu.out).at k u hu
            subst ea
            clear hu
            have hBlt := (Array.getElem?_eq_some_iff.1 Gu.out).1
            have hMlt := (Array.getElem?_eq_some_iff.1 Mu.out).1
            have hblt := World.block_lt_of_cell? _ _ c1
            have cont : Hid (∀ V, Below wr.heap.size wr V → (Hid (Below wr.heap.size wr V) ∧ V.cell? ⟨w.heap.size, 1, none⟩ = some (.slice (some ⟨ub, uo, none⟩) n c) ∧ V.cell? ⟨BN, 0, none⟩ = some (.string (str x.nm)) ∧ V.cell? ⟨ub, uo + k * 3 + 1, none⟩ = some (.string (str u.nd)))) := fun V h => ⟨Lib.hid h, (World.cell?_of_block (a := ⟨w.heap.size, 1, none⟩) (h.block _ hBlt)).trans t1, (World.cell?_of_block (a := ⟨BN, 0, none⟩) (h.block _ hMlt)).trans z0, (World.cell?_of_block (a := ⟨ub, uo + k * 3 + 1, none⟩) (h.block _ hblt)).trans c1⟩
            have S0 := cont.out wr.drew (Below.refl _ _).drew
            obtain ⟨q, hq⟩ : ∃ q, pU u = q := ⟨_, rfl⟩
            have ht : ((str u.nd).toList == (str x.nm).toList) = q := by rw [str_toList, str_toList, ← HpU.out u, hq]
            go_wp2_with fail
            refine wp_region_noPanic ?_
            refine wp_region_held_drew (S := fun V => (Hid (Below wr.heap.size wr V) ∧ V.cell? ⟨w.heap.size, 1, none⟩ = some (.slice (some ⟨ub, uo, none⟩) n c) ∧ V.cell? ⟨BN, 0, none⟩ = some (.string (str x.nm)) ∧ V.cell? ⟨ub, uo + k * 3 + 1, none⟩ = some (.string (str u.nd)))) (by kernel_rfl) S0 (fun hHeld => ?_)
            refine rTk 0 ?_; try simp only [Act.put, rP1, rP2, rP3]
            refine rTk 1 ?_; try simp only [Act.put, rP1, rP2, rP3]
            refine rTk 2 ?_; try simp only [Act.put, rP1, rP2, rP3]
            refine rTk 3 ?_; try simp only [Act.put, rP1, rP2, rP3]
            refine rTk 4 ?_; try simp only [Act.put, rP1, rP2, rP3]
            refine rTk 5 ?_; try simp only [Act.put, rP1, rP2, rP3]
            refine rTk 6 ?_; try simp only [Act.put, rP1, rP2, rP3]
            refine rTk 7 ?_; try simp only [Act.put, rP1, rP2, rP3]
            refine rTk 8 ?_; try simp only [Act.put, rP1, rP2, rP3]
            refine wpAnyH_done (by kernel_rfl) ?_ _
            refine NoPanic.normal ?_
            have Bx : Hid (Below w.heap.size w wr.drew) := Lib.hid (Bu.out.trans ((Below.refl _ _).drew.mono Bu.out.size))
            have Gx := Lib.hid (show wr.drew.heap[w.heap.size]? = _ from Gu.out)
            have Mx : Hid (wr.drew.heap[BN]? = some (.cells #[.string (str x.nm), .string (str x.pr), .complex .f64 (FL.fB x.o1) (FL.fB x.o2), .complex .f64 (FL.fB x.b1) (FL.fB x.b2), .complex .f64 (FL.fB x.l1) (FL.fB x.l2)] 176)) := Mu
            clear S0 cont hHeld ht
            cases q with
            | true =>
              have q1 := QT.part_yes (p := pU) QT.Us.a1 Hu.out hq
              have q2 := QT.part_yes (p := pU) QT.Us.a2 Hu.out hq
              have hi6 : k + 1 ≤ 1024 := by have := Hs.out; omega
              have d1 := B1.out k (by omega)
              have d2 := B2.out k (by omega)
              have d3 := B1.out (k + 1) hi6
              have d4 := B2.out (k + 1) hi6
              have d5 := HBu.out u (List.mem_of_getElem? Hu.out)
              have hadd : ∀ V : World, (binOp .add 43 (.complex .f64 (FL.fI (QT.part L pU QT.Us.a1 k : Nat)) (FL.fI (QT.part L pU QT.Us.a2 k : Nat))) (.complex .f64 (FL.fB u.a1) (FL.fB u.a2))).run Tryz.prog V = .ok (.complex .f64 (FL.fI (QT.part L pU QT.Us.a1 (k + 1) : Nat)) (FL.fI (QT.part L pU QT.Us.a2 (k + 1) : Nat))) V := fun V => by
                rw [q1, q2, Int.natCast_add, Int.natCast_add]
                refine run_cadd _ _ _ (u.a1 : Int) (u.a2 : Int) V ?_ ?_ ?_ ?_ ?_ ?_ <;> unfold W53 <;> omega
              clear q1 q2 d1 d2 d3 d4 d5 hq
              go_wp2
              exact ⟨⟨k + 1, by omega, by simp, rfl, Bx, Gx, Mx⟩, by simp [intOf]; omega⟩
            | false =>
              have Q1 := Lib.hid (QT.part_no (p := pU) QT.Us.a1 Hu.out hq)
              have Q2 := Lib.hid (QT.part_no (p := pU) QT.Us.a2 Hu.out hq)
              clear hq
              go_wp2
              exact ⟨⟨k + 1, by omega, by simp, by rw [Q1.out, Q2.out], Bx, Gx, Mx⟩, by simp [intOf]; omega⟩
          · obtain rfl : n = k := by omega
            obtain ⟨h1', h1e⟩ : ∃ z : Int, z = (QT.here L QT.Us.a1 x.nm : Int) := ⟨_, rfl⟩
            obtain ⟨h2', h2e⟩ : ∃ z : Int, z = (QT.here L QT.Us.a2 x.nm : Int) := ⟨_, rfl⟩
            have hr1 : ((QT.part L pU QT.Us.a1 n : Nat) : Int) = h1' := by rw [h1e, HEh.out.1, QT.part_end (L := L) (p := pU) QT.Us.a1 (i := n) (by have := l1.out; omega)]
            have hr2 : ((QT.part L pU QT.Us.a2 n : Nat) : Int) = h2' := by rw [h2e, HEh.out.2, QT.part_end (L := L) (p := pU) QT.Us.a2 (i := n) (by have := l1.out; omega)]
            have hb1 : Hid (h1'.natAbs ≤ 1125899906842624 ∧ h2'.natAbs ≤ 1125899906842624) := Lib.hid (by have := B1.out n Hs.out; have := B2.out n Hs.out; omega)
            have HEa' := HEa.out
            rw [← h1e, ← h2e] at HEa'
            have HEb := Lib.hid HEa'
            rw [hr1, hr2]
            clear h1e h2e hr1 hr2 HEa' HEa HEh B1 B2 hkl
            go_wp2_with fail
            clear t0 t1 z0
            go_loopw [6, 8] (fun v6 v V => ∃ k : Nat, k ≤ n0 ∧ v = .int .i64 k ∧ v6 = .complex .f64 (FL.fI (h1' + QT.partI N pN (QT.claim1 N L) k)) (FL.fI (h2' + QT.partI N pN (QT.claim2 N L) k)) ∧ Hid (Below w.heap.size w V) ∧ Hid (V.heap[w.heap.size]? = some (.cells #[.slice (some ⟨b, o, none⟩) n0 c0, .slice a n c] 32)) ∧ Hid (V.heap[BN]? = some (.cells #[.string (str x.nm), .string (str x.pr), .complex .f64 (FL.fB x.o1) (FL.fB x.o2), .complex .f64 (FL.fB x.b1) (FL.fB x.b2), .complex .f64 (FL.fB x.l1) (FL.fB x.l2)] 176))) (fun _ v _ => n0 - (intOf v).toNat)
            case atStart => exact ⟨0, Nat.zero_le _, rfl, by rw [show QT.partI N pN (QT.claim1 N L) 0 = 0 from rfl, show QT.partI N pN (QT.claim2 N L) 0 = 0 from rfl, Int.add_zero, Int.add_zero], Bu, Gu, Mu⟩
            case round =>
              obtain ⟨k, hk, rfl, rfl, Bv, Gv, Mv⟩ := hrel
              clear Bu Gu Mu
              obtain ⟨t0, t1, _, _⟩ := cells2 Gv.out
              obtain ⟨z0, _⟩ := cells5 Mv.out
              by_cases hkl : k < n0
              · have h2 : (k : Int) < (n0 : Int) := by omega
                obtain ⟨y, hy⟩ : ∃ y, N[k]? = some y := ⟨_, List.getElem?_eq_getElem (by have := l0.out; omega)⟩
                have Hy := Lib.hid hy
                obtain ⟨b', o', ea, c0', c1', c2', c3', c4'⟩ := (HNb.out wr Bv.out).at k y hy
                simp only [Option.some.injEq, Addr.mk.injEq, and_true] at ea
                obtain ⟨rfl, rfl⟩ := ea
                have hBlt := (Array.getElem?_eq_some_iff.1 Gv.out).1
                have hMlt := (Array.getElem?_eq_some_iff.1 Mv.out).1
                have hblt := World.block_lt_of_cell? _ _ c0'
                have cont : Hid (∀ V, Below wr.heap.size wr V → (Hid (Below wr.heap.size wr V) ∧ V.cell? ⟨w.heap.size, 0, none⟩ = some (.slice (some ⟨b, o, none⟩) n0 c0) ∧ V.cell? ⟨w.heap.size, 1, none⟩ = some (.slice a n c) ∧ V.cell? ⟨BN, 0, none⟩ = some (.string (str x.nm)) ∧ V.cell? ⟨b, o + k * 5, none⟩ = some (.string (str y.nm)) ∧ V.cell? ⟨b, o + k * 5 + 1, none⟩ = some (.string (str y.pr)) ∧ V.cell? ⟨b, o + k * 5 + 2, none⟩ = some (.complex .f64 (FL.fB y.o1) (FL.fB y.o2)) ∧ V.cell? ⟨b, o + k * 5 + 3, none⟩ = some (.complex .f64 (FL.fB y.b1) (FL.fB y.b2)) ∧ V.cell? ⟨b, o + k * 5 + 4, none⟩ = some (.complex .f64 (FL.fB y.l1) (FL.fB y.l2)))) := fun V h => ⟨Lib.hid h, (World.cell?_of_block (a := ⟨w.heap.size, 0, none⟩) (h.block _ hBlt)).trans t0, (World.cell?_of_block (a := ⟨w.heap.size, 1, none⟩) (h.block _ hBlt)).trans t1, (World.cell?_of_block (a := ⟨BN, 0, none⟩) (h.block _ hMlt)).trans z0, (World.cell?_of_block (a := ⟨b, o + k * 5, none⟩) (h.block _ hblt)).trans c0', (World.cell?_of_block (a := ⟨b, o + k * 5 + 1, none⟩) (h.block _ hblt)).trans c1', (World.cell?_of_block (a := ⟨b, o + k * 5 + 2, none⟩) (h.block _ hblt)).trans c2', (World.cell?_of_block (a := ⟨b, o + k * 5 + 3, none⟩) (h.block _ hblt)).trans c3', (World.cell?_of_block (a := ⟨b, o + k * 5 + 4, none⟩) (h.block _ hblt)).trans c4'⟩
                have S0 := cont.out wr.drew (Below.refl _ _).drew
                have S1 := cont.out wr.drew.drew (Below.refl _ _).drew.drew
                obtain ⟨q, hq⟩ : ∃ q, pN y = q := ⟨_, rfl⟩
                have ht : ((str y.pr).toList == (str x.nm).toList) = q := by rw [str_toList, str_toList, ← HpN.out y, hq]
                have C1 : Hid (∀ V, (Hid (Below wr.heap.size wr V) ∧ V.cell? ⟨w.heap.size, 0, none⟩ = some (.slice (some ⟨b, o, none⟩) n0 c0) ∧ V.cell? ⟨w.heap.size, 1, none⟩ = some (.slice a n c) ∧ V.cell? ⟨BN, 0, none⟩ = some (.string (str x.nm)) ∧ V.cell? ⟨b, o + k * 5, none⟩ = some (.string (str y.nm)) ∧ V.cell? ⟨b, o + k * 5 + 1, none⟩ = some (.string (str y.pr)) ∧ V.cell? ⟨b, o + k * 5 + 2, none⟩ = some (.complex .f64 (FL.fB y.o1) (FL.fB y.o2)) ∧ V.cell? ⟨b, o + k * 5 + 3, none⟩ = some (.complex .f64 (FL.fB y.b1) (FL.fB y.b2)) ∧ V.cell? ⟨b, o + k * 5 + 4, none⟩ = some (.complex .f64 (FL.fB y.l1) (FL.fB y.l2))) → Calls Tryz.prog 112 #[.agg #[.slice (some ⟨b, o, none⟩) n0 c0, .slice a n c], .agg #[.string (str y.nm), .string (str y.pr), .complex .f64 (FL.fB y.o1) (FL.fB y.o2), .complex .f64 (FL.fB y.b1) (FL.fB y.b2), .complex .f64 (FL.fB y.l1) (FL.fB y.l2)]] V fun e w' => e = .returned (.complex .f64 (FL.fI (QT.claim1 N L y)) (FL.fI (QT.claim2 N L y))) ∧ (Hid (Below wr.heap.size wr w') ∧ w'.cell? ⟨w.heap.size, 0, none⟩ = some (.slice (some ⟨b, o, none⟩) n0 c0) ∧ w'.cell? ⟨w.heap.size, 1, none⟩ = some (.slice a n c) ∧ w'.cell? ⟨BN, 0, none⟩ = some (.string (str x.nm)) ∧ w'.cell? ⟨b, o + k * 5, none⟩ = some (.string (str y.nm)) ∧ w'.cell? ⟨b, o + k * 5 + 1, none⟩ = some (.string (str y.pr)) ∧ w'.cell? ⟨b, o + k * 5 + 2, none⟩ = some (.complex .f64 (FL.fB y.o1) (FL.fB y.o2)) ∧ w'.cell? ⟨b, o + k * 5 + 3, none⟩ = some (.complex .f64 (FL.fB y.b1) (FL.fB y.b2)) ∧ w'.cell? ⟨b, o + k * 5 + 4, none⟩ = some (.complex .f64 (FL.fB y.l1) (FL.fB y.l2)))) := fun V h =>
                  (HC.out V y (List.mem_of_getElem? Hy.out) (Bv.out.trans (h.1.out.mono Bv.out.size))).mono fun e w' ⟨e1, e2⟩ => ⟨e1, cont.out w' (h.1.out.trans (e2.mono h.1.out.size))⟩
                have fin : Hid (∀ V, (Hid (Below wr.heap.size wr V) ∧ V.cell? ⟨w.heap.size, 0, none⟩ = some (.slice (some ⟨b, o, none⟩) n0 c0) ∧ V.cell? ⟨w.heap.size, 1, none⟩ = some (.slice a n c) ∧ V.cell? ⟨BN, 0, none⟩ = some (.string (str x.nm)) ∧ V.cell? ⟨b, o + k * 5, none⟩ = some (.string (str y.nm)) ∧ V.cell? ⟨b, o + k * 5 + 1, none⟩ = some (.string (str y.pr)) ∧ V.cell? ⟨b, o + k * 5 + 2, none⟩ = some (.complex .f64 (FL.fB y.o1) (FL.fB y.o2)) ∧ V.cell? ⟨b, o + k * 5 + 3, none⟩ = some (.complex .f64 (FL.fB y.b1) (FL.fB y.b2)) ∧ V.cell? ⟨b, o + k * 5 + 4, none⟩ = some (.complex .f64 (FL.fB y.l1) (FL.fB y.l2))) → Below w.heap.size w V ∧ V.heap[w.heap.size]? = some (.cells #[.slice (some ⟨b, o, none⟩) n0 c0, .slice a n c] 32) ∧ V.heap[BN]? = some (.cells #[.string (str x.nm), .string (str x.pr), .complex .f64 (FL.fB x.o1) (FL.fB x.o2), .complex .f64 (FL.fB x.b1) (FL.fB x.b2), .complex .f64 (FL.fB x.l1) (FL.fB x.l2)] 176)) := fun V h => ⟨Bv.out.trans (h.1.out.mono Bv.out.size), (h.1.out.block _ hBlt).trans Gv.out, (h.1.out.block _ hMlt).trans Mv.out⟩
                clear hy cont hBlt hMlt hblt c0' c1' c2' c3' c4'
                cases q with
                | true =>
                  have q1 := QT.partI_yes (p := pN) (QT.claim1 N L) Hy.out hq
                  have q2 := QT.partI_yes (p := pN) (QT.claim2 N L) Hy.out hq
                  have hi6 : k + 1 ≤ 256 := by have := Hs0.out; omega
                  have d1 := P1.out k (by omega)
                  have d2 := P2.out k (by omega)
                  have d3 := P1.out (k + 1) hi6
                  have d4 := P2.out (k + 1) hi6
                  have d5 := HBc.out y (List.mem_of_getElem? Hy.out)
                  have d6 := hb1.out
                  have hadd : ∀ V : World, (binOp .add 43 (.complex .f64 (FL.fI (h1' + QT.partI N pN (QT.claim1 N L) k)) (FL.fI (h2' + QT.partI N pN (QT.claim2 N L) k))) (.complex .f64 (FL.fI (QT.claim1 N L y)) (FL.fI (QT.claim2 N L y)))).run Tryz.prog V = .ok (.complex .f64 (FL.fI (h1' + QT.partI N pN (QT.claim1 N L) (k + 1))) (FL.fI (h2' + QT.partI N pN (QT.claim2 N L) (k + 1)))) V := fun V => by
                    rw [q1, q2, ← Int.add_assoc, ← Int.add_assoc]
                    rw [q1] at d3
                    rw [q2] at d4
                    refine run_cadd _ _ _ _ _ V ?_ ?_ ?_ ?_ ?_ ?_ <;> unfold W53 <;> omega
                  clear q1 q2 d1 d2 d3 d4 d5 d6 hq
                  go_wp2_with fail
                  refine wp_region_noPanic ?_
                  refine wp_region_held_drew (S := fun V => (Hid (Below wr.heap.size wr V) ∧ V.cell? ⟨w.heap.size, 0, none⟩ = some (.slice (some ⟨b, o, none⟩) n0 c0) ∧ V.cell? ⟨w.heap.size, 1, none⟩ = some (.slice a n c) ∧ V.cell? ⟨BN, 0, none⟩ = some (.string (str x.nm)) ∧ V.cell? ⟨b, o + k * 5, none⟩ = some (.string (str y.nm)) ∧ V.cell? ⟨b, o + k * 5 + 1, none⟩ = some (.string (str y.pr)) ∧ V.cell? ⟨b, o + k * 5 + 2, none⟩ = some (.complex .f64 (FL.fB y.o1) (FL.fB y.o2)) ∧ V.cell? ⟨b, o + k * 5 + 3, none⟩ = some (.complex .f64 (FL.fB y.b1) (FL.fB y.b2)) ∧ V.cell? ⟨b, o + k * 5 + 4, none⟩ = some (.complex .f64 (FL.fB y.l1) (FL.fB y.l2)))) (by kernel_rfl) S0 (fun hHeld => ?_)
                  refine rTk 0 ?_; try simp only [Act.put, rP1, rP2, rP3]
                  refine rTk 1 ?_; try simp only [Act.put, rP1, rP2, rP3]
                  refine rTk 2 ?_; try simp only [Act.put, rP1, rP2, rP3]
                  refine rTk 3 ?_; try simp only [Act.put, rP1, rP2, rP3]
                  refine rTk 4 ?_; try simp only [Act.put, rP1, rP2, rP3]
                  refine rTk 5 ?_; try simp only [Act.put, rP1, rP2, rP3]
                  refine rTk 6 ?_; try simp only [Act.put, rP1, rP2, rP3]
                  refine rTk 7 ?_; try simp only [Act.put, rP1, rP2, rP3]
                  refine rTk 8 ?_; try simp only [Act.put, rP1, rP2, rP3]
                  refine wpAnyH_done (by kernel_rfl) ?_ _
                  refine NoPanic.normal ?_
                  clear S0 hHeld
                  go_wp2_with fail
                  refine wp_region_noPanic ?_
                  refine wp_region_held_drew (S := fun V => (Hid (Below wr.heap.size wr V) ∧ V.cell? ⟨w.heap.size, 0, none⟩ = some (.slice (some ⟨b, o, none⟩) n0 c0) ∧ V.cell? ⟨w.heap.size, 1, none⟩ = some (.slice a n c) ∧ V.cell? ⟨BN, 0, none⟩ = some (.string (str x.nm)) ∧ V.cell? ⟨b, o + k * 5, none⟩ = some (.string (str y.nm)) ∧ V.cell? ⟨b, o + k * 5 + 1, none⟩ = some (.string (str y.pr)) ∧ V.cell? ⟨b, o + k * 5 + 2, none⟩ = some (.complex .f64 (FL.fB y.o1) (FL.fB y.o2)) ∧ V.cell? ⟨b, o + k * 5 + 3, none⟩ = some (.complex .f64 (FL.fB y.b1) (FL.fB y.b2)) ∧ V.cell? ⟨b, o + k * 5 + 4, none⟩ = some (.complex .f64 (FL.fB y.l1) (FL.fB y.l2)))) (by kernel_rfl) S1 (fun hHeld => ?_)
                  refine rTk 0 ?_; try simp only [Act.put, rP1, rP2, rP3]
                  refine rTk 1 ?_; try simp only [Act.put, rP1, rP2, rP3]
                  refine rTk 2 ?_; try simp only [Act.put, rP1, rP2, rP3]
                  refine rTk 3 ?_; try simp only [Act.put, rP1, rP2, rP3]
                  refine rTk 4 ?_; try simp only [Act.put, rP1, rP2, rP3]
                  refine rTk 5 ?_; try simp only [Act.put, rP1, rP2, rP3]
                  refine rTk 6 ?_; try simp only [Act.put, rP1, rP2, rP3]
                  refine rBr 7 fun K hK => ?_
                  go_simp
                  go_at_call 112
                  refine (C1.out _ ?_).mono ?_
                  assumption
                  rintro e vx ⟨rfl, kx⟩
                  clear C1
                  try (go_wp2_with fail)
                  refine hK.out _ _ (by (try dsimp only); assumption) (fun hHeld => ?_)
                  clear hK K
                  try simp only [Act.put, rP1, rP2, rP3]
                  refine rTk 8 ?_; try simp only [Act.put, rP1, rP2, rP3]
                  refine rTk 9 ?_; try simp only [Act.put, rP1, rP2, rP3]
                  refine wpAnyH_done (by kernel_rfl) ?_ _
                  refine NoPanic.normal ?_
                  have FX := Lib.hid (fin.out vx kx)
                  clear t0 t1 z0 fin hHeld S1 kx hadd
                  go_wp2
                  exact ⟨⟨k + 1, by omega, by simp, rfl, Lib.hid FX.out.1, Lib.hid FX.out.2.1, Lib.hid FX.out.2.2⟩, by simp [intOf]; omega⟩
                | false =>
                  have Q1 := Lib.hid (QT.partI_no (p := pN) (QT.claim1 N L) Hy.out hq)
                  have Q2 := Lib.hid (QT.partI_no (p := pN) (QT.claim2 N L) Hy.out hq)
                  clear hq
                  go_wp2_with fail
                  refine wp_region_noPanic ?_
                  refine wp_region_held_drew (S := fun V => (Hid (Below wr.heap.size wr V) ∧ V.cell? ⟨w.heap.size, 0, none⟩ = some (.slice (some ⟨b, o, none⟩) n0 c0) ∧ V.cell? ⟨w.heap.size, 1, none⟩ = some (.slice a n c) ∧ V.cell? ⟨BN, 0, none⟩ = some (.string (str x.nm)) ∧ V.cell? ⟨b, o + k * 5, none⟩ = some (.string (str y.nm)) ∧ V.cell? ⟨b, o + k * 5 + 1, none⟩ = some (.string (str y.pr)) ∧ V.cell? ⟨b, o + k * 5 + 2, none⟩ = some (.complex .f64 (FL.fB y.o1) (FL.fB y.o2)) ∧ V.cell? ⟨b, o + k * 5 + 3, none⟩ = some (.complex .f64 (FL.fB y.b1) (FL.fB y.b2)) ∧ V.cell? ⟨b, o + k * 5 + 4, none⟩ = some (.complex .f64 (FL.fB y.l1) (FL.fB y.l2)))) (by kernel_rfl) S0 (fun hHeld => ?_)
                  refine rTk 0 ?_; try simp only [Act.put, rP1, rP2, rP3]
                  refine rTk 1 ?_; try simp only [Act.put, rP1, rP2, rP3]
                  refine rTk 2 ?_; try simp only [Act.put, rP1, rP2, rP3]
                  refine rTk 3 ?_; try simp only [Act.put, rP1, rP2, rP3]
                  refine rTk 4 ?_; try simp only [Act.put, rP1, rP2, rP3]
                  refine rTk 5 ?_; try simp only [Act.put, rP1, rP2, rP3]
                  refine rTk 6 ?_; try simp only [Act.put, rP1, rP2, rP3]
                  refine rTk 7 ?_; try simp only [Act.put, rP1, rP2, rP3]
                  refine rTk 8 ?_; try simp only [Act.put, rP1, rP2, rP3]
                  refine wpAnyH_done (by kernel_rfl) ?_ _
                  refine NoPanic.normal ?_
                  have FX := Lib.hid (fin.out wr.drew S0)
                  clear fin hHeld S1 C1 S0
                  go_wp2
                  exact ⟨⟨k + 1, by omega, by simp, by rw [Q1.out, Q2.out], Lib.hid FX.out.1, Lib.hid FX.out.2.1, Lib.hid FX.out.2.2⟩, by simp [intOf]; omega⟩
              · obtain rfl : n0 = k := by omega
                obtain ⟨A1, eA1⟩ : ∃ z, z = h1' + QT.partI N pN (QT.claim1 N L) n0 := ⟨_, rfl⟩
                obtain ⟨A2, eA2⟩ : ∃ z, z = h2' + QT.partI N pN (QT.claim2 N L) n0 := ⟨_, rfl⟩
                have a1 : QT.asked1 N L x.nm = A1 := by rw [HEb.out.1, eA1, QT.partI_end (L := N) (p := pN) (QT.claim1 N L) (i := n0) (by have := l0.out; omega)]
                have a2 : QT.asked2 N L x.nm = A2 := by rw [HEb.out.2, eA2, QT.partI_end (L := N) (p := pN) (QT.claim2 N L) (i := n0) (by have := l0.out; omega)]
                have d1 := P1.out n0 Hs0.out
                have d2 := P2.out n0 Hs0.out
                have d6 := hb1.out
                have g1 := ford_gt A1 L1 (by rw [eA1]; unfold W53; omega) hLb.out.1
                have g2 := ford_gt A2 L2 (by rw [eA2]; unfold W53; omega) hLb.out.2
                rw [← eA1, ← eA2]
                have Hno' := Hno.out
                have Hnext' := Hnext.out
                rw [a1, a2, ← HeL.out.1, ← HeL.out.2] at Hno' Hnext'
                clear eA1 eA2 a1 a2 d1 d2 d6 hb1 P1 P2 HEb Hno Hnext HeL hLb z0 hkl
                by_cases h1 : L1 < A1
                · have hb := Lib.hid (Hno' (by rw [decide_eq_false (by omega), Bool.false_and]))
                  rw [decide_eq_true h1] at g1
                  clear Hno' Hnext' h1 g2
                  go_wp2
                  go_ret
                  exact ⟨by rw [hb.out]; rfl, Bv.out⟩
                · rw [decide_eq_false h1] at g1
                  by_cases h2 : L2 < A2
                  · have hb := Lib.hid (Hno' (by rw [decide_eq_false (p := A2 ≤ L2) (by omega), Bool.and_false]))
                    rw [decide_eq_true h2] at g2
                    clear Hno' Hnext' h1 h2
                    go_wp2
                    go_ret
                    exact ⟨by rw [hb.out]; rfl, Bv.out⟩
                  · have NX := Hnext' (by rw [decide_eq_true (p := A1 ≤ L1) (by omega), decide_eq_true (p := A2 ≤ L2) (by omega)]; rfl)
                    rw [decide_eq_false h2] at g2
                    clear Hno' Hnext' h1 h2
                    go_wp2
                    exact ⟨⟨i + 1, by omega, by simp, NX, Bv, Gv⟩, by simp [intOf]; omega⟩
    · obtain rfl : i = n0 := by omega
      have hr : Hid (QT.holdsB N L = true) := Lib.hid (QT.all_yes (fun j x hj hx => Hp.out j x (by have := l0.out; omega) hx))
      clear Hp
      go_wp2
      go_ret
      exact ⟨by rw [hr.out]; rfl, Bv.out⟩
end Go.Proofs.YtkanjdijmdjbaaaGreatDoor
