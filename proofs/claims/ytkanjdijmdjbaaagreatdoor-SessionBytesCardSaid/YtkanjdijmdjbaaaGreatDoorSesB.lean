/-
  SessionBytes' walk.
  Conditions: the listed variables read as listed ('Env'); the bytes read as such and are at most 2^47 many.
-/
import Derived.Test.YtkanjdijmdjbaaaGreatDoorG22
import Derived.Test.YtkanjdijmdjbaaaGreatDoorSesF
import Derived.Test.YtkanjdijmdjbaaaGreatDoorTabR
import Derived.Test.YtkanjdijmdjbaaaGreatDoorREnc
import Derived.Test.YtkanjdijmdjbaaaGreatDoorSurX
namespace Go.Proofs.YtkanjdijmdjbaaaGreatDoor
open Go Go.RowKit

theorem QT.decT_enc {l : List UInt8} {N : List QT.Nd} {U : List QT.Us} (h : QT.decT l = some (N, U)) : l = QT.encT N U := by
  unfold QT.decT at h
  split at h
  · rename_i hc
    have e := Option.some.inj h
    obtain ⟨h1, h2, _⟩ := hc
    obtain ⟨N1, U1, l1, k1, ht⟩ : ∃ N U l' k, QT.takeT l 0 = (N, U, l', k) := ⟨_, _, _, _, rfl⟩
    rw [ht] at e h1 h2
    simp only [Prod.mk.injEq] at e h1 h2
    obtain ⟨rfl, rfl⟩ := e
    rw [h1, h2] at ht
    obtain ⟨_, hl⟩ := QT.takeT_back ht
    simpa using hl
  · cases h
theorem QT.encL_bound {α : Type} (f : α → List UInt8) (m : Nat) : ∀ L : List α, (∀ x ∈ L, (f x).length ≤ m) → (QT.encL f L).length ≤ L.length * m
  | [], _ => by simp [QT.encL]
  | x :: r, h => by
    have h1 := h x (by simp)
    have h2 := QT.encL_bound f m r (fun y hy => h y (by simp [hy]))
    rw [QT.encL, List.length_append, List.length_cons, Nat.add_mul]
    omega
theorem QT.encTab_room {l : List UInt8} {N : List QT.Nd} {U : List QT.Us} {L : List QT.Sn} (h : QT.decTab l = some (N, U, L)) (hl : l.length ≤ 4000) (hf : ∀ x ∈ L, QT.fineSn x) (hL : L.length ≤ 64) : (QT.encTab N U L).length + 4000 ≤ roomB := by
  have hy : (QT.takeTab l).1.length ≤ 4000 := Nat.le_trans (QT.runG 98 1048576 l 0).2 hl
  have hE : (QT.takeTab l).1 = QT.encT N U := by
    unfold QT.decTab at h
    cases hd : QT.decT (QT.takeTab l).1 with
    | none => rw [hd] at h; cases h
    | some p =>
      obtain ⟨N1, U1⟩ := p
      rw [hd] at h
      simp only at h
      split at h
      · have e := Option.some.inj h
        simp only [Prod.mk.injEq] at e
        obtain ⟨rfl, rfl, _⟩ := e
        exact QT.decT_enc hd
      · cases h
  rw [hE] at hy
  have h1 := QT.bB_len (d := QT.encT N U) (by omega)
  have h2 := PK.uB_len L.length (by omega)
  have h3 := QT.encL_bound QT.encSn 300 L (fun x hx => QT.encSn_len (hf x hx))
  have h4 : L.length * 300 ≤ 64 * 300 := Nat.mul_le_mul_right _ hL
  unfold QT.encTab
  simp only [List.length_append, roomB]
  omega
set_option maxRecDepth 100000 in
set_option maxHeartbeats 8000000 in
theorem sessionBytes_any (a : Option Addr) (c : Nat) (l : List UInt8) (w : World) (hE : Env w) (hv : IsB w (.slice a l.length c) l) (hl47 : l.length ≤ roomB) :
    Calls Tryz.prog 3 #[.slice a l.length c] w fun e w' => e = .returned (.bool true) ∧ Below w.heap.size w w' := by
  by_cases hlen : 4000 < l.length
  · have h1 : (4000 : Int) < (l.length : Int) := by omega
    have HS1 := Lib.hid (sureS_any w)
    clear hE hv hl47 hlen
    go_enter Tryz.func3, Tryz.ntmps3
    go_wp2_with fail
    refine HS1.out.mono ?_
    rintro e w1 ⟨rfl, b1⟩
    have B1 := Lib.hid b1
    clear b1
    go_wp2
    go_ret
    exact ⟨rfl, B1.out⟩
  · have h1 : ¬ (4000 : Int) < (l.length : Int) := by omega
    have HD := Lib.hid (decodeS_any a c l w hE hv hl47)
    have HR := Lib.hid (fun (V : World) (b : Below w.heap.size w V) => rdecTab_any a c l V (hv.below b) hl47)
    have HNum : Hid (∀ k V, Below w.heap.size w V → Calls Tryz.prog 7 #[errV k] V fun e w' => e = .returned (.int .i64 k) ∧ Below V.heap.size V w') := Lib.hid (fun k V b => num_any k V (hE.below b))
    have HE := Lib.hid hE
    have Hlen := Lib.hid hlen
    clear hE hv hl47 hlen
    cases hd : QT.decTab l with
    | none =>
      rw [hd] at HD HR
      have HN3 : Hid (∀ V, Below w.heap.size w V → Calls Tryz.prog 7 #[.iface 78 (.int .i64 3)] V fun e w' => e = .returned (.int .i64 3) ∧ Below V.heap.size V w') := Lib.hid (HNum.out 3)
      clear hd HNum HE
      go_enter Tryz.func3, Tryz.ntmps3
      go_wp2_with fail
      refine HD.out.mono ?_
      rintro e w1 ⟨he, b1⟩
      simp only at he
      subst he
      have B1 := Lib.hid b1
      have HR1 := Lib.hid (HR.out w1 b1)
      clear HD HR b1
      go_wp2_with fail
      refine HR1.out.mono ?_
      rintro e w2 ⟨he, b2⟩
      simp only at he
      subst he
      have b12 := B1.out.trans (b2.mono B1.out.size)
      obtain ⟨w3, hw3⟩ : ∃ V, V = w2.alloc (.cells #[.slice none 0 0, .slice none 0 0, .slice none 0 0] 35) := ⟨_, rfl⟩
      have b3 : Below w.heap.size w w3 := by rw [hw3]; exact b12.alloc b12.size _
      have B3 := Lib.hid b3
      have HN1 := Lib.hid (HN3.out w3 b3)
      have HW3 := Lib.hid hw3.symm
      clear b12 b2 b3 hw3 HR1 B1 HN3
      go_wp2_with fail
      rw [HW3.out]
      clear HW3
      refine HN1.out.mono ?_
      rintro e w4 ⟨rfl, b4⟩
      have b34 := B3.out.trans (b4.mono B3.out.size)
      have B4 := Lib.hid b34
      have HS4 : Hid (∀ V, Hid (Below w.heap.size w V) → Calls Tryz.prog 4 #[] V fun e w' => e = .returned (.bool true) ∧ Hid (Below w.heap.size w w')) := Lib.hid (fun V b => (sureS_any V).mono fun e w' ⟨q1, q2⟩ => ⟨q1, Lib.hid (b.out.trans (q2.mono b.out.size))⟩)
      have S0 : Hid (Below w.heap.size w w4.drew) := Lib.hid b34.drew
      clear b4 HN1 B3 b34
      go_wp2_with fail
      refine wp_region_noPanic ?_
      refine wp_region_held_drew (S := fun V => Hid (Below w.heap.size w V)) (by kernel_rfl) S0 (fun hHeld => ?_)
      refine rTk 0 ?_; try simp only [Act.put, rP1, rP2, rP3]
      refine rTk 1 ?_; try simp only [Act.put, rP1, rP2, rP3]
      refine rTk 2 ?_; try simp only [Act.put, rP1, rP2, rP3]
      refine rSk 3 ?_; try simp only [Act.put, rP1, rP2, rP3]
      refine rSk 4 ?_; try simp only [Act.put, rP1, rP2, rP3]
      refine rSk 5 ?_; try simp only [Act.put, rP1, rP2, rP3]
      refine rSk 6 ?_; try simp only [Act.put, rP1, rP2, rP3]
      refine rSk 7 ?_; try simp only [Act.put, rP1, rP2, rP3]
      refine rSk 8 ?_; try simp only [Act.put, rP1, rP2, rP3]
      refine rSk 9 ?_; try simp only [Act.put, rP1, rP2, rP3]
      refine rTk 10 ?_; try simp only [Act.put, rP1, rP2, rP3]
      refine rTk 11 ?_; try simp only [Act.put, rP1, rP2, rP3]
      refine rBr 12 fun K hK => ?_
      go_simp
      go_at_call 4
      refine (HS4.out _ ?_).mono ?_
      assumption
      rintro e v1 ⟨rfl, k1⟩
      try (go_wp2_with fail)
      refine hK.out _ _ (by (try dsimp only); assumption) (fun hHeld => ?_)
      clear hK K
      try simp only [Act.put, rP1, rP2, rP3]
      refine rTk 13 ?_; try simp only [Act.put, rP1, rP2, rP3]
      refine rTk 14 ?_; try simp only [Act.put, rP1, rP2, rP3]
      refine wpAnyH_done (by kernel_rfl) ?_ _
      refine NoPanic.normal ?_
      clear S0 hHeld
      go_wp2
      go_ret
      exact ⟨rfl, k1.out⟩
    | some p =>
      obtain ⟨N, U, L⟩ := p
      have hdc := hd
      rw [hd] at HD HR
      have HN0 : Hid (∀ V, Below w.heap.size w V → Calls Tryz.prog 7 #[.nilIface] V fun e w' => e = .returned (.int .i64 0) ∧ Below V.heap.size V w') := Lib.hid (HNum.out 0)
      have Hdc := Lib.hid hdc
      clear hd HNum hdc
      go_enter Tryz.func3, Tryz.ntmps3
      go_wp2_with fail
      refine HD.out.mono ?_
      rintro e w1 ⟨⟨TB, mb, T, bn, bu, n, m, k, he, hT, hF⟩, b1⟩
      subst he
      have B1 := Lib.hid b1
      have HT1 := Lib.hid hT
      have HF1 := Lib.hid hF
      have HR1 := Lib.hid (HR.out w1 b1)
      clear HD HR b1 hT hF
      go_wp2_with fail
      refine HR1.out.mono ?_
      rintro e w2 ⟨⟨a0, n0, c0, a1, n1, c1, a2, n2, c2, he, rN, rU, rS⟩, b2⟩
      subst he
      have b12 := B1.out.trans (b2.mono B1.out.size)
      obtain ⟨w3, hw3⟩ : ∃ V, V = w2.alloc (.cells #[.slice a0 n0 c0, .slice a1 n1 c1, .slice a2 n2 c2] 35) := ⟨_, rfl⟩
      obtain ⟨YB, hYB⟩ : ∃ B, B = w2.heap.size := ⟨_, rfl⟩
      have b23 : Below w2.heap.size w2 w3 := by rw [hw3]; exact (Below.refl _ _).alloc (Nat.le_refl _) _
      have g3 : w3.heap[YB]? = some (.cells #[.slice a0 n0 c0, .slice a1 n1 c1, .slice a2 n2 c2] 35) := by rw [hw3, hYB]; exact heap_alloc_new _ _
      have b3 : Below w.heap.size w w3 := b12.trans (b23.mono b12.size)
      have hY3 : YB < w3.heap.size := (Array.getElem?_eq_some_iff.1 g3).1
      obtain ⟨⟨y0, y1, y2⟩, _⟩ := cells3f g3
      have rN3 := rN.below b23
      have rU3 := rU.below b23
      have rS3 := rS.below b23
      have T3 := HT1.out.below (b2.trans (b23.mono b2.size))
      have B3 := Lib.hid b3
      have HN1 := Lib.hid (HN0.out w3 b3)
      have HW3 := Lib.hid hw3.symm
      have HYB := Lib.hid hYB.symm
      have hroom : (QT.encTab N U L).length + 4000 ≤ roomB := QT.encTab_room Hdc.out (by have := Hlen.out; omega) HF1.out.fin HF1.out.len
      obtain ⟨E, hEq⟩ : ∃ E, E = QT.encTab N U L := ⟨_, rfl⟩
      have cont : Hid (∀ V, Below w3.heap.size w3 V → (Hid (Below w3.heap.size w3 V) ∧ V.cell? ⟨YB, 0, none⟩ = some (.slice a0 n0 c0) ∧ V.cell? ⟨YB, 1, none⟩ = some (.slice a1 n1 c1) ∧ V.cell? ⟨YB, 2, none⟩ = some (.slice a2 n2 c2))) := Lib.hid (fun V b => ⟨Lib.hid b, (World.cell?_of_block (a := ⟨YB, 0, none⟩) (b.block YB hY3)).trans y0, (World.cell?_of_block (a := ⟨YB, 1, none⟩) (b.block YB hY3)).trans y1, (World.cell?_of_block (a := ⟨YB, 2, none⟩) (b.block YB hY3)).trans y2⟩)
      have HV : Hid (∀ (V : World) a n c, IsB V (.slice a n c) E → (convert 22 9 (.slice a n c)).run Tryz.prog V = .ok (.string (str E)) V) := Lib.hid (fun V a n c h => run_toStr (P := Tryz.prog) T22 U9 h)
      have CE : Hid (∀ V, (Hid (Below w3.heap.size w3 V) ∧ V.cell? ⟨YB, 0, none⟩ = some (.slice a0 n0 c0) ∧ V.cell? ⟨YB, 1, none⟩ = some (.slice a1 n1 c1) ∧ V.cell? ⟨YB, 2, none⟩ = some (.slice a2 n2 c2)) → Calls Tryz.prog 8 #[.pointer (some ⟨TB, 0, none⟩)] V fun e w' => (∃ ae ne ce, e = .returned (.slice ae ne ce) ∧ Hid (IsB w' (.slice ae ne ce) E ∧ Below V.heap.size V w')) ∧ (Hid (Below w3.heap.size w3 w') ∧ w'.cell? ⟨YB, 0, none⟩ = some (.slice a0 n0 c0) ∧ w'.cell? ⟨YB, 1, none⟩ = some (.slice a1 n1 c1) ∧ w'.cell? ⟨YB, 2, none⟩ = some (.slice a2 n2 c2))) := Lib.hid (fun V h => by
        refine (encodeS_any TB mb T bn bu n m k N U L V (T3.below h.1.out) HF1.out (HE.out.wr (b3.trans (h.1.out.mono b3.size)) HE.out.big) hroom).mono ?_
        rintro e w' ⟨⟨ae, ne, ce, rfl, _, o, _⟩, b⟩
        exact ⟨⟨ae, ne, ce, rfl, Lib.hid ⟨by rw [hEq]; exact o.isB, b⟩⟩, cont.out w' (h.1.out.trans (b.mono h.1.out.size))⟩)
      have CR : Hid (∀ V, (Hid (Below w3.heap.size w3 V) ∧ V.cell? ⟨YB, 0, none⟩ = some (.slice a0 n0 c0) ∧ V.cell? ⟨YB, 1, none⟩ = some (.slice a1 n1 c1) ∧ V.cell? ⟨YB, 2, none⟩ = some (.slice a2 n2 c2)) → Calls Tryz.prog 9 #[.agg #[.slice a0 n0 c0, .slice a1 n1 c1, .slice a2 n2 c2]] V fun e w' => (∃ ae ne ce, e = .returned (.slice ae ne ce) ∧ Hid (IsB w' (.slice ae ne ce) E ∧ Below V.heap.size V w')) ∧ (Hid (Below w3.heap.size w3 w') ∧ w'.cell? ⟨YB, 0, none⟩ = some (.slice a0 n0 c0) ∧ w'.cell? ⟨YB, 1, none⟩ = some (.slice a1 n1 c1) ∧ w'.cell? ⟨YB, 2, none⟩ = some (.slice a2 n2 c2))) := Lib.hid (fun V h => by
        have q1 := rN3.len.1
        have q2 := rU3.len.1
        have q5 := rS3.len.1
        have q3 := HF1.out.fu.rise.lN
        have q4 := HF1.out.fu.rise.lU
        have q6 := HF1.out.len
        refine (rencTab_any a0 n0 c0 a1 n1 c1 a2 n2 c2 N U L V (rN3.below h.1.out) (rU3.below h.1.out) (rS3.below h.1.out) (by omega) (by omega) (by omega) HF1.out.fu.rise.fN HF1.out.fu.rise.fU HF1.out.fin hroom).mono ?_
        rintro e w' ⟨⟨ae, ne, ce, rfl, _, o, _⟩, b⟩
        exact ⟨⟨ae, ne, ce, rfl, Lib.hid ⟨by rw [hEq]; exact o.isB, b⟩⟩, cont.out w' (h.1.out.trans (b.mono h.1.out.size))⟩)
      have CS : Hid (∀ V, (Hid (Below w3.heap.size w3 V) ∧ V.cell? ⟨YB, 0, none⟩ = some (.slice a0 n0 c0) ∧ V.cell? ⟨YB, 1, none⟩ = some (.slice a1 n1 c1) ∧ V.cell? ⟨YB, 2, none⟩ = some (.slice a2 n2 c2)) → Calls Tryz.prog 4 #[] V fun e w' => e = .returned (.bool true) ∧ (Hid (Below w3.heap.size w3 w') ∧ w'.cell? ⟨YB, 0, none⟩ = some (.slice a0 n0 c0) ∧ w'.cell? ⟨YB, 1, none⟩ = some (.slice a1 n1 c1) ∧ w'.cell? ⟨YB, 2, none⟩ = some (.slice a2 n2 c2))) := Lib.hid (fun V h => (sureS_any V).mono fun e w' ⟨q1, q2⟩ => ⟨q1, cont.out w' (h.1.out.trans (q2.mono h.1.out.size))⟩)
      have fin : Hid (∀ V, (Hid (Below w3.heap.size w3 V) ∧ V.cell? ⟨YB, 0, none⟩ = some (.slice a0 n0 c0) ∧ V.cell? ⟨YB, 1, none⟩ = some (.slice a1 n1 c1) ∧ V.cell? ⟨YB, 2, none⟩ = some (.slice a2 n2 c2)) → Below w.heap.size w V) := Lib.hid (fun V h => b3.trans (h.1.out.mono b3.size))
      clear b12 b23 b2 b3 hw3 HR1 B1 HN0 hYB g3 hY3 y0 y1 y2 rN rU rS rN3 rU3 rS3 T3 HT1 Hlen hroom B3 HF1 HE Hdc hEq
      go_wp2_with fail
      rw [HW3.out, HYB.out]
      clear HW3 HYB
      refine HN1.out.mono ?_
      rintro e w4 ⟨rfl, b4⟩
      have S0 := cont.out w4.drew b4.drew
      clear b4 HN1 cont
      go_wp2_with fail
      refine wp_region_noPanic ?_
      refine wp_region_held_drew (S := fun V => (Hid (Below w3.heap.size w3 V) ∧ V.cell? ⟨YB, 0, none⟩ = some (.slice a0 n0 c0) ∧ V.cell? ⟨YB, 1, none⟩ = some (.slice a1 n1 c1) ∧ V.cell? ⟨YB, 2, none⟩ = some (.slice a2 n2 c2))) (by kernel_rfl) S0 (fun hHeld => ?_)
      refine rTk 0 ?_; try simp only [Act.put, rP1, rP2, rP3]
      refine rTk 1 ?_; try simp only [Act.put, rP1, rP2, rP3]
      refine rTk 2 ?_; try simp only [Act.put, rP1, rP2, rP3]
      refine rTk 3 ?_; try simp only [Act.put, rP1, rP2, rP3]
      refine rTk 6 ?_; try simp only [Act.put, rP1, rP2, rP3]
      refine rBr 4 fun K hK => ?pe4
      case pe4 =>
        go_simp
        go_at_call 8
        refine (CE.out _ ?_).mono ?_
        assumption
        rintro e v1 ⟨⟨ae, ne, ce, rfl, ie⟩, k1⟩
        have ec1 := HV.out v1 _ _ _ ie.out.1
        try (go_wp2_with fail)
        refine hK.out _ _ (by (try dsimp only); assumption) (fun hHeld => ?_)
        clear hK K
        try simp only [Act.put, rP1, rP2, rP3]
        refine wpAnyH_ready (rs := [5, 7]) (by kernel_rfl) (by simp) ?_
        refine AllReadyH.cons (List.getElem?_toArray.trans rfl) (fun K hK => ?qa) (AllReadyH.cons (List.getElem?_toArray.trans rfl) (fun K hK => ?qb) (AllReadyH.nil))
        case qa =>
          go_simp
          try (go_wp2_with fail)
          refine hK.out _ _ (by (try dsimp only); assumption) (fun hHeld => ?_)
          clear hK K
          try simp only [Act.put, rP1, rP2, rP3]
          refine rBr 7 fun K hK => ?pA7
          case pA7 =>
            go_simp
            go_at_call 9
            refine (CR.out _ ?_).mono ?_
            assumption
            rintro e v2 ⟨⟨ar, nr, cr, rfl, ir⟩, k2⟩
            have ec2 := HV.out v2 _ _ _ ir.out.1
            have ec1b := HV.out v2 _ _ _ (ie.out.1.below ir.out.2)
            try (go_wp2_with fail)
            refine hK.out _ _ (by (try dsimp only); assumption) (fun hHeld => ?_)
            clear hK K
            try simp only [Act.put, rP1, rP2, rP3]
            refine rBr 8 fun K hK => ?pA8
            case pA8 =>
              go_simp
              try (go_wp2_with fail)
              refine hK.out _ _ (by (try dsimp only); assumption) (fun hHeld => ?_)
              clear hK K
              try simp only [Act.put, rP1, rP2, rP3]
              refine rTk 9 ?_; try simp only [Act.put, rP1, rP2, rP3]
              refine rTk 10 ?_; try simp only [Act.put, rP1, rP2, rP3]
              refine rTk 11 ?_; try simp only [Act.put, rP1, rP2, rP3]
              refine rBr 12 fun K hK => ?psA
              case psA =>
                go_simp
                go_at_call 4
                refine (CS.out _ ?_).mono ?_
                assumption
                rintro e v3 ⟨rfl, k3⟩
                try (go_wp2_with fail)
                refine hK.out _ _ (by (try dsimp only); assumption) (fun hHeld => ?_)
                clear hK K
                try simp only [Act.put, rP1, rP2, rP3]
                refine rTk 13 ?_; try simp only [Act.put, rP1, rP2, rP3]
                refine rTk 14 ?_; try simp only [Act.put, rP1, rP2, rP3]
                refine wpAnyH_done (by kernel_rfl) ?_ _
                refine NoPanic.normal ?_
                have Fin := Lib.hid (fin.out v3 k3)
                clear S0 hHeld k1 k2 k3
                go_wp2
                go_ret
                exact ⟨rfl, Fin.out⟩
        case qb =>
          go_simp
          go_at_call 9
          refine (CR.out _ ?_).mono ?_
          assumption
          rintro e v2 ⟨⟨ar, nr, cr, rfl, ir⟩, k2⟩
          have ec2 := HV.out v2 _ _ _ ir.out.1
          have ec1b := HV.out v2 _ _ _ (ie.out.1.below ir.out.2)
          try (go_wp2_with fail)
          refine hK.out _ _ (by (try dsimp only); assumption) (fun hHeld => ?_)
          clear hK K
          try simp only [Act.put, rP1, rP2, rP3]
          refine wpAnyH_ready (rs := [5, 8]) (by kernel_rfl) (by simp) ?_
          refine AllReadyH.cons (List.getElem?_toArray.trans rfl) (fun K hK => ?qc) (AllReadyH.cons (List.getElem?_toArray.trans rfl) (fun K hK => ?qd) (AllReadyH.nil))
          case qc =>
            go_simp
            try (go_wp2_with fail)
            refine hK.out _ _ (by (try dsimp only); assumption) (fun hHeld => ?_)
            clear hK K
            try simp only [Act.put, rP1, rP2, rP3]
            refine rBr 8 fun K hK => ?pC8
            case pC8 =>
              go_simp
              try (go_wp2_with fail)
              refine hK.out _ _ (by (try dsimp only); assumption) (fun hHeld => ?_)
              clear hK K
              try simp only [Act.put, rP1, rP2, rP3]
              refine rTk 9 ?_; try simp only [Act.put, rP1, rP2, rP3]
              refine rTk 10 ?_; try simp only [Act.put, rP1, rP2, rP3]
              refine rTk 11 ?_; try simp only [Act.put, rP1, rP2, rP3]
              refine rBr 12 fun K hK => ?psC
              case psC =>
                go_simp
                go_at_call 4
                refine (CS.out _ ?_).mono ?_
                assumption
                rintro e v3 ⟨rfl, k3⟩
                try (go_wp2_with fail)
                refine hK.out _ _ (by (try dsimp only); assumption) (fun hHeld => ?_)
                clear hK K
                try simp only [Act.put, rP1, rP2, rP3]
                refine rTk 13 ?_; try simp only [Act.put, rP1, rP2, rP3]
                refine rTk 14 ?_; try simp only [Act.put, rP1, rP2, rP3]
                refine wpAnyH_done (by kernel_rfl) ?_ _
                refine NoPanic.normal ?_
                have Fin := Lib.hid (fin.out v3 k3)
                clear S0 hHeld k1 k2 k3
                go_wp2
                go_ret
                exact ⟨rfl, Fin.out⟩
          case qd =>
            go_simp
            try (go_wp2_with fail)
            refine hK.out _ _ (by (try dsimp only); assumption) (fun hHeld => ?_)
            clear hK K
            try simp only [Act.put, rP1, rP2, rP3]
            refine rBr 5 fun K hK => ?pD5
            case pD5 =>
              go_simp
              try (go_wp2_with fail)
              refine hK.out _ _ (by (try dsimp only); assumption) (fun hHeld => ?_)
              clear hK K
              try simp only [Act.put, rP1, rP2, rP3]
              refine rTk 9 ?_; try simp only [Act.put, rP1, rP2, rP3]
              refine rTk 10 ?_; try simp only [Act.put, rP1, rP2, rP3]
              refine rTk 11 ?_; try simp only [Act.put, rP1, rP2, rP3]
              refine rBr 12 fun K hK => ?psD
              case psD =>
                go_simp
                go_at_call 4
                refine (CS.out _ ?_).mono ?_
                assumption
                rintro e v3 ⟨rfl, k3⟩
                try (go_wp2_with fail)
                refine hK.out _ _ (by (try dsimp only); assumption) (fun hHeld => ?_)
                clear hK K
                try simp only [Act.put, rP1, rP2, rP3]
                refine rTk 13 ?_; try simp only [Act.put, rP1, rP2, rP3]
                refine rTk 14 ?_; try simp only [Act.put, rP1, rP2, rP3]
                refine wpAnyH_done (by kernel_rfl) ?_ _
                refine NoPanic.normal ?_
                have Fin := Lib.hid (fin.out v3 k3)
                clear S0 hHeld k1 k2 k3
                go_wp2
                go_ret
                exact ⟨rfl, Fin.out⟩
end Go.Proofs.YtkanjdijmdjbaaaGreatDoor
