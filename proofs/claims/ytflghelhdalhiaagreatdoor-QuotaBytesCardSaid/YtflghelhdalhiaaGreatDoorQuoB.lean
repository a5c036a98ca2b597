/-
  QuotaBytes' walk.
  Conditions: the listed variables read as listed ('Env'); the bytes read as such and are at most 2^47 many.
-/
import Derived.Test.YtflghelhdalhiaaGreatDoorDecP
import Derived.Test.YtflghelhdalhiaaGreatDoorEncP
import Derived.Test.YtflghelhdalhiaaGreatDoorSurQ
namespace Go.Proofs.YtflghelhdalhiaaGreatDoor
open Go Go.RowKit

theorem QT.decT_enc {l : List UInt8} {N : List QT.Nd} {U : List QT.Us} (h : QT.decT l = some (N, U)) : l = QT.encT N U := by
  unfold QT.decT at h
  split at h
  · rename_i hc
    have e := Option.some.inj h
    obtain ⟨h1, h2, _⟩ := hc
    obtain ⟨N1, U1, l1, k1, ht⟩ : ∃ N U l' k, QT.takeT l 0 = (N, U, l', k) := ⟨_, _, _, _, rfl⟩
    rw [ht] at e h1 h2
    simp only [Prod.mk.injEq] at e h1 h2
    obtain ⟨rfl, rfl⟩ := e
    rw [h1, h2] at ht
    obtain ⟨_, hl⟩ := QT.takeT_back ht
    simpa using hl
  · cases h
set_option maxRecDepth 100000 in
set_option maxHeartbeats 8000000 in
theorem quotaBytes_any (a : Option Addr) (c : Nat) (l : List UInt8) (w : World) (hE : Env w) (hv : IsB w (.slice a l.length c) l) (hl47 : l.length ≤ roomB) :
    Calls Tryz.prog 3 #[.slice a l.length c] w fun e w' => e = .returned (.bool true) ∧ Below w.heap.size w w' := by
  have HSu := Lib.hid (fun (V : World) (b : Below w.heap.size w V) => sureQ_any V (hE.below b))
  by_cases hlen : 4000 < l.length
  · have h1 : (4000 : Int) < (l.length : Int) := by omega
    have HS1 := Lib.hid (HSu.out w (Below.refl _ _))
    clear hE hv hl47 hlen HSu
    go_enter Tryz.func3, Tryz.ntmps3
    go_wp2_with fail
    refine HS1.out.mono ?_
    rintro e w1 ⟨rfl, b1⟩
    have B1 := Lib.hid b1
    clear b1
    go_wp2
    go_ret
    exact ⟨rfl, B1.out⟩
  · have h1 : ¬ (4000 : Int) < (l.length : Int) := by omega
    have HD := Lib.hid (decodeQ_any a c l w hE hv hl47)
    have HR := Lib.hid (fun (V : World) (b : Below w.heap.size w V) => rdecT_any a c l V (hv.below b) hl47)
    have HNum : Hid (∀ k V, Below w.heap.size w V → Calls Tryz.prog 7 #[errV k] V fun e w' => e = .returned (.int .i64 k) ∧ Below V.heap.size V w') := Lib.hid (fun k V b => num_any k V (hE.below b))
    have HV := Lib.hid (fun (V : World) (b : Below w.heap.size w V) => run_toStr T22 U9 (hv.below b))
    have HE := Lib.hid hE
    have Hlen := Lib.hid hlen
    clear hE hv hl47 hlen
    cases hd : QT.decT l with
    | none =>
      rw [hd] at HD HR
      have HN3 : Hid (∀ V, Below w.heap.size w V → Calls Tryz.prog 7 #[.iface 64 (.int .i64 3)] V fun e w' => e = .returned (.int .i64 3) ∧ Below V.heap.size V w') := Lib.hid (HNum.out 3)
      clear hd HNum HE
      go_enter Tryz.func3, Tryz.ntmps3
      go_wp2_with fail
      refine HD.out.mono ?_
      rintro e w1 ⟨he, b1⟩
      simp only at he
      subst he
      have B1 := Lib.hid b1
      have HR1 := Lib.hid (HR.out w1 b1)
      clear HD HR b1
      go_wp2_with fail
      refine HR1.out.mono ?_
      rintro e w2 ⟨he, b2⟩
      simp only at he
      subst he
      have b12 := B1.out.trans (b2.mono B1.out.size)
      obtain ⟨w3, hw3⟩ : ∃ V, V = w2.alloc (.cells #[.slice none 0 0, .slice none 0 0] 32) := ⟨_, rfl⟩
      have b3 : Below w.heap.size w w3 := by rw [hw3]; exact b12.alloc b12.size _
      have B3 := Lib.hid b3
      have HN1 := Lib.hid (HN3.out w3 b3)
      have HW3 := Lib.hid hw3.symm
      clear b12 b2 b3 hw3 HR1 B1 HN3
      go_wp2_with fail
      rw [HW3.out]
      clear HW3
      refine HN1.out.mono ?_
      rintro e w4 ⟨rfl, b4⟩
      have b34 := B3.out.trans (b4.mono B3.out.size)
      have B4 := Lib.hid b34
      have HS4 : Hid (∀ V, Hid (Below w.heap.size w V) → Calls Tryz.prog 4 #[] V fun e w' => e = .returned (.bool true) ∧ Hid (Below w.heap.size w w')) := Lib.hid (fun V b => (HSu.out V b.out).mono fun e w' ⟨q1, q2⟩ => ⟨q1, Lib.hid (b.out.trans (q2.mono b.out.size))⟩)
      have S0 : Hid (Below w.heap.size w w4.drew) := Lib.hid b34.drew
      clear b4 HN1 B3 b34
      go_wp2_with fail
      refine wp_region_noPanic ?_
      refine wp_region_held_drew (S := fun V => Hid (Below w.heap.size w V)) (by kernel_rfl) S0 (fun hHeld => ?_)
      refine wpAnyH_take (i := 0) (v := ?hva0) (List.getElem?_toArray.trans rfl) (by kernel_rfl) (by kernel_rfl) (by kernel_rfl) (fun _ _ _ h => h) (Or.inl ⟨by rfl, ?hya0⟩) (by assumption) ?hra0
      case hya0 => (intro wt hSw; (try dsimp only at hSw); go_simp; try (with_reducible rfl))
      try simp only [Act.put, List.setIfInBounds_toArray, List.set_cons_zero, List.set_cons_succ]
      refine wpAnyH_take (i := 1) (v := ?hva1) (List.getElem?_toArray.trans rfl) (by kernel_rfl) (by kernel_rfl) (by kernel_rfl) (fun _ _ _ h => h) (Or.inl ⟨by rfl, ?hya1⟩) (by assumption) ?hra1
      case hya1 => (intro wt hSw; (try dsimp only at hSw); go_simp; try (with_reducible rfl))
      try simp only [Act.put, List.setIfInBounds_toArray, List.set_cons_zero, List.set_cons_succ]
      refine wpAnyH_take (i := 2) (v := ?hva2) (List.getElem?_toArray.trans rfl) (by kernel_rfl) (by kernel_rfl) (by kernel_rfl) (fun _ _ _ h => h) (Or.inl ⟨by rfl, ?hya2⟩) (by assumption) ?hra2
      case hya2 => (intro wt hSw; (try dsimp only at hSw); go_simp; try (with_reducible rfl))
      try simp only [Act.put, List.setIfInBounds_toArray, List.set_cons_zero, List.set_cons_succ]
      refine wpAnyH_take (i := 3) (v := undef) (List.getElem?_toArray.trans rfl) (by kernel_rfl) (by kernel_rfl) (by kernel_rfl) (fun _ _ _ h => h) (Or.inr ⟨by rfl, rfl⟩) (by assumption) ?_
      try simp only [Act.put, List.setIfInBounds_toArray, List.set_cons_zero, List.set_cons_succ]
      refine wpAnyH_take (i := 4) (v := undef) (List.getElem?_toArray.trans rfl) (by kernel_rfl) (by kernel_rfl) (by kernel_rfl) (fun _ _ _ h => h) (Or.inr ⟨by rfl, rfl⟩) (by assumption) ?_
      try simp only [Act.put, List.setIfInBounds_toArray, List.set_cons_zero, List.set_cons_succ]
      refine wpAnyH_take (i := 5) (v := undef) (List.getElem?_toArray.trans rfl) (by kernel_rfl) (by kernel_rfl) (by kernel_rfl) (fun _ _ _ h => h) (Or.inr ⟨by rfl, rfl⟩) (by assumption) ?_
      try simp only [Act.put, List.setIfInBounds_toArray, List.set_cons_zero, List.set_cons_succ]
      refine wpAnyH_take (i := 6) (v := undef) (List.getElem?_toArray.trans rfl) (by kernel_rfl) (by kernel_rfl) (by kernel_rfl) (fun _ _ _ h => h) (Or.inr ⟨by rfl, rfl⟩) (by assumption) ?_
      try simp only [Act.put, List.setIfInBounds_toArray, List.set_cons_zero, List.set_cons_succ]
      refine wpAnyH_take (i := 7) (v := undef) (List.getElem?_toArray.trans rfl) (by kernel_rfl) (by kernel_rfl) (by kernel_rfl) (fun _ _ _ h => h) (Or.inr ⟨by rfl, rfl⟩) (by assumption) ?_
      try simp only [Act.put, List.setIfInBounds_toArray, List.set_cons_zero, List.set_cons_succ]
      refine wpAnyH_take (i := 8) (v := undef) (List.getElem?_toArray.trans rfl) (by kernel_rfl) (by kernel_rfl) (by kernel_rfl) (fun _ _ _ h => h) (Or.inr ⟨by rfl, rfl⟩) (by assumption) ?_
      try simp only [Act.put, List.setIfInBounds_toArray, List.set_cons_zero, List.set_cons_succ]
      refine wpAnyH_take (i := 9) (v := undef) (List.getElem?_toArray.trans rfl) (by kernel_rfl) (by kernel_rfl) (by kernel_rfl) (fun _ _ _ h => h) (Or.inr ⟨by rfl, rfl⟩) (by assumption) ?_
      try simp only [Act.put, List.setIfInBounds_toArray, List.set_cons_zero, List.set_cons_succ]
      refine wpAnyH_take (i := 10) (v := undef) (List.getElem?_toArray.trans rfl) (by kernel_rfl) (by kernel_rfl) (by kernel_rfl) (fun _ _ _ h => h) (Or.inr ⟨by rfl, rfl⟩) (by assumption) ?_
      try simp only [Act.put, List.setIfInBounds_toArray, List.set_cons_zero, List.set_cons_succ]
      refine wpAnyH_take (i := 11) (v := undef) (List.getElem?_toArray.trans rfl) (by kernel_rfl) (by kernel_rfl) (by kernel_rfl) (fun _ _ _ h => h) (Or.inr ⟨by rfl, rfl⟩) (by assumption) ?_
      try simp only [Act.put, List.setIfInBounds_toArray, List.set_cons_zero, List.set_cons_succ]
      refine wpAnyH_take (i := 12) (v := undef) (List.getElem?_toArray.trans rfl) (by kernel_rfl) (by kernel_rfl) (by kernel_rfl) (fun _ _ _ h => h) (Or.inr ⟨by rfl, rfl⟩) (by assumption) ?_
      try simp only [Act.put, List.setIfInBounds_toArray, List.set_cons_zero, List.set_cons_succ]
      refine wpAnyH_take (i := 13) (v := undef) (List.getElem?_toArray.trans rfl) (by kernel_rfl) (by kernel_rfl) (by kernel_rfl) (fun _ _ _ h => h) (Or.inr ⟨by rfl, rfl⟩) (by assumption) ?_
      try simp only [Act.put, List.setIfInBounds_toArray, List.set_cons_zero, List.set_cons_succ]
      refine wpAnyH_take (i := 14) (v := undef) (List.getElem?_toArray.trans rfl) (by kernel_rfl) (by kernel_rfl) (by kernel_rfl) (fun _ _ _ h => h) (Or.inr ⟨by rfl, rfl⟩) (by assumption) ?_
      try simp only [Act.put, List.setIfInBounds_toArray, List.set_cons_zero, List.set_cons_succ]
      refine wpAnyH_take (i := 15) (v := undef) (List.getElem?_toArray.trans rfl) (by kernel_rfl) (by kernel_rfl) (by kernel_rfl) (fun _ _ _ h => h) (Or.inr ⟨by rfl, rfl⟩) (by assumption) ?_
      try simp only [Act.put, List.setIfInBounds_toArray, List.set_cons_zero, List.set_cons_succ]
      refine wpAnyH_take (i := 16) (v := undef) (List.getElem?_toArray.trans rfl) (by kernel_rfl) (by kernel_rfl) (by kernel_rfl) (fun _ _ _ h => h) (Or.inr ⟨by rfl, rfl⟩) (by assumption) ?_
      try simp only [Act.put, List.setIfInBounds_toArray, List.set_cons_zero, List.set_cons_succ]
      refine wpAnyH_take (i := 17) (v := ?hva17) (List.getElem?_toArray.trans rfl) (by kernel_rfl) (by kernel_rfl) (by kernel_rfl) (fun _ _ _ h => h) (Or.inl ⟨by rfl, ?hya17⟩) (by assumption) ?hra17
      case hya17 => (intro wt hSw; (try dsimp only at hSw); go_simp; try (with_reducible rfl))
      try simp only [Act.put, List.setIfInBounds_toArray, List.set_cons_zero, List.set_cons_succ]
      refine wpAnyH_take (i := 18) (v := ?hva18) (List.getElem?_toArray.trans rfl) (by kernel_rfl) (by kernel_rfl) (by kernel_rfl) (fun _ _ _ h => h) (Or.inl ⟨by rfl, ?hya18⟩) (by assumption) ?hra18
      case hya18 => (intro wt hSw; (try dsimp only at hSw); go_simp; try (with_reducible rfl))
      try simp only [Act.put, List.setIfInBounds_toArray, List.set_cons_zero, List.set_cons_succ]
      refine wpAnyH_ready (rs := [19]) (by kernel_rfl) (by simp) ?_
      refine AllReadyH.cons (List.getElem?_toArray.trans rfl) (fun K hK => ?_) AllReadyH.nil
      go_simp
      go_at_call 4
      refine (HS4.out _ ?_).mono ?_
      assumption
      rintro e v1 ⟨rfl, k1⟩
      try (go_wp2_with fail)
      refine hK.out _ _ ?_ (fun hHeld => ?_)
      · (try dsimp only)
        assumption
      clear hK K
      try simp only [Act.put, List.setIfInBounds_toArray, List.set_cons_zero, List.set_cons_succ]
      refine wpAnyH_take (i := 20) (v := ?hva20) (List.getElem?_toArray.trans rfl) (by kernel_rfl) (by kernel_rfl) (by kernel_rfl) (fun _ _ _ h => h) (Or.inl ⟨by rfl, ?hya20⟩) (by assumption) ?hra20
      case hya20 => (intro wt hSw; (try dsimp only at hSw); go_simp; try (with_reducible rfl))
      try simp only [Act.put, List.setIfInBounds_toArray, List.set_cons_zero, List.set_cons_succ]
      refine wpAnyH_take (i := 21) (v := ?hva21) (List.getElem?_toArray.trans rfl) (by kernel_rfl) (by kernel_rfl) (by kernel_rfl) (fun _ _ _ h => h) (Or.inl ⟨by rfl, ?hya21⟩) (by assumption) ?hra21
      case hya21 => (intro wt hSw; (try dsimp only at hSw); go_simp; try (with_reducible rfl))
      try simp only [Act.put, List.setIfInBounds_toArray, List.set_cons_zero, List.set_cons_succ]
      refine wpAnyH_done (by kernel_rfl) ?_ _
      refine NoPanic.normal ?_
      clear S0 hHeld
      go_wp2
      go_ret
      exact ⟨rfl, k1.out⟩
    | some p =>
      obtain ⟨N, U⟩ := p
      have henc := QT.decT_enc hd
      rw [hd] at HD HR
      have HN0 : Hid (∀ V, Below w.heap.size w V → Calls Tryz.prog 7 #[.nilIface] V fun e w' => e = .returned (.int .i64 0) ∧ Below V.heap.size V w') := Lib.hid (HNum.out 0)
      have Henc := Lib.hid henc
      clear hd HNum henc
      go_enter Tryz.func3, Tryz.ntmps3
      go_wp2_with fail
      refine HD.out.mono ?_
      rintro e w1 ⟨⟨T, bn, bu, n, m, he, hT, hF, _, _⟩, b1⟩
      subst he
      have B1 := Lib.hid b1
      have HT1 := Lib.hid hT
      have HF1 := Lib.hid hF
      have HR1 := Lib.hid (HR.out w1 b1)
      clear HD HR b1 hT hF
      go_wp2_with fail
      refine HR1.out.mono ?_
      rintro e w2 ⟨⟨a0, n0, c0, a1, n1, c1, he, rN, rU⟩, b2⟩
      subst he
      have b12 := B1.out.trans (b2.mono B1.out.size)
      obtain ⟨w3, hw3⟩ : ∃ V, V = w2.alloc (.cells #[.slice a0 n0 c0, .slice a1 n1 c1] 32) := ⟨_, rfl⟩
      obtain ⟨YB, hYB⟩ : ∃ B, B = w2.heap.size := ⟨_, rfl⟩
      have b23 : Below w2.heap.size w2 w3 := by rw [hw3]; exact (Below.refl _ _).alloc (Nat.le_refl _) _
      have g3 : w3.heap[YB]? = some (.cells #[.slice a0 n0 c0, .slice a1 n1 c1] 32) := by rw [hw3, hYB]; exact heap_alloc_new _ _
      have b3 : Below w.heap.size w w3 := b12.trans (b23.mono b12.size)
      have hY3 : YB < w3.heap.size := (Array.getElem?_eq_some_iff.1 g3).1
      obtain ⟨y0, y1, _, _⟩ := cells2 g3
      have rN3 := rN.below b23
      have rU3 := rU.below b23
      have T3 := HT1.out.below (b2.trans (b23.mono b2.size))
      have B3 := Lib.hid b3
      have HN1 := Lib.hid (HN0.out w3 b3)
      have HW3 := Lib.hid hw3.symm
      have HYB := Lib.hid hYB.symm
      have hroom : (QT.encT N U).length + 2000 ≤ roomB := by
        have := Hlen.out
        rw [← Henc.out]
        simp only [roomB]
        omega
      have cont : Hid (∀ V, Below w3.heap.size w3 V → (Hid (Below w3.heap.size w3 V) ∧ V.cell? ⟨YB, 0, none⟩ = some (.slice a0 n0 c0) ∧ V.cell? ⟨YB, 1, none⟩ = some (.slice a1 n1 c1) ∧ (convert 22 9 (.slice a l.length c)).run Tryz.prog V = .ok (.string (str l)) V)) := Lib.hid (fun V b => ⟨Lib.hid b, (World.cell?_of_block (a := ⟨YB, 0, none⟩) (b.block YB hY3)).trans y0, (World.cell?_of_block (a := ⟨YB, 1, none⟩) (b.block YB hY3)).trans y1, HV.out V (b3.trans (b.mono b3.size))⟩)
      have CE : Hid (∀ V, (Hid (Below w3.heap.size w3 V) ∧ V.cell? ⟨YB, 0, none⟩ = some (.slice a0 n0 c0) ∧ V.cell? ⟨YB, 1, none⟩ = some (.slice a1 n1 c1) ∧ (convert 22 9 (.slice a l.length c)).run Tryz.prog V = .ok (.string (str l)) V) → Calls Tryz.prog 8 #[.pointer (some ⟨T, 0, none⟩)] V fun e w' => (∃ ae ne ce, e = .returned (.slice ae ne ce) ∧ (convert 22 9 (.slice ae ne ce)).run Tryz.prog w' = .ok (.string (str l)) w') ∧ (Hid (Below w3.heap.size w3 w') ∧ w'.cell? ⟨YB, 0, none⟩ = some (.slice a0 n0 c0) ∧ w'.cell? ⟨YB, 1, none⟩ = some (.slice a1 n1 c1) ∧ (convert 22 9 (.slice a l.length c)).run Tryz.prog w' = .ok (.string (str l)) w')) := Lib.hid (fun V h => by
        refine (encodeQ_any T bn bu n m N U V (T3.below h.1.out) HF1.out.rise (HE.out.wr (b3.trans (h.1.out.mono b3.size)) HE.out.big) hroom).mono ?_
        rintro e w' ⟨⟨ae, ce, rfl, o⟩, b⟩
        refine ⟨⟨ae, _, ce, rfl, ?_⟩, cont.out w' (h.1.out.trans (b.mono h.1.out.size))⟩
        have := run_toStr (P := Tryz.prog) T22 U9 o.isB
        rw [← Henc.out] at this ⊢
        exact this)
      have CR : Hid (∀ V, (Hid (Below w3.heap.size w3 V) ∧ V.cell? ⟨YB, 0, none⟩ = some (.slice a0 n0 c0) ∧ V.cell? ⟨YB, 1, none⟩ = some (.slice a1 n1 c1) ∧ (convert 22 9 (.slice a l.length c)).run Tryz.prog V = .ok (.string (str l)) V) → Calls Tryz.prog 9 #[.agg #[.slice a0 n0 c0, .slice a1 n1 c1]] V fun e w' => (∃ ae ne ce, e = .returned (.slice ae ne ce) ∧ (convert 22 9 (.slice ae ne ce)).run Tryz.prog w' = .ok (.string (str l)) w') ∧ (Hid (Below w3.heap.size w3 w') ∧ w'.cell? ⟨YB, 0, none⟩ = some (.slice a0 n0 c0) ∧ w'.cell? ⟨YB, 1, none⟩ = some (.slice a1 n1 c1) ∧ (convert 22 9 (.slice a l.length c)).run Tryz.prog w' = .ok (.string (str l)) w')) := Lib.hid (fun V h => by
        have q1 := rN3.len.1
        have q2 := rU3.len.1
        have q3 := HF1.out.rise.lN
        have q4 := HF1.out.rise.lU
        refine (rencT_any a0 n0 c0 a1 n1 c1 N U V (rN3.below h.1.out) (rU3.below h.1.out) (by omega) (by omega) HF1.out.rise.fN HF1.out.rise.fU hroom).mono ?_
        rintro e w' ⟨⟨ae, ne, ce, rfl, hl, o, _⟩, b⟩
        refine ⟨⟨ae, _, ce, rfl, ?_⟩, cont.out w' (h.1.out.trans (b.mono h.1.out.size))⟩
        have := run_toStr (P := Tryz.prog) T22 U9 o.isB
        rw [← Henc.out] at this
        exact this)
      have CS : Hid (∀ V, (Hid (Below w3.heap.size w3 V) ∧ V.cell? ⟨YB, 0, none⟩ = some (.slice a0 n0 c0) ∧ V.cell? ⟨YB, 1, none⟩ = some (.slice a1 n1 c1) ∧ (convert 22 9 (.slice a l.length c)).run Tryz.prog V = .ok (.string (str l)) V) → Calls Tryz.prog 4 #[] V fun e w' => e = .returned (.bool true) ∧ (Hid (Below w3.heap.size w3 w') ∧ w'.cell? ⟨YB, 0, none⟩ = some (.slice a0 n0 c0) ∧ w'.cell? ⟨YB, 1, none⟩ = some (.slice a1 n1 c1) ∧ (convert 22 9 (.slice a l.length c)).run Tryz.prog w' = .ok (.string (str l)) w')) := Lib.hid (fun V h => (HSu.out V (b3.trans (h.1.out.mono b3.size))).mono fun e w' ⟨q1, q2⟩ => ⟨q1, cont.out w' (h.1.out.trans (q2.mono h.1.out.size))⟩)
      have fin : Hid (∀ V, (Hid (Below w3.heap.size w3 V) ∧ V.cell? ⟨YB, 0, none⟩ = some (.slice a0 n0 c0) ∧ V.cell? ⟨YB, 1, none⟩ = some (.slice a1 n1 c1) ∧ (convert 22 9 (.slice a l.length c)).run Tryz.prog V = .ok (.string (str l)) V) → Below w.heap.size w V) := Lib.hid (fun V h => b3.trans (h.1.out.mono b3.size))
      clear b12 b23 b2 b3 hw3 HR1 B1 HN0 hYB g3 hY3 y0 y1 rN rU rN3 rU3 T3 HT1 HSu HV Hlen hroom B3 HF1 HE Henc
      go_wp2_with fail
      rw [HW3.out, HYB.out]
      clear HW3 HYB
      refine HN1.out.mono ?_
      rintro e w4 ⟨rfl, b4⟩
      have S0 := cont.out w4.drew b4.drew
      clear b4 HN1 cont
      go_wp2_with fail
      refine wp_region_noPanic ?_
      refine wp_region_held_drew (S := fun V => (Hid (Below w3.heap.size w3 V) ∧ V.cell? ⟨YB, 0, none⟩ = some (.slice a0 n0 c0) ∧ V.cell? ⟨YB, 1, none⟩ = some (.slice a1 n1 c1) ∧ (convert 22 9 (.slice a l.length c)).run Tryz.prog V = .ok (.string (str l)) V)) (by kernel_rfl) S0 (fun hHeld => ?_)
      refine wpAnyH_take (i := 0) (v := ?hvb0) (List.getElem?_toArray.trans rfl) (by kernel_rfl) (by kernel_rfl) (by kernel_rfl) (fun _ _ _ h => h) (Or.inl ⟨by rfl, ?hyb0⟩) (by assumption) ?hrb0
      case hyb0 => (intro wt hSw; (try dsimp only at hSw); go_simp; try (with_reducible rfl))
      try simp only [Act.put, List.setIfInBounds_toArray, List.set_cons_zero, List.set_cons_succ]
      refine wpAnyH_take (i := 1) (v := ?hvb1) (List.getElem?_toArray.trans rfl) (by kernel_rfl) (by kernel_rfl) (by kernel_rfl) (fun _ _ _ h => h) (Or.inl ⟨by rfl, ?hyb1⟩) (by assumption) ?hrb1
      case hyb1 => (intro wt hSw; (try dsimp only at hSw); go_simp; try (with_reducible rfl))
      try simp only [Act.put, List.setIfInBounds_toArray, List.set_cons_zero, List.set_cons_succ]
      refine wpAnyH_take (i := 2) (v := ?hvb2) (List.getElem?_toArray.trans rfl) (by kernel_rfl) (by kernel_rfl) (by kernel_rfl) (fun _ _ _ h => h) (Or.inl ⟨by rfl, ?hyb2⟩) (by assumption) ?hrb2
      case hyb2 => (intro wt hSw; (try dsimp only at hSw); go_simp; try (with_reducible rfl))
      try simp only [Act.put, List.setIfInBounds_toArray, List.set_cons_zero, List.set_cons_succ]
      refine wpAnyH_take (i := 3) (v := ?hvb3) (List.getElem?_toArray.trans rfl) (by kernel_rfl) (by kernel_rfl) (by kernel_rfl) (fun _ _ _ h => h) (Or.inl ⟨by rfl, ?hyb3⟩) (by assumption) ?hrb3
      case hyb3 => (intro wt hSw; (try dsimp only at hSw); go_simp; try (with_reducible rfl))
      try simp only [Act.put, List.setIfInBounds_toArray, List.set_cons_zero, List.set_cons_succ]
      refine wpAnyH_take (i := 6) (v := ?hvb6) (List.getElem?_toArray.trans rfl) (by kernel_rfl) (by kernel_rfl) (by kernel_rfl) (fun _ _ _ h => h) (Or.inl ⟨by rfl, ?hyb6⟩) (by assumption) ?hrb6
      case hyb6 => (intro wt hSw; (try dsimp only at hSw); go_simp; try (with_reducible rfl))
      try simp only [Act.put, List.setIfInBounds_toArray, List.set_cons_zero, List.set_cons_succ]
      refine wpAnyH_take (i := 7) (v := ?hvb7) (List.getElem?_toArray.trans rfl) (by kernel_rfl) (by kernel_rfl) (by kernel_rfl) (fun _ _ _ h => h) (Or.inl ⟨by rfl, ?hyb7⟩) (by assumption) ?hrb7
      case hyb7 => (intro wt hSw; (try dsimp only at hSw); go_simp; try (with_reducible rfl))
      try simp only [Act.put, List.setIfInBounds_toArray, List.set_cons_zero, List.set_cons_succ]
      refine wpAnyH_ready (rs := [4]) (by kernel_rfl) (by simp) ?_
      refine AllReadyH.cons (List.getElem?_toArray.trans rfl) (fun K hK => ?_) AllReadyH.nil
      go_simp
      go_at_call 8
      refine (CE.out _ ?_).mono ?_
      assumption
      rintro e v1 ⟨⟨ae, ne, ce, rfl, ec1⟩, k1⟩
      try (go_wp2_with fail)
      refine hK.out _ _ ?_ (fun hHeld => ?_)
      · (try dsimp only)
        assumption
      clear hK K
      try simp only [Act.put, List.setIfInBounds_toArray, List.set_cons_zero, List.set_cons_succ]
      refine wpAnyH_ready (rs := [5]) (by kernel_rfl) (by simp) ?_
      refine AllReadyH.cons (List.getElem?_toArray.trans rfl) (fun K hK => ?_) AllReadyH.nil
      go_simp
      skip
      refine hK.out _ _ ?_ (fun hHeld => ?_)
      · (try dsimp only)
        assumption
      clear hK K
      try simp only [Act.put, List.setIfInBounds_toArray, List.set_cons_zero, List.set_cons_succ]
      refine wpAnyH_take (i := 8) (v := ?hvb8) (List.getElem?_toArray.trans rfl) (by kernel_rfl) (by kernel_rfl) (by kernel_rfl) (fun _ _ _ h => h) (Or.inl ⟨by rfl, ?hyb8⟩) (by assumption) ?hrb8
      case hyb8 => (intro wt hSw; (try dsimp only at hSw); go_simp; try (with_reducible rfl))
      try simp only [Act.put, List.setIfInBounds_toArray, List.set_cons_zero, List.set_cons_succ]
      refine wpAnyH_take (i := 9) (v := ?hvb9) (List.getElem?_toArray.trans rfl) (by kernel_rfl) (by kernel_rfl) (by kernel_rfl) (fun _ _ _ h => h) (Or.inl ⟨by rfl, ?hyb9⟩) (by assumption) ?hrb9
      case hyb9 => (intro wt hSw; (try dsimp only at hSw); go_simp; try (with_reducible rfl))
      try simp only [Act.put, List.setIfInBounds_toArray, List.set_cons_zero, List.set_cons_succ]
      refine wpAnyH_take (i := 10) (v := ?hvb10) (List.getElem?_toArray.trans rfl) (by kernel_rfl) (by kernel_rfl) (by kernel_rfl) (fun _ _ _ h => h) (Or.inl ⟨by rfl, ?hyb10⟩) (by assumption) ?hrb10
      case hyb10 => (intro wt hSw; (try dsimp only at hSw); go_simp; try (with_reducible rfl))
      try simp only [Act.put, List.setIfInBounds_toArray, List.set_cons_zero, List.set_cons_succ]
      refine wpAnyH_take (i := 13) (v := ?hvb13) (List.getElem?_toArray.trans rfl) (by kernel_rfl) (by kernel_rfl) (by kernel_rfl) (fun _ _ _ h => h) (Or.inl ⟨by rfl, ?hyb13⟩) (by assumption) ?hrb13
      case hyb13 => (intro wt hSw; (try dsimp only at hSw); go_simp; try (with_reducible rfl))
      try simp only [Act.put, List.setIfInBounds_toArray, List.set_cons_zero, List.set_cons_succ]
      refine wpAnyH_take (i := 14) (v := ?hvb14) (List.getElem?_toArray.trans rfl) (by kernel_rfl) (by kernel_rfl) (by kernel_rfl) (fun _ _ _ h => h) (Or.inl ⟨by rfl, ?hyb14⟩) (by assumption) ?hrb14
      case hyb14 => (intro wt hSw; (try dsimp only at hSw); go_simp; try (with_reducible rfl))
      try simp only [Act.put, List.setIfInBounds_toArray, List.set_cons_zero, List.set_cons_succ]
      refine wpAnyH_ready (rs := [11]) (by kernel_rfl) (by simp) ?_
      refine AllReadyH.cons (List.getElem?_toArray.trans rfl) (fun K hK => ?_) AllReadyH.nil
      go_simp
      go_at_call 9
      refine (CR.out _ ?_).mono ?_
      assumption
      rintro e v2 ⟨⟨ar, nr, cr, rfl, ec2⟩, k2⟩
      try (go_wp2_with fail)
      refine hK.out _ _ ?_ (fun hHeld => ?_)
      · (try dsimp only)
        assumption
      clear hK K
      try simp only [Act.put, List.setIfInBounds_toArray, List.set_cons_zero, List.set_cons_succ]
      refine wpAnyH_ready (rs := [12]) (by kernel_rfl) (by simp) ?_
      refine AllReadyH.cons (List.getElem?_toArray.trans rfl) (fun K hK => ?_) AllReadyH.nil
      go_simp
      skip
      refine hK.out _ _ ?_ (fun hHeld => ?_)
      · (try dsimp only)
        assumption
      clear hK K
      try simp only [Act.put, List.setIfInBounds_toArray, List.set_cons_zero, List.set_cons_succ]
      refine wpAnyH_take (i := 15) (v := ?hvb15) (List.getElem?_toArray.trans rfl) (by kernel_rfl) (by kernel_rfl) (by kernel_rfl) (fun _ _ _ h => h) (Or.inl ⟨by rfl, ?hyb15⟩) (by assumption) ?hrb15
      case hyb15 => (intro wt hSw; (try dsimp only at hSw); go_simp; try (with_reducible rfl))
      try simp only [Act.put, List.setIfInBounds_toArray, List.set_cons_zero, List.set_cons_succ]
      refine wpAnyH_take (i := 16) (v := ?hvb16) (List.getElem?_toArray.trans rfl) (by kernel_rfl) (by kernel_rfl) (by kernel_rfl) (fun _ _ _ h => h) (Or.inl ⟨by rfl, ?hyb16⟩) (by assumption) ?hrb16
      case hyb16 => (intro wt hSw; (try dsimp only at hSw); go_simp; try (with_reducible rfl))
      try simp only [Act.put, List.setIfInBounds_toArray, List.set_cons_zero, List.set_cons_succ]
      refine wpAnyH_take (i := 17) (v := ?hvb17) (List.getElem?_toArray.trans rfl) (by kernel_rfl) (by kernel_rfl) (by kernel_rfl) (fun _ _ _ h => h) (Or.inl ⟨by rfl, ?hyb17⟩) (by assumption) ?hrb17
      case hyb17 => (intro wt hSw; (try dsimp only at hSw); go_simp; try (with_reducible rfl))
      try simp only [Act.put, List.setIfInBounds_toArray, List.set_cons_zero, List.set_cons_succ]
      refine wpAnyH_take (i := 18) (v := ?hvb18) (List.getElem?_toArray.trans rfl) (by kernel_rfl) (by kernel_rfl) (by kernel_rfl) (fun _ _ _ h => h) (Or.inl ⟨by rfl, ?hyb18⟩) (by assumption) ?hrb18
      case hyb18 => (intro wt hSw; (try dsimp only at hSw); go_simp; try (with_reducible rfl))
      try simp only [Act.put, List.setIfInBounds_toArray, List.set_cons_zero, List.set_cons_succ]
      refine wpAnyH_ready (rs := [19]) (by kernel_rfl) (by simp) ?_
      refine AllReadyH.cons (List.getElem?_toArray.trans rfl) (fun K hK => ?_) AllReadyH.nil
      go_simp
      go_at_call 4
      refine (CS.out _ ?_).mono ?_
      assumption
      rintro e v3 ⟨rfl, k3⟩
      try (go_wp2_with fail)
      refine hK.out _ _ ?_ (fun hHeld => ?_)
      · (try dsimp only)
        assumption
      clear hK K
      try simp only [Act.put, List.setIfInBounds_toArray, List.set_cons_zero, List.set_cons_succ]
      refine wpAnyH_take (i := 20) (v := ?hvb20) (List.getElem?_toArray.trans rfl) (by kernel_rfl) (by kernel_rfl) (by kernel_rfl) (fun _ _ _ h => h) (Or.inl ⟨by rfl, ?hyb20⟩) (by assumption) ?hrb20
      case hyb20 => (intro wt hSw; (try dsimp only at hSw); go_simp; try (with_reducible rfl))
      try simp only [Act.put, List.setIfInBounds_toArray, List.set_cons_zero, List.set_cons_succ]
      refine wpAnyH_take (i := 21) (v := ?hvb21) (List.getElem?_toArray.trans rfl) (by kernel_rfl) (by kernel_rfl) (by kernel_rfl) (fun _ _ _ h => h) (Or.inl ⟨by rfl, ?hyb21⟩) (by assumption) ?hrb21
      case hyb21 => (intro wt hSw; (try dsimp only at hSw); go_simp; try (with_reducible rfl))
      try simp only [Act.put, List.setIfInBounds_toArray, List.set_cons_zero, List.set_cons_succ]
      refine wpAnyH_done (by kernel_rfl) ?_ _
      refine NoPanic.normal ?_
      have Fin := Lib.hid (fin.out v3 k3)
      clear S0 hHeld k1 k2 k3
      go_wp2
      go_ret
      exact ⟨rfl, Fin.out⟩
end Go.Proofs.YtflghelhdalhiaaGreatDoor
