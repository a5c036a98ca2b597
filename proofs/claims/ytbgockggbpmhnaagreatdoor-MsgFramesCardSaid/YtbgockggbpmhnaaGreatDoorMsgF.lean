/-
  The document's Open of layers 2 and 11, by contracts.
  Conditions: what is opened reads as bytes and is at most 2^47 long.
-/
import Derived.Test.YtbgockggbpmhnaaGreatDoorMsgE
namespace Go.Proofs.YtbgockggbpmhnaaGreatDoor
open Go Go.RowKit

set_option maxRecDepth 100000 in
set_option maxHeartbeats 4000000 in
theorem ropen_any (a : Option Addr) (n c : Nat) (l : List UInt8) (w : World) (hl : l.length = n) (hv : IsB w (.slice a n c) l) (hl47 : l.length ≤ roomB) :
    Calls Tryz.prog 55 #[.slice a n c] w fun e w' => OpenR intV w w' e l := by
  have hw : IntKind.i64.wrap ((n : Int) - 4) = (n : Int) - 4 := by simp only [roomB] at hl47; rw [IntKind.wrap_i64]; omega
  by_cases h5 : n < 5
  · have h : (n : Int) - 4 < 1 := by omega
    have he : PK.openE l = 12 := by unfold PK.openE; rw [if_pos (by omega)]
    have HR : Hid (OpenR intV w w (.returned (.tuple #[.int .u8 0, .slice none 0 0, .int .i64 12])) l) := Lib.hid ⟨.inl ⟨by rw [he]; decide, by rw [he]; rfl⟩, Below.refl _ _⟩
    clear h5 hl hv hl47 he
    go_enter Tryz.func55, Tryz.ntmps55
    go_wp2
    go_ret3
    exact HR.out
  · have h : ¬ ((n : Int) - 4 < 1) := by omega
    obtain ⟨m, rfl⟩ : ∃ m, n = m + 4 := ⟨n - 4, by omega⟩
    obtain ⟨b, o, rfl, hc0⟩ := hv.at hl 0 (by omega)
    have hcap : m + 4 ≤ c := by obtain ⟨_, cap', he', h1, _⟩ := hv; simp at he'; omega
    have hm4 : ((m + 4 : Nat) : Int) - 4 = (m : Int) := by omega
    have hm1 : ¬ m = 0 := by omega
    have h1 : ∀ W : World, (Instr.sliceAt 22 (.slice (some ⟨b, o, none⟩) (m + 4) c) none (some (.int .i64 (((m + 4 : Nat) : Int) - 4))) none).run Tryz.prog W = .ok (.slice (some ⟨b, o, none⟩) m c) W := by
      intro W
      rw [hm4, run_sliceAt_h T22 (some ⟨b, o, none⟩) (m + 4) c (m : Int) (by omega) (by omega) W]
      congr 2
      unfold cutAt
      split <;> simp [Addr.add]
    have h2 : ∀ W : World, (Instr.sliceAt 22 (.slice (some ⟨b, o, none⟩) (m + 4) c) (some (.int .i64 (((m + 4 : Nat) : Int) - 4))) none none).run Tryz.prog W = .ok (.slice (some ⟨b, o + m, none⟩) 4 (c - m)) W := by
      intro W
      rw [hm4, run_sliceAt_l T22 (some ⟨b, o, none⟩) (m + 4) c (m : Int) (by omega) (by omega) W]
      have e1 : (m : Int).toNat = m := by omega
      rw [e1]
      have e2 : cutAt (some ⟨b, o, none⟩) m c = some ⟨b, o + m, none⟩ := by unfold cutAt; rw [if_neg (by omega)]; simp [Addr.add, hm1]
      rw [e2]
      congr 2
      omega
    have h4 : ∀ W : World, (Instr.sliceAt 22 (.slice (some ⟨b, o, none⟩) (m + 4) c) (some (.int .i64 1)) (some (.int .i64 (((m + 4 : Nat) : Int) - 4))) none).run Tryz.prog W = .ok (.slice (some ⟨b, o + 1, none⟩) (m - 1) (c - 1)) W := by
      intro W
      rw [hm4, run_sliceAt_lh T22 (some ⟨b, o, none⟩) (m + 4) c 1 (m : Int) (by omega) (by omega) (by omega) W]
      have e2 : cutAt (some ⟨b, o, none⟩) 1 c = some ⟨b, o + 1, none⟩ := by unfold cutAt; rw [if_neg (by omega)]; simp [Addr.add]
      have e1 : (m : Int).toNat = m := by omega
      rw [show (1 : Int).toNat = 1 from rfl, e1, e2]
    have Hrest : Hid (IsB w (.slice (some ⟨b, o, none⟩) m c) (l.take m) ∧ IsB w (.slice (some ⟨b, o + 1, none⟩) (m - 1) (c - 1)) (PK.openD l) ∧ (PK.openD l).length = m - 1 ∧ IsB w (.slice (some ⟨b, o + m, none⟩) 4 (c - m)) (l.drop m)) := by
      have i1 := (isB_cut hv 0 m (by omega) (by omega)).1
      have i2 := (isB_cut hv 1 m (by omega) (by omega)).1
      have i3 := (isB_cut hv m (m + 4) (by omega) (by omega)).1
      have c3 : cutAt (some ⟨b, o, none⟩) m c = some ⟨b, o + m, none⟩ := by unfold cutAt; rw [if_neg (by omega)]; simp [Addr.add, hm1]
      rw [c3, show m + 4 - m = 4 from by omega, List.take_of_length_le (by omega)] at i3
      have c1 : cutAt (some ⟨b, o, none⟩) 0 c = some ⟨b, o, none⟩ := by unfold cutAt; split <;> simp [Addr.add]
      have c2 : cutAt (some ⟨b, o, none⟩) 1 c = some ⟨b, o + 1, none⟩ := by unfold cutAt; rw [if_neg (by omega)]; simp [Addr.add]
      rw [c1] at i1
      rw [c2] at i2
      have e : PK.openD l = (l.take m).drop 1 := by unfold PK.openD; rw [hl]; rfl
      rw [e]
      exact ⟨i1, i2, by simp; omega, i3⟩
    have hf0 : w.cell? ⟨b, o, none⟩ = some (.int .u8 (at8 l 0)) := hc0
    have hopen : PK.openE l = if PK.tailP (PK.crcP (l.take m)) ≠ l.drop m then 11 else if at8 l 0 = 0 then 1 else if 1048577 < m then 2 else 0 := by
      unfold PK.openE
      rw [hl, if_neg h5, show m + 4 - 4 = m from rfl]
      have e0 : (l.head? = some 0) ↔ at8 l 0 = 0 := by
        cases l with
        | nil => simp at hl
        | cons x r =>
          simp only [List.head?_cons, Option.some.injEq]
          exact ⟨fun e => by rw [e]; rfl, fun e => at8_inj e⟩
      simp only [e0]
    have Hopen := Lib.hid hopen
    have hltm : (l.take m).length = m := by simp; omega
    have hm47 : m - 1 ≤ roomB := by omega
    have Hltm := Lib.hid hltm
    have Hm47 := Lib.hid hm47
    have Hm63 : ((m : Int)) ≤ 9223372036854775807 := by simp only [roomB] at hl47; omega
    have Hbl : Hid (b < w.heap.size) := World.block_lt_of_cell? _ _ hf0
    rw [hm4] at hw
    have h5' : ¬ (((m + 4 : Nat) : Int) < 5) := by omega
    clear h
    simp only [hm4] at h1 h2 h4
    have HSum := Lib.hid (fun (W : World) (hb : Below w.heap.size w W) => rsum_any (some ⟨b, o, none⟩) m c (l.take m) W Hltm.out (Hrest.out.1.below hb))
    have HFour := Lib.hid (fun (W : World) => rtail_w (PK.crcP (l.take m)) W (PK.crcP_lt _))
    have hconv : ∀ W : World, Hid (Below w.heap.size w W) → (convert 22 9 (.slice (some ⟨b, o + m, none⟩) 4 (c - m))).run Tryz.prog W = .ok (.string (str (l.drop m))) W := fun W h => run_toStr T22 U9 (Hrest.out.2.2.2.below h.out)
    have HOd := Lib.hid (fun (W : World) (hb : Below w.heap.size w W) => Hrest.out.2.1.below hb)
    generalize hoe : PK.openE l = oe at *
    generalize hod : PK.openD l = od at *
    generalize hT : PK.tailP (PK.crcP (l.take m)) = T at *
    generalize hD : l.drop m = D at *
    generalize hA : at8 l 0 = A0 at *
    have Hlen := Lib.hid Hrest.out.2.2.1
    generalize PK.crcP (l.take m) = s at *
    generalize l.take m = lm at *
    have hcont : Hid (∀ W, Below w.heap.size w W → (Hid (Below w.heap.size w W) ∧ W.cell? ⟨b, o, none⟩ = some (.int .u8 A0))) := by
      intro W hW
      have hk := hW.block b Hbl.out
      exact ⟨Lib.hid hW, (World.cell?_of_block hk).trans hf0⟩
    clear hv hl47 hl h5 hcap hm1 hc0 hopen hltm hm47 Hrest Hltm Hm47 hT hD
    have CS : Hid (∀ W, (Hid (Below w.heap.size w W) ∧ W.cell? ⟨b, o, none⟩ = some (.int .u8 A0)) → Calls Tryz.prog 53 #[.slice (some ⟨b, o, none⟩) m c] W fun e w' => e = .returned (.int .u32 s) ∧ (Hid (Below w.heap.size w w') ∧ w'.cell? ⟨b, o, none⟩ = some (.int .u8 A0))) := fun W h => (HSum.out W h.1.out).mono fun e w' ⟨e1, e2⟩ => ⟨e1, hcont.out w' (h.1.out.trans (e2.mono h.1.out.size))⟩
    have CF : Hid (∀ W, (Hid (Below w.heap.size w W) ∧ W.cell? ⟨b, o, none⟩ = some (.int .u8 A0)) → Calls Tryz.prog 52 #[.int .u32 s] W fun e w' => (∃ a' n' c', e = .returned (.slice a' n' c') ∧ (convert 22 9 (.slice a' n' c')).run Tryz.prog w' = .ok (.string (str T)) w') ∧ (Hid (Below w.heap.size w w') ∧ w'.cell? ⟨b, o, none⟩ = some (.int .u8 A0))) := fun W h => (HFour.out W).mono fun e w' ⟨⟨a', n', c', e1, _, e3, _⟩, e2⟩ => ⟨⟨a', n', c', e1, run_toStr T22 U9 e3.isB⟩, hcont.out w' (h.1.out.trans (e2.mono h.1.out.size))⟩
    have S0 := hcont.out w.drew (Below.refl _ _).drew
    have hi1 : (0 : Int) < ((m + 4 : Nat) : Int) := by omega
    have hi2 : (0 : Int) < (m : Int) + 4 := by omega
    have HDw : Hid (∀ W, (Hid (Below w.heap.size w W) ∧ W.cell? ⟨b, o, none⟩ = some (.int .u8 A0)) → (Hid (Below w.heap.size w W.drew) ∧ W.drew.cell? ⟨b, o, none⟩ = some (.int .u8 A0))) := Lib.hid (fun W h => hcont.out W.drew h.1.out.drew)
    clear hf0 hcont Hbl HSum HFour
    by_cases hTD : T = D
    · subst hTD
      have hnn : ¬ (T ≠ T) := fun h => h rfl
      rw [if_neg hnn] at Hopen
      clear hnn
      generalize str T = sT at *
      by_cases hA0 : A0 = 0
      · have he : oe = 1 := by rw [Hopen.out, if_pos hA0]
        have HR : Hid (∀ W, (Hid (Below w.heap.size w W) ∧ W.cell? ⟨b, o, none⟩ = some (.int .u8 A0)) → OpenR intV w W (.returned (.tuple #[.int .u8 0, .slice none 0 0, .int .i64 1])) l) := Lib.hid (fun W h => ⟨.inl ⟨by rw [hoe, he]; decide, by rw [hoe, he]; rfl⟩, h.1.out⟩)
        clear Hopen h4 he HOd
        have hA1 : (A0 == 0) = true := by simp [hA0]
        go_enter Tryz.func55, Tryz.ntmps55
        go_wp2
        refine wp_region_noPanic ?_
        refine wp_region_held_drew (S := fun W => (Hid (Below w.heap.size w W) ∧ W.cell? ⟨b, o, none⟩ = some (.int .u8 A0))) (by kernel_rfl) S0 (fun hHeld => ?_)
        refine wpAnyH_take (i := 0) (v := ?hva0) (List.getElem?_toArray.trans rfl) (by kernel_rfl) (by kernel_rfl) (by kernel_rfl) (fun _ _ _ h => h) (Or.inl ⟨by rfl, ?hya0⟩) (by assumption) ?hra0
        case hya0 => (intro wt hSw; (try dsimp only at hSw); go_simp; try (with_reducible rfl))
        try simp only [Act.put, List.setIfInBounds_toArray, List.set_cons_zero, List.set_cons_succ]
        refine wpAnyH_take (i := 1) (v := ?hva1) (List.getElem?_toArray.trans rfl) (by kernel_rfl) (by kernel_rfl) (by kernel_rfl) (fun _ _ _ h => h) (Or.inl ⟨by rfl, ?hya1⟩) (by assumption) ?hra1
        case hya1 => (intro wt hSw; (try dsimp only at hSw); go_simp; try (with_reducible rfl))
        try simp only [Act.put, List.setIfInBounds_toArray, List.set_cons_zero, List.set_cons_succ]
        refine wpAnyH_take (i := 2) (v := ?hva2) (List.getElem?_toArray.trans rfl) (by kernel_rfl) (by kernel_rfl) (by kernel_rfl) (fun _ _ _ h => h) (Or.inl ⟨by rfl, ?hya2⟩) (by assumption) ?hra2
        case hya2 => (intro wt hSw; (try dsimp only at hSw); go_simp; try (with_reducible rfl))
        try simp only [Act.put, List.setIfInBounds_toArray, List.set_cons_zero, List.set_cons_succ]
        refine wpAnyH_take (i := 6) (v := ?hva6) (List.getElem?_toArray.trans rfl) (by kernel_rfl) (by kernel_rfl) (by kernel_rfl) (fun _ _ _ h => h) (Or.inl ⟨by rfl, ?hya6⟩) (by assumption) ?hra6
        case hya6 => (intro wt hSw; (try dsimp only at hSw); go_simp; try (with_reducible rfl))
        try simp only [Act.put, List.setIfInBounds_toArray, List.set_cons_zero, List.set_cons_succ]
        refine wpAnyH_take (i := 7) (v := ?hva7) (List.getElem?_toArray.trans rfl) (by kernel_rfl) (by kernel_rfl) (by kernel_rfl) (fun _ _ _ h => h) (Or.inl ⟨by rfl, ?hya7⟩) (by assumption) ?hra7
        case hya7 => (intro wt hSw; (try dsimp only at hSw); go_simp; try (with_reducible rfl))
        try simp only [Act.put, List.setIfInBounds_toArray, List.set_cons_zero, List.set_cons_succ]
        refine wpAnyH_take (i := 8) (v := ?hva8) (List.getElem?_toArray.trans rfl) (by kernel_rfl) (by kernel_rfl) (by kernel_rfl) (fun _ _ _ h => h) (Or.inl ⟨by rfl, ?hya8⟩) (by assumption) ?hra8
        case hya8 => (intro wt hSw; (try dsimp only at hSw); go_simp; try (with_reducible rfl))
        try simp only [Act.put, List.setIfInBounds_toArray, List.set_cons_zero, List.set_cons_succ]
        refine wpAnyH_take (i := 9) (v := ?hva9) (List.getElem?_toArray.trans rfl) (by kernel_rfl) (by kernel_rfl) (by kernel_rfl) (fun _ _ _ h => h) (Or.inl ⟨by rfl, ?hya9⟩) (by assumption) ?hra9
        case hya9 => (intro wt hSw; (try dsimp only at hSw); go_simp; try (with_reducible rfl))
        try simp only [Act.put, List.setIfInBounds_toArray, List.set_cons_zero, List.set_cons_succ]
        refine wpAnyH_ready (rs := [3]) (by kernel_rfl) (by simp) ?_
        refine AllReadyH.cons (List.getElem?_toArray.trans rfl) (fun K hK => ?_) AllReadyH.nil
        go_simp
        go_at_call 53
        refine (CS.out _ ?_).mono ?_
        assumption
        rintro e w1 ⟨rfl, k1⟩
        clear CS
        try (go_wp2_with fail)
        refine hK.out _ _ ?_ (fun hHeld => ?_)
        · (try dsimp only)
          assumption
        clear hK K
        try simp only [Act.put, List.setIfInBounds_toArray, List.set_cons_zero, List.set_cons_succ]
        refine wpAnyH_ready (rs := [4]) (by kernel_rfl) (by simp) ?_
        refine AllReadyH.cons (List.getElem?_toArray.trans rfl) (fun K hK => ?_) AllReadyH.nil
        go_simp
        go_at_call 52
        refine (CF.out _ ?_).mono ?_
        assumption
        rintro e w2 ⟨⟨a2, n2, c2, rfl, hcv⟩, k2⟩
        clear CF k1
        try (go_wp2_with fail)
        refine hK.out _ _ ?_ (fun hHeld => ?_)
        · (try dsimp only)
          assumption
        clear hK K
        try simp only [Act.put, List.setIfInBounds_toArray, List.set_cons_zero, List.set_cons_succ]
        refine wpAnyH_ready (rs := [5]) (by kernel_rfl) (by simp) ?_
        refine AllReadyH.cons (List.getElem?_toArray.trans rfl) (fun K hK => ?_) AllReadyH.nil
        go_simp
        try (go_wp2_with fail)
        refine hK.out _ _ ?_ (fun hHeld => ?_)
        · (try dsimp only)
          assumption
        clear hK K
        try simp only [Act.put, List.setIfInBounds_toArray, List.set_cons_zero, List.set_cons_succ]
        refine wpAnyH_take (i := 10) (v := ?hva10) (List.getElem?_toArray.trans rfl) (by kernel_rfl) (by kernel_rfl) (by kernel_rfl) (fun _ _ _ h => h) (Or.inl ⟨by rfl, ?hya10⟩) (by assumption) ?hra10
        case hya10 => (intro wt hSw; (try dsimp only at hSw); go_simp; try (with_reducible rfl))
        try simp only [Act.put, List.setIfInBounds_toArray, List.set_cons_zero, List.set_cons_succ]
        refine wpAnyH_done (by kernel_rfl) ?_ _
        refine NoPanic.normal ?_
        go_wp2
        go_ret3
        exact HR.out _ (by assumption)
      · have hA1 : ¬ (A0 = 0) := hA0
        by_cases hbig : 1048577 < m
        · have hb2 : (1048577 : Int) < (m : Int) := by omega
          have he : oe = 2 := by rw [Hopen.out, if_neg hA0, if_pos hbig]
          have HR : Hid (∀ W, (Hid (Below w.heap.size w W) ∧ W.cell? ⟨b, o, none⟩ = some (.int .u8 A0)) → OpenR intV w W (.returned (.tuple #[.int .u8 0, .slice none 0 0, .int .i64 2])) l) := Lib.hid (fun W h => ⟨.inl ⟨by rw [hoe, he]; decide, by rw [hoe, he]; rfl⟩, h.1.out⟩)
          clear Hopen h4 he hbig HOd
          go_enter Tryz.func55, Tryz.ntmps55
          go_wp2
          refine wp_region_noPanic ?_
          refine wp_region_held_drew (S := fun W => (Hid (Below w.heap.size w W) ∧ W.cell? ⟨b, o, none⟩ = some (.int .u8 A0))) (by kernel_rfl) S0 (fun hHeld => ?_)
          refine wpAnyH_take (i := 0) (v := ?hvb0) (List.getElem?_toArray.trans rfl) (by kernel_rfl) (by kernel_rfl) (by kernel_rfl) (fun _ _ _ h => h) (Or.inl ⟨by rfl, ?hyb0⟩) (by assumption) ?hrb0
          case hyb0 => (intro wt hSw; (try dsimp only at hSw); go_simp; try (with_reducible rfl))
          try simp only [Act.put, List.setIfInBounds_toArray, List.set_cons_zero, List.set_cons_succ]
          refine wpAnyH_take (i := 1) (v := ?hvb1) (List.getElem?_toArray.trans rfl) (by kernel_rfl) (by kernel_rfl) (by kernel_rfl) (fun _ _ _ h => h) (Or.inl ⟨by rfl, ?hyb1⟩) (by assumption) ?hrb1
          case hyb1 => (intro wt hSw; (try dsimp only at hSw); go_simp; try (with_reducible rfl))
          try simp only [Act.put, List.setIfInBounds_toArray, List.set_cons_zero, List.set_cons_succ]
          refine wpAnyH_take (i := 2) (v := ?hvb2) (List.getElem?_toArray.trans rfl) (by kernel_rfl) (by kernel_rfl) (by kernel_rfl) (fun _ _ _ h => h) (Or.inl ⟨by rfl, ?hyb2⟩) (by assumption) ?hrb2
          case hyb2 => (intro wt hSw; (try dsimp only at hSw); go_simp; try (with_reducible rfl))
          try simp only [Act.put, List.setIfInBounds_toArray, List.set_cons_zero, List.set_cons_succ]
          refine wpAnyH_take (i := 6) (v := ?hvb6) (List.getElem?_toArray.trans rfl) (by kernel_rfl) (by kernel_rfl) (by kernel_rfl) (fun _ _ _ h => h) (Or.inl ⟨by rfl, ?hyb6⟩) (by assumption) ?hrb6
          case hyb6 => (intro wt hSw; (try dsimp only at hSw); go_simp; try (with_reducible rfl))
          try simp only [Act.put, List.setIfInBounds_toArray, List.set_cons_zero, List.set_cons_succ]
          refine wpAnyH_take (i := 7) (v := ?hvb7) (List.getElem?_toArray.trans rfl) (by kernel_rfl) (by kernel_rfl) (by kernel_rfl) (fun _ _ _ h => h) (Or.inl ⟨by rfl, ?hyb7⟩) (by assumption) ?hrb7
          case hyb7 => (intro wt hSw; (try dsimp only at hSw); go_simp; try (with_reducible rfl))
          try simp only [Act.put, List.setIfInBounds_toArray, List.set_cons_zero, List.set_cons_succ]
          refine wpAnyH_take (i := 8) (v := ?hvb8) (List.getElem?_toArray.trans rfl) (by kernel_rfl) (by kernel_rfl) (by kernel_rfl) (fun _ _ _ h => h) (Or.inl ⟨by rfl, ?hyb8⟩) (by assumption) ?hrb8
          case hyb8 => (intro wt hSw; (try dsimp only at hSw); go_simp; try (with_reducible rfl))
          try simp only [Act.put, List.setIfInBounds_toArray, List.set_cons_zero, List.set_cons_succ]
          refine wpAnyH_take (i := 9) (v := ?hvb9) (List.getElem?_toArray.trans rfl) (by kernel_rfl) (by kernel_rfl) (by kernel_rfl) (fun _ _ _ h => h) (Or.inl ⟨by rfl, ?hyb9⟩) (by assumption) ?hrb9
          case hyb9 => (intro wt hSw; (try dsimp only at hSw); go_simp; try (with_reducible rfl))
          try simp only [Act.put, List.setIfInBounds_toArray, List.set_cons_zero, List.set_cons_succ]
          refine wpAnyH_ready (rs := [3]) (by kernel_rfl) (by simp) ?_
          refine AllReadyH.cons (List.getElem?_toArray.trans rfl) (fun K hK => ?_) AllReadyH.nil
          go_simp
          go_at_call 53
          refine (CS.out _ ?_).mono ?_
          assumption
          rintro e w1 ⟨rfl, k1⟩
          clear CS
          try (go_wp2_with fail)
          refine hK.out _ _ ?_ (fun hHeld => ?_)
          · (try dsimp only)
            assumption
          clear hK K
          try simp only [Act.put, List.setIfInBounds_toArray, List.set_cons_zero, List.set_cons_succ]
          refine wpAnyH_ready (rs := [4]) (by kernel_rfl) (by simp) ?_
          refine AllReadyH.cons (List.getElem?_toArray.trans rfl) (fun K hK => ?_) AllReadyH.nil
          go_simp
          go_at_call 52
          refine (CF.out _ ?_).mono ?_
          assumption
          rintro e w2 ⟨⟨a2, n2, c2, rfl, hcv⟩, k2⟩
          clear CF k1
          try (go_wp2_with fail)
          refine hK.out _ _ ?_ (fun hHeld => ?_)
          · (try dsimp only)
            assumption
          clear hK K
          try simp only [Act.put, List.setIfInBounds_toArray, List.set_cons_zero, List.set_cons_succ]
          refine wpAnyH_ready (rs := [5]) (by kernel_rfl) (by simp) ?_
          refine AllReadyH.cons (List.getElem?_toArray.trans rfl) (fun K hK => ?_) AllReadyH.nil
          go_simp
          try (go_wp2_with fail)
          refine hK.out _ _ ?_ (fun hHeld => ?_)
          · (try dsimp only)
            assumption
          clear hK K
          try simp only [Act.put, List.setIfInBounds_toArray, List.set_cons_zero, List.set_cons_succ]
          refine wpAnyH_take (i := 10) (v := ?hvb10) (List.getElem?_toArray.trans rfl) (by kernel_rfl) (by kernel_rfl) (by kernel_rfl) (fun _ _ _ h => h) (Or.inl ⟨by rfl, ?hyb10⟩) (by assumption) ?hrb10
          case hyb10 => (intro wt hSw; (try dsimp only at hSw); go_simp; try (with_reducible rfl))
          try simp only [Act.put, List.setIfInBounds_toArray, List.set_cons_zero, List.set_cons_succ]
          refine wpAnyH_done (by kernel_rfl) ?_ _
          refine NoPanic.normal ?_
          go_wp2
          go_ret3
          exact HR.out _ (by assumption)
        · have hb2 : ¬ ((1048577 : Int) < (m : Int)) := by omega
          have he : oe = 0 := by rw [Hopen.out, if_neg hA0, if_neg hbig]
          have HR : Hid (∀ W, (Hid (Below w.heap.size w W) ∧ W.cell? ⟨b, o, none⟩ = some (.int .u8 A0)) → OpenR intV w W (.returned (.tuple #[.int .u8 A0, .slice (some ⟨b, o + 1, none⟩) (m - 1) (c - 1), .int .i64 0])) l) := Lib.hid (fun W h => ⟨.inr ⟨by rw [hoe, he], _, _, _, by rw [hA]; rfl, by rw [hod]; exact Hlen.out, by rw [hod]; exact HOd.out W h.1.out⟩, h.1.out⟩)
          clear Hopen he hbig HOd
          go_enter Tryz.func55, Tryz.ntmps55
          go_wp2
          refine wp_region_noPanic ?_
          refine wp_region_held_drew (S := fun W => (Hid (Below w.heap.size w W) ∧ W.cell? ⟨b, o, none⟩ = some (.int .u8 A0))) (by kernel_rfl) S0 (fun hHeld => ?_)
          refine wpAnyH_take (i := 0) (v := ?hvc0) (List.getElem?_toArray.trans rfl) (by kernel_rfl) (by kernel_rfl) (by kernel_rfl) (fun _ _ _ h => h) (Or.inl ⟨by rfl, ?hyc0⟩) (by assumption) ?hrc0
          case hyc0 => (intro wt hSw; (try dsimp only at hSw); go_simp; try (with_reducible rfl))
          try simp only [Act.put, List.setIfInBounds_toArray, List.set_cons_zero, List.set_cons_succ]
          refine wpAnyH_take (i := 1) (v := ?hvc1) (List.getElem?_toArray.trans rfl) (by kernel_rfl) (by kernel_rfl) (by kernel_rfl) (fun _ _ _ h => h) (Or.inl ⟨by rfl, ?hyc1⟩) (by assumption) ?hrc1
          case hyc1 => (intro wt hSw; (try dsimp only at hSw); go_simp; try (with_reducible rfl))
          try simp only [Act.put, List.setIfInBounds_toArray, List.set_cons_zero, List.set_cons_succ]
          refine wpAnyH_take (i := 2) (v := ?hvc2) (List.getElem?_toArray.trans rfl) (by kernel_rfl) (by kernel_rfl) (by kernel_rfl) (fun _ _ _ h => h) (Or.inl ⟨by rfl, ?hyc2⟩) (by assumption) ?hrc2
          case hyc2 => (intro wt hSw; (try dsimp only at hSw); go_simp; try (with_reducible rfl))
          try simp only [Act.put, List.setIfInBounds_toArray, List.set_cons_zero, List.set_cons_succ]
          refine wpAnyH_take (i := 6) (v := ?hvc6) (List.getElem?_toArray.trans rfl) (by kernel_rfl) (by kernel_rfl) (by kernel_rfl) (fun _ _ _ h => h) (Or.inl ⟨by rfl, ?hyc6⟩) (by assumption) ?hrc6
          case hyc6 => (intro wt hSw; (try dsimp only at hSw); go_simp; try (with_reducible rfl))
          try simp only [Act.put, List.setIfInBounds_toArray, List.set_cons_zero, List.set_cons_succ]
          refine wpAnyH_take (i := 7) (v := ?hvc7) (List.getElem?_toArray.trans rfl) (by kernel_rfl) (by kernel_rfl) (by kernel_rfl) (fun _ _ _ h => h) (Or.inl ⟨by rfl, ?hyc7⟩) (by assumption) ?hrc7
          case hyc7 => (intro wt hSw; (try dsimp only at hSw); go_simp; try (with_reducible rfl))
          try simp only [Act.put, List.setIfInBounds_toArray, List.set_cons_zero, List.set_cons_succ]
          refine wpAnyH_take (i := 8) (v := ?hvc8) (List.getElem?_toArray.trans rfl) (by kernel_rfl) (by kernel_rfl) (by kernel_rfl) (fun _ _ _ h => h) (Or.inl ⟨by rfl, ?hyc8⟩) (by assumption) ?hrc8
          case hyc8 => (intro wt hSw; (try dsimp only at hSw); go_simp; try (with_reducible rfl))
          try simp only [Act.put, List.setIfInBounds_toArray, List.set_cons_zero, List.set_cons_succ]
          refine wpAnyH_take (i := 9) (v := ?hvc9) (List.getElem?_toArray.trans rfl) (by kernel_rfl) (by kernel_rfl) (by kernel_rfl) (fun _ _ _ h => h) (Or.inl ⟨by rfl, ?hyc9⟩) (by assumption) ?hrc9
          case hyc9 => (intro wt hSw; (try dsimp only at hSw); go_simp; try (with_reducible rfl))
          try simp only [Act.put, List.setIfInBounds_toArray, List.set_cons_zero, List.set_cons_succ]
          refine wpAnyH_ready (rs := [3]) (by kernel_rfl) (by simp) ?_
          refine AllReadyH.cons (List.getElem?_toArray.trans rfl) (fun K hK => ?_) AllReadyH.nil
          go_simp
          go_at_call 53
          refine (CS.out _ ?_).mono ?_
          assumption
          rintro e w1 ⟨rfl, k1⟩
          clear CS
          try (go_wp2_with fail)
          refine hK.out _ _ ?_ (fun hHeld => ?_)
          · (try dsimp only)
            assumption
          clear hK K
          try simp only [Act.put, List.setIfInBounds_toArray, List.set_cons_zero, List.set_cons_succ]
          refine wpAnyH_ready (rs := [4]) (by kernel_rfl) (by simp) ?_
          refine AllReadyH.cons (List.getElem?_toArray.trans rfl) (fun K hK => ?_) AllReadyH.nil
          go_simp
          go_at_call 52
          refine (CF.out _ ?_).mono ?_
          assumption
          rintro e w2 ⟨⟨a2, n2, c2, rfl, hcv⟩, k2⟩
          clear CF k1
          try (go_wp2_with fail)
          refine hK.out _ _ ?_ (fun hHeld => ?_)
          · (try dsimp only)
            assumption
          clear hK K
          try simp only [Act.put, List.setIfInBounds_toArray, List.set_cons_zero, List.set_cons_succ]
          refine wpAnyH_ready (rs := [5]) (by kernel_rfl) (by simp) ?_
          refine AllReadyH.cons (List.getElem?_toArray.trans rfl) (fun K hK => ?_) AllReadyH.nil
          go_simp
          try (go_wp2_with fail)
          refine hK.out _ _ ?_ (fun hHeld => ?_)
          · (try dsimp only)
            assumption
          clear hK K
          try simp only [Act.put, List.setIfInBounds_toArray, List.set_cons_zero, List.set_cons_succ]
          refine wpAnyH_take (i := 10) (v := ?hvc10) (List.getElem?_toArray.trans rfl) (by kernel_rfl) (by kernel_rfl) (by kernel_rfl) (fun _ _ _ h => h) (Or.inl ⟨by rfl, ?hyc10⟩) (by assumption) ?hrc10
          case hyc10 => (intro wt hSw; (try dsimp only at hSw); go_simp; try (with_reducible rfl))
          try simp only [Act.put, List.setIfInBounds_toArray, List.set_cons_zero, List.set_cons_succ]
          refine wpAnyH_done (by kernel_rfl) ?_ _
          refine NoPanic.normal ?_
          go_wp2
          have S1 := HDw.out _ (by assumption)
          go_region_held3 (fun W => (Hid (Below w.heap.size w W) ∧ W.cell? ⟨b, o, none⟩ = some (.int .u8 A0))) (assumption) (fail)
          all_goals go_wp2
          all_goals go_ret3
          all_goals exact HR.out _ (by assumption)
    · have he : oe = 11 := by rw [Hopen.out, if_pos hTD]
      have HR : Hid (∀ W, (Hid (Below w.heap.size w W) ∧ W.cell? ⟨b, o, none⟩ = some (.int .u8 A0)) → OpenR intV w W (.returned (.tuple #[.int .u8 0, .slice none 0 0, .int .i64 11])) l) := Lib.hid (fun W h => ⟨.inl ⟨by rw [hoe, he]; decide, by rw [hoe, he]; rfl⟩, h.1.out⟩)
      have hne : ((str T).toList == (str D).toList) = false := by
        rw [ByteArray.toList_eq, ByteArray.toList_eq, beq_eq_false_iff_ne]
        exact hTD
      clear Hopen h4 he hTD HOd
      generalize str T = sT at *
      generalize str D = sD at *
      go_enter Tryz.func55, Tryz.ntmps55
      go_wp2
      refine wp_region_noPanic ?_
      refine wp_region_held_drew (S := fun W => (Hid (Below w.heap.size w W) ∧ W.cell? ⟨b, o, none⟩ = some (.int .u8 A0))) (by kernel_rfl) S0 (fun hHeld => ?_)
      refine wpAnyH_take (i := 0) (v := ?hvd0) (List.getElem?_toArray.trans rfl) (by kernel_rfl) (by kernel_rfl) (by kernel_rfl) (fun _ _ _ h => h) (Or.inl ⟨by rfl, ?hyd0⟩) (by assumption) ?hrd0
      case hyd0 => (intro wt hSw; (try dsimp only at hSw); go_simp; try (with_reducible rfl))
      try simp only [Act.put, List.setIfInBounds_toArray, List.set_cons_zero, List.set_cons_succ]
      refine wpAnyH_take (i := 1) (v := ?hvd1) (List.getElem?_toArray.trans rfl) (by kernel_rfl) (by kernel_rfl) (by kernel_rfl) (fun _ _ _ h => h) (Or.inl ⟨by rfl, ?hyd1⟩) (by assumption) ?hrd1
      case hyd1 => (intro wt hSw; (try dsimp only at hSw); go_simp; try (with_reducible rfl))
      try simp only [Act.put, List.setIfInBounds_toArray, List.set_cons_zero, List.set_cons_succ]
      refine wpAnyH_take (i := 2) (v := ?hvd2) (List.getElem?_toArray.trans rfl) (by kernel_rfl) (by kernel_rfl) (by kernel_rfl) (fun _ _ _ h => h) (Or.inl ⟨by rfl, ?hyd2⟩) (by assumption) ?hrd2
      case hyd2 => (intro wt hSw; (try dsimp only at hSw); go_simp; try (with_reducible rfl))
      try simp only [Act.put, List.setIfInBounds_toArray, List.set_cons_zero, List.set_cons_succ]
      refine wpAnyH_take (i := 6) (v := ?hvd6) (List.getElem?_toArray.trans rfl) (by kernel_rfl) (by kernel_rfl) (by kernel_rfl) (fun _ _ _ h => h) (Or.inl ⟨by rfl, ?hyd6⟩) (by assumption) ?hrd6
      case hyd6 => (intro wt hSw; (try dsimp only at hSw); go_simp; try (with_reducible rfl))
      try simp only [Act.put, List.setIfInBounds_toArray, List.set_cons_zero, List.set_cons_succ]
      refine wpAnyH_take (i := 7) (v := ?hvd7) (List.getElem?_toArray.trans rfl) (by kernel_rfl) (by kernel_rfl) (by kernel_rfl) (fun _ _ _ h => h) (Or.inl ⟨by rfl, ?hyd7⟩) (by assumption) ?hrd7
      case hyd7 => (intro wt hSw; (try dsimp only at hSw); go_simp; try (with_reducible rfl))
      try simp only [Act.put, List.setIfInBounds_toArray, List.set_cons_zero, List.set_cons_succ]
      refine wpAnyH_take (i := 8) (v := ?hvd8) (List.getElem?_toArray.trans rfl) (by kernel_rfl) (by kernel_rfl) (by kernel_rfl) (fun _ _ _ h => h) (Or.inl ⟨by rfl, ?hyd8⟩) (by assumption) ?hrd8
      case hyd8 => (intro wt hSw; (try dsimp only at hSw); go_simp; try (with_reducible rfl))
      try simp only [Act.put, List.setIfInBounds_toArray, List.set_cons_zero, List.set_cons_succ]
      refine wpAnyH_take (i := 9) (v := ?hvd9) (List.getElem?_toArray.trans rfl) (by kernel_rfl) (by kernel_rfl) (by kernel_rfl) (fun _ _ _ h => h) (Or.inl ⟨by rfl, ?hyd9⟩) (by assumption) ?hrd9
      case hyd9 => (intro wt hSw; (try dsimp only at hSw); go_simp; try (with_reducible rfl))
      try simp only [Act.put, List.setIfInBounds_toArray, List.set_cons_zero, List.set_cons_succ]
      refine wpAnyH_ready (rs := [3]) (by kernel_rfl) (by simp) ?_
      refine AllReadyH.cons (List.getElem?_toArray.trans rfl) (fun K hK => ?_) AllReadyH.nil
      go_simp
      go_at_call 53
      refine (CS.out _ ?_).mono ?_
      assumption
      rintro e w1 ⟨rfl, k1⟩
      clear CS
      try (go_wp2_with fail)
      refine hK.out _ _ ?_ (fun hHeld => ?_)
      · (try dsimp only)
        assumption
      clear hK K
      try simp only [Act.put, List.setIfInBounds_toArray, List.set_cons_zero, List.set_cons_succ]
      refine wpAnyH_ready (rs := [4]) (by kernel_rfl) (by simp) ?_
      refine AllReadyH.cons (List.getElem?_toArray.trans rfl) (fun K hK => ?_) AllReadyH.nil
      go_simp
      go_at_call 52
      refine (CF.out _ ?_).mono ?_
      assumption
      rintro e w2 ⟨⟨a2, n2, c2, rfl, hcv⟩, k2⟩
      clear CF k1
      try (go_wp2_with fail)
      refine hK.out _ _ ?_ (fun hHeld => ?_)
      · (try dsimp only)
        assumption
      clear hK K
      try simp only [Act.put, List.setIfInBounds_toArray, List.set_cons_zero, List.set_cons_succ]
      refine wpAnyH_ready (rs := [5]) (by kernel_rfl) (by simp) ?_
      refine AllReadyH.cons (List.getElem?_toArray.trans rfl) (fun K hK => ?_) AllReadyH.nil
      go_simp
      try (go_wp2_with fail)
      refine hK.out _ _ ?_ (fun hHeld => ?_)
      · (try dsimp only)
        assumption
      clear hK K
      try simp only [Act.put, List.setIfInBounds_toArray, List.set_cons_zero, List.set_cons_succ]
      refine wpAnyH_take (i := 10) (v := ?hvd10) (List.getElem?_toArray.trans rfl) (by kernel_rfl) (by kernel_rfl) (by kernel_rfl) (fun _ _ _ h => h) (Or.inl ⟨by rfl, ?hyd10⟩) (by assumption) ?hrd10
      case hyd10 => (intro wt hSw; (try dsimp only at hSw); go_simp; try (with_reducible rfl))
      try simp only [Act.put, List.setIfInBounds_toArray, List.set_cons_zero, List.set_cons_succ]
      refine wpAnyH_done (by kernel_rfl) ?_ _
      refine NoPanic.normal ?_
      go_wp2
      go_ret3
      exact HR.out _ (by assumption)
end Go.Proofs.YtbgockggbpmhnaaGreatDoor

namespace Go.Proofs.YtbgockggbpmhnaaGreatDoor
open Go Go.RowKit

set_option maxRecDepth 100000 in
set_option maxHeartbeats 8000000 in
theorem ropenM_any (a : Option Addr) (n c : Nat) (l : List UInt8) (w : World) (hl : l.length = n) (hv : IsB w (.slice a n c) l) (hl47 : l.length ≤ roomB) :
    Calls Tryz.prog 21 #[.slice a n c] w fun e w' => DecMR intV w w' e (PK.openM l) := by
  have HO := Lib.hid (fun (V : World) (b : Below w.heap.size w V) => ropen_any a n c l V hl (hv.below b) hl47)
  have hod : (PK.openD l).length ≤ roomB := by unfold PK.openD; simp; omega
  have HD : Hid (∀ (V : World), Below w.heap.size w V → ∀ (a : Option Addr) (n c : Nat), (PK.openD l).length = n → IsB V (.slice a n c) (PK.openD l) → Calls Tryz.prog 12 #[.slice a n c] V fun e w' => DecMR intV V w' e (PK.decM (PK.openD l))) := fun V b a n c hn h => by
    subst hn
    exact rdecM_any a c (PK.openD l) V h hod
  have hres := openM_eq l
  have HRs := Lib.hid hres
  generalize PK.openM l = RES at *
  generalize PK.decM (PK.openD l) = RD at *
  obtain ⟨Wa, hWa⟩ : ∃ W, W = w.alloc (.cells #[.int .i64 0, .int .i64 0, .int .i64 0, .int .i64 0, .int .i64 0, .int .i64 0, .int .i64 0, .int .i64 0, .bool false, .int .i64 0, .slice none 0 0, .slice none 0 0] 25) := ⟨_, rfl⟩
  have gA : Hid (Wa.heap[w.heap.size]? = some (.cells #[.int .i64 0, .int .i64 0, .int .i64 0, .int .i64 0, .int .i64 0, .int .i64 0, .int .i64 0, .int .i64 0, .bool false, .int .i64 0, .slice none 0 0, .slice none 0 0] 25)) := Lib.hid (by rw [hWa]; exact heap_alloc_new _ _)
  have bA : Hid (Below w.heap.size w Wa) := Lib.hid (by rw [hWa]; exact (Below.refl _ _).alloc (Nat.le_refl _) _)
  have HO1 := Lib.hid (HO.out Wa bA.out)
  clear hl hv hl47 hod hres HO
  go_enter Tryz.func21, Tryz.ntmps21
  go_wp2_with fail
  rw [← hWa]
  clear hWa
  refine HO1.out.mono ?_
  rintro e w1 ⟨⟨h0, rfl⟩ | ⟨h0, a2, n2, c2, rfl, hn2, i2⟩, b1⟩
  · have BW : Hid (Below w.heap.size w w1) := bA.out.trans (b1.mono bA.out.size)
    have GR : Hid (w1.heap[w.heap.size]? = some (.cells #[.int .i64 0, .int .i64 0, .int .i64 0, .int .i64 0, .int .i64 0, .int .i64 0, .int .i64 0, .int .i64 0, .bool false, .int .i64 0, .slice none 0 0, .slice none 0 0] 25)) := Lib.hid ((b1.block _ (Array.getElem?_eq_some_iff.1 gA.out).1).trans gA.out)
    have HRes : Hid (RES = none) := Lib.hid (by rw [HRs.out, if_pos (.inl h0)])
    obtain ⟨q, hq⟩ : ∃ q, PK.openE l = q + 1 := ⟨PK.openE l - 1, by omega⟩
    rw [hq]
    have hqI : (((q + 1 : Nat) : Int) != 0) = true := by rw [bne_iff_ne]; omega
    obtain ⟨⟨z0, z1, z2, z3, z4, z5, z6, z7, z8, z9, za, zb⟩, zf⟩ := cells12 GR.out
    clear h0 b1 gA bA HO1 HD HRs hq
    simp only [intV]
    go_wp2
    clear z0 z1 z2 z3 z4 z5 z6 z7 z8 z9 za zb zf
    have FBd := Lib.hid (cells12 (stored12 GR.out (.int .i64 0) (.int .i64 0) (.int .i64 0) (.int .i64 0) (.int .i64 0) (.int .i64 0) (.int .i64 0) (.int .i64 0) (.bool false) (.int .i64 0) (.slice none 0 0) (.slice none 0 0)))
    have fR := set12_fr w1 w.heap.size (.int .i64 0) (.int .i64 0) (.int .i64 0) (.int .i64 0) (.int .i64 0) (.int .i64 0) (.int .i64 0) (.int .i64 0) (.bool false) (.int .i64 0) (.slice none 0 0) (.slice none 0 0)
    have no8R : ∀ q, q = w.heap.size → ∀ j n, w1.cell? ⟨q, j, none⟩ ≠ some (.int .u8 n) := fun q hq j n => by subst hq; exact no8_12 GR.out (by simp) j n
    have BBd : Hid (Below w.heap.size w (set12 w1 w.heap.size (.int .i64 0) (.int .i64 0) (.int .i64 0) (.int .i64 0) (.int .i64 0) (.int .i64 0) (.int .i64 0) (.int .i64 0) (.bool false) (.int .i64 0) (.slice none 0 0) (.slice none 0 0))) := Lib.hid (Fr.belowM BW.out fR (Nat.le_refl _) (Array.getElem?_eq_some_iff.1 GR.out).1)
    clear fR no8R GR BW
    generalize hWf : (((((((((((w1.setCell ⟨w.heap.size, 0, none⟩ (.int .i64 0)).setCell ⟨w.heap.size, 1, none⟩ (.int .i64 0)).setCell ⟨w.heap.size, 2, none⟩ (.int .i64 0)).setCell ⟨w.heap.size, 3, none⟩ (.int .i64 0)).setCell ⟨w.heap.size, 4, none⟩ (.int .i64 0)).setCell ⟨w.heap.size, 5, none⟩ (.int .i64 0)).setCell ⟨w.heap.size, 6, none⟩ (.int .i64 0)).setCell ⟨w.heap.size, 7, none⟩ (.int .i64 0)).setCell ⟨w.heap.size, 8, none⟩ (.bool false)).setCell ⟨w.heap.size, 9, none⟩ (.int .i64 0)).setCell ⟨w.heap.size, 10, none⟩ (.slice none 0 0)).setCell ⟨w.heap.size, 11, none⟩ (.slice none 0 0) = W' at *
    have hWf' : W' = set12 w1 w.heap.size (.int .i64 0) (.int .i64 0) (.int .i64 0) (.int .i64 0) (.int .i64 0) (.int .i64 0) (.int .i64 0) (.int .i64 0) (.bool false) (.int .i64 0) (.slice none 0 0) (.slice none 0 0) := hWf.symm
    rw [← hWf'] at FBd BBd
    obtain ⟨⟨e0, e1, e2, e3, e4, e5, e6, e7, e8, e9, ea', eb⟩, _⟩ := FBd.out
    refine bodyPost_ret (v := .tuple #[zeroM, .int .i64 3]) (by simp [results, Tryz.results21, go_sem, e0, e1, e2, e3, e4, e5, e6, e7, e8, e9, ea', eb, zeroM]) rfl ?_
    exact ⟨.inl ⟨HRes.out, rfl⟩, BBd.out⟩
  · have BW : Hid (Below w.heap.size w w1) := bA.out.trans (b1.mono bA.out.size)
    have GR : Hid (w1.heap[w.heap.size]? = some (.cells #[.int .i64 0, .int .i64 0, .int .i64 0, .int .i64 0, .int .i64 0, .int .i64 0, .int .i64 0, .int .i64 0, .bool false, .int .i64 0, .slice none 0 0, .slice none 0 0] 25)) := Lib.hid ((b1.block _ (Array.getElem?_eq_some_iff.1 gA.out).1).trans gA.out)
    have hr := HRs.out
    by_cases hk : at8 l 0 = 109
    · rw [if_neg (by rw [h0]; simp [hk])] at hr
      have Hr := Lib.hid hr
      have HD1 := Lib.hid (HD.out w1 BW.out a2 n2 c2 hn2 i2)
      have hk2 : (at8 l 0 != 109) = false := by rw [hk]; rfl
      clear h0 b1 gA bA HO1 HD HRs hr hn2 i2 hk
      generalize at8 l 0 = k0 at *
      simp only [intV]
      go_wp2_with fail
      refine HD1.out.mono ?_
      rintro e w2 ⟨⟨hn, rfl⟩ | ⟨y, rfl, hfy, hy⟩, b2⟩
      · have BW : Hid (Below w.heap.size w w2) := BW.out.trans (b2.mono BW.out.size)
        have GR : Hid (w2.heap[w.heap.size]? = some (.cells #[.int .i64 0, .int .i64 0, .int .i64 0, .int .i64 0, .int .i64 0, .int .i64 0, .int .i64 0, .int .i64 0, .bool false, .int .i64 0, .slice none 0 0, .slice none 0 0] 25)) := Lib.hid ((b2.block _ (Array.getElem?_eq_some_iff.1 GR.out).1).trans GR.out)
        have HRes : Hid (RES = none) := Lib.hid (by rw [Hr.out, hn])
        obtain ⟨⟨z0, z1, z2, z3, z4, z5, z6, z7, z8, z9, za, zb⟩, zf⟩ := cells12 GR.out
        clear hn b2 HD1 Hr
        simp only [intV, zeroM]
        go_wp2
        clear z0 z1 z2 z3 z4 z5 z6 z7 z8 z9 za zb zf
        have FBd := Lib.hid (cells12 (stored12 GR.out (.int .i64 0) (.int .i64 0) (.int .i64 0) (.int .i64 0) (.int .i64 0) (.int .i64 0) (.int .i64 0) (.int .i64 0) (.bool false) (.int .i64 0) (.slice none 0 0) (.slice none 0 0)))
        have fR := set12_fr w2 w.heap.size (.int .i64 0) (.int .i64 0) (.int .i64 0) (.int .i64 0) (.int .i64 0) (.int .i64 0) (.int .i64 0) (.int .i64 0) (.bool false) (.int .i64 0) (.slice none 0 0) (.slice none 0 0)
        have no8R : ∀ q, q = w.heap.size → ∀ j n, w2.cell? ⟨q, j, none⟩ ≠ some (.int .u8 n) := fun q hq j n => by subst hq; exact no8_12 GR.out (by simp) j n
        have BBd : Hid (Below w.heap.size w (set12 w2 w.heap.size (.int .i64 0) (.int .i64 0) (.int .i64 0) (.int .i64 0) (.int .i64 0) (.int .i64 0) (.int .i64 0) (.int .i64 0) (.bool false) (.int .i64 0) (.slice none 0 0) (.slice none 0 0))) := Lib.hid (Fr.belowM BW.out fR (Nat.le_refl _) (Array.getElem?_eq_some_iff.1 GR.out).1)
        clear fR no8R GR BW
        generalize hWf : (((((((((((w2.setCell ⟨w.heap.size, 0, none⟩ (.int .i64 0)).setCell ⟨w.heap.size, 1, none⟩ (.int .i64 0)).setCell ⟨w.heap.size, 2, none⟩ (.int .i64 0)).setCell ⟨w.heap.size, 3, none⟩ (.int .i64 0)).setCell ⟨w.heap.size, 4, none⟩ (.int .i64 0)).setCell ⟨w.heap.size, 5, none⟩ (.int .i64 0)).setCell ⟨w.heap.size, 6, none⟩ (.int .i64 0)).setCell ⟨w.heap.size, 7, none⟩ (.int .i64 0)).setCell ⟨w.heap.size, 8, none⟩ (.bool false)).setCell ⟨w.heap.size, 9, none⟩ (.int .i64 0)).setCell ⟨w.heap.size, 10, none⟩ (.slice none 0 0)).setCell ⟨w.heap.size, 11, none⟩ (.slice none 0 0) = W' at *
        have hWf' : W' = set12 w2 w.heap.size (.int .i64 0) (.int .i64 0) (.int .i64 0) (.int .i64 0) (.int .i64 0) (.int .i64 0) (.int .i64 0) (.int .i64 0) (.bool false) (.int .i64 0) (.slice none 0 0) (.slice none 0 0) := hWf.symm
        rw [← hWf'] at FBd BBd
        obtain ⟨⟨e0, e1, e2, e3, e4, e5, e6, e7, e8, e9, ea', eb⟩, _⟩ := FBd.out
        refine bodyPost_ret (v := .tuple #[zeroM, .int .i64 3]) (by simp [results, Tryz.results21, go_sem, e0, e1, e2, e3, e4, e5, e6, e7, e8, e9, ea', eb, zeroM]) rfl ?_
        exact ⟨.inl ⟨HRes.out, rfl⟩, BBd.out⟩
      · have hw1 : w.heap.size < w1.heap.size := (Array.getElem?_eq_some_iff.1 GR.out).1
        have BW : Hid (Below w.heap.size w w2) := BW.out.trans (b2.mono BW.out.size)
        have gr := (b2.block _ hw1).trans GR.out
        obtain ⟨kd, fr, to, tm, ix, lt, cm, ro, ok, off, da, dn, dc, d, ea, en, ec, es⟩ := y
        have GR : Hid (w2.heap[w.heap.size]? = some (.cells #[.int .i64 0, .int .i64 0, .int .i64 0, .int .i64 0, .int .i64 0, .int .i64 0, .int .i64 0, .int .i64 0, .bool false, .int .i64 0, .slice none 0 0, .slice none 0 0] 25)) := Lib.hid gr
        have HRes : Hid (RES = some (RM.msg ⟨kd, fr, to, tm, ix, lt, cm, ro, ok, off, da, dn, dc, d, ea, en, ec, es⟩)) := Lib.hid (by rw [Hr.out, hy])
        obtain ⟨hfl, hfb, hfe⟩ := hfy
        simp only at hfl hfb hfe
        have HDN := Lib.hid hfl
        have DD0 := Lib.hid hfb
        have EE0 := Lib.hid hfe
        obtain ⟨⟨z0, z1, z2, z3, z4, z5, z6, z7, z8, z9, za, zb⟩, zf⟩ := cells12 GR.out
        clear hy b2 HD1 Hr hfl hfb hfe gr hw1
        simp only [intV, RM.val]
        go_wp2
        clear z0 z1 z2 z3 z4 z5 z6 z7 z8 z9 za zb zf
        have FBd := Lib.hid (cells12 (stored12 GR.out (.int .i64 kd) (.int .i64 fr) (.int .i64 to) (.int .i64 tm) (.int .i64 ix) (.int .i64 lt) (.int .i64 cm) (.int .i64 ro) (.bool ok) (.int .i64 off) (.slice da dn dc) (.slice ea en ec)))
        have fR := set12_fr w2 w.heap.size (.int .i64 kd) (.int .i64 fr) (.int .i64 to) (.int .i64 tm) (.int .i64 ix) (.int .i64 lt) (.int .i64 cm) (.int .i64 ro) (.bool ok) (.int .i64 off) (.slice da dn dc) (.slice ea en ec)
        have no8R : ∀ q, q = w.heap.size → ∀ j n, w2.cell? ⟨q, j, none⟩ ≠ some (.int .u8 n) := fun q hq j n => by subst hq; exact no8_12 GR.out (by simp) j n
        have BBd : Hid (Below w.heap.size w (set12 w2 w.heap.size (.int .i64 kd) (.int .i64 fr) (.int .i64 to) (.int .i64 tm) (.int .i64 ix) (.int .i64 lt) (.int .i64 cm) (.int .i64 ro) (.bool ok) (.int .i64 off) (.slice da dn dc) (.slice ea en ec))) := Lib.hid (Fr.belowM BW.out fR (Nat.le_refl _) (Array.getElem?_eq_some_iff.1 GR.out).1)
        have DD : Hid (IsB (set12 w2 w.heap.size (.int .i64 kd) (.int .i64 fr) (.int .i64 to) (.int .i64 tm) (.int .i64 ix) (.int .i64 lt) (.int .i64 cm) (.int .i64 ro) (.bool ok) (.int .i64 off) (.slice da dn dc) (.slice ea en ec)) (.slice da dn dc) d) := Lib.hid (DD0.out.kept8 fR no8R)
        have EE : Hid (EsS (set12 w2 w.heap.size (.int .i64 kd) (.int .i64 fr) (.int .i64 to) (.int .i64 tm) (.int .i64 ix) (.int .i64 lt) (.int .i64 cm) (.int .i64 ro) (.bool ok) (.int .i64 off) (.slice da dn dc) (.slice ea en ec)) (.slice ea en ec) es) := Lib.hid (EE0.out.keptZ fR GR.out)
        clear fR no8R GR BW
        generalize hWf : (((((((((((w2.setCell ⟨w.heap.size, 0, none⟩ (.int .i64 kd)).setCell ⟨w.heap.size, 1, none⟩ (.int .i64 fr)).setCell ⟨w.heap.size, 2, none⟩ (.int .i64 to)).setCell ⟨w.heap.size, 3, none⟩ (.int .i64 tm)).setCell ⟨w.heap.size, 4, none⟩ (.int .i64 ix)).setCell ⟨w.heap.size, 5, none⟩ (.int .i64 lt)).setCell ⟨w.heap.size, 6, none⟩ (.int .i64 cm)).setCell ⟨w.heap.size, 7, none⟩ (.int .i64 ro)).setCell ⟨w.heap.size, 8, none⟩ (.bool ok)).setCell ⟨w.heap.size, 9, none⟩ (.int .i64 off)).setCell ⟨w.heap.size, 10, none⟩ (.slice da dn dc)).setCell ⟨w.heap.size, 11, none⟩ (.slice ea en ec) = W' at *
        have hWf' : W' = set12 w2 w.heap.size (.int .i64 kd) (.int .i64 fr) (.int .i64 to) (.int .i64 tm) (.int .i64 ix) (.int .i64 lt) (.int .i64 cm) (.int .i64 ro) (.bool ok) (.int .i64 off) (.slice da dn dc) (.slice ea en ec) := hWf.symm
        rw [← hWf'] at FBd BBd DD EE
        obtain ⟨⟨e0, e1, e2, e3, e4, e5, e6, e7, e8, e9, ea', eb⟩, _⟩ := FBd.out
        refine bodyPost_ret (v := .tuple #[.agg #[.int .i64 kd, .int .i64 fr, .int .i64 to, .int .i64 tm, .int .i64 ix, .int .i64 lt, .int .i64 cm, .int .i64 ro, .bool ok, .int .i64 off, .slice da dn dc, .slice ea en ec], .int .i64 0]) (by simp [results, Tryz.results21, go_sem, e0, e1, e2, e3, e4, e5, e6, e7, e8, e9, ea', eb]) rfl ?_
        exact ⟨.inr ⟨⟨kd, fr, to, tm, ix, lt, cm, ro, ok, off, da, dn, dc, d, ea, en, ec, es⟩, rfl, ⟨HDN.out, DD.out, EE.out⟩, HRes.out⟩, BBd.out⟩
    · rw [if_pos (.inr hk)] at hr
      have HRes := Lib.hid hr
      have hk2 : (at8 l 0 != 109) = true := by rw [bne_iff_ne]; exact hk
      obtain ⟨⟨z0, z1, z2, z3, z4, z5, z6, z7, z8, z9, za, zb⟩, zf⟩ := cells12 GR.out
      clear h0 b1 gA bA HO1 HD HRs hr hn2 i2 hk
      generalize at8 l 0 = k0 at *
      simp only [intV]
      go_wp2
      clear z0 z1 z2 z3 z4 z5 z6 z7 z8 z9 za zb zf
      have FBd := Lib.hid (cells12 (stored12 GR.out (.int .i64 0) (.int .i64 0) (.int .i64 0) (.int .i64 0) (.int .i64 0) (.int .i64 0) (.int .i64 0) (.int .i64 0) (.bool false) (.int .i64 0) (.slice none 0 0) (.slice none 0 0)))
      have fR := set12_fr w1 w.heap.size (.int .i64 0) (.int .i64 0) (.int .i64 0) (.int .i64 0) (.int .i64 0) (.int .i64 0) (.int .i64 0) (.int .i64 0) (.bool false) (.int .i64 0) (.slice none 0 0) (.slice none 0 0)
      have no8R : ∀ q, q = w.heap.size → ∀ j n, w1.cell? ⟨q, j, none⟩ ≠ some (.int .u8 n) := fun q hq j n => by subst hq; exact no8_12 GR.out (by simp) j n
      have BBd : Hid (Below w.heap.size w (set12 w1 w.heap.size (.int .i64 0) (.int .i64 0) (.int .i64 0) (.int .i64 0) (.int .i64 0) (.int .i64 0) (.int .i64 0) (.int .i64 0) (.bool false) (.int .i64 0) (.slice none 0 0) (.slice none 0 0))) := Lib.hid (Fr.belowM BW.out fR (Nat.le_refl _) (Array.getElem?_eq_some_iff.1 GR.out).1)
      clear fR no8R GR BW
      generalize hWf : (((((((((((w1.setCell ⟨w.heap.size, 0, none⟩ (.int .i64 0)).setCell ⟨w.heap.size, 1, none⟩ (.int .i64 0)).setCell ⟨w.heap.size, 2, none⟩ (.int .i64 0)).setCell ⟨w.heap.size, 3, none⟩ (.int .i64 0)).setCell ⟨w.heap.size, 4, none⟩ (.int .i64 0)).setCell ⟨w.heap.size, 5, none⟩ (.int .i64 0)).setCell ⟨w.heap.size, 6, none⟩ (.int .i64 0)).setCell ⟨w.heap.size, 7, none⟩ (.int .i64 0)).setCell ⟨w.heap.size, 8, none⟩ (.bool false)).setCell ⟨w.heap.size, 9, none⟩ (.int .i64 0)).setCell ⟨w.heap.size, 10, none⟩ (.slice none 0 0)).setCell ⟨w.heap.size, 11, none⟩ (.slice none 0 0) = W' at *
      have hWf' : W' = set12 w1 w.heap.size (.int .i64 0) (.int .i64 0) (.int .i64 0) (.int .i64 0) (.int .i64 0) (.int .i64 0) (.int .i64 0) (.int .i64 0) (.bool false) (.int .i64 0) (.slice none 0 0) (.slice none 0 0) := hWf.symm
      rw [← hWf'] at FBd BBd
      obtain ⟨⟨e0, e1, e2, e3, e4, e5, e6, e7, e8, e9, ea', eb⟩, _⟩ := FBd.out
      refine bodyPost_ret (v := .tuple #[zeroM, .int .i64 3]) (by simp [results, Tryz.results21, go_sem, e0, e1, e2, e3, e4, e5, e6, e7, e8, e9, ea', eb, zeroM]) rfl ?_
      exact ⟨.inl ⟨HRes.out, rfl⟩, BBd.out⟩
end Go.Proofs.YtbgockggbpmhnaaGreatDoor
