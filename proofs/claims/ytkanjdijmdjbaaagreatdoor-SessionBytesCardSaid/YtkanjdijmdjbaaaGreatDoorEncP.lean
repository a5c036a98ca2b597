/-
  The program's Encode of a tree, by a contract.
  Conditions: the tree's maps hold the lists' (TreeQ), which rise (RiseQ); the listed variables read as listed ('Env'); what is laid comes to at most 2^47 - 2000 bytes.
-/
import Derived.Test.YtkanjdijmdjbaaaGreatDoorG21
import Derived.Test.YtkanjdijmdjbaaaGreatDoorG18
import Derived.Deep.DeepCutAuto
namespace Go.Proofs.YtkanjdijmdjbaaaGreatDoor
open Go Go.RowKit

theorem TreeQ.fr {X : Nat → Prop} {w w' : World} {T bn bu n m : Nat} {N : List QT.Nd} {U : List QT.Us} (h : TreeQ w T bn bu n m N U) (f : Fr X w w') (h1 : ¬ X T) (h2 : ¬ X bn) (h3 : ¬ X bu) : TreeQ w' T bn bu n m N U :=
  ⟨f.heap h.tb h1, h.mN.kept f h2, h.mU.kept f h3⟩
theorem stored1c {w : World} {M : Nat} {x : Value} {t : TypeId} (h : w.heap[M]? = some (.cells #[x] t)) (y : Value) : (w.setCell ⟨M, 0, none⟩ y).heap[M]? = some (.cells #[y] t) := by
  simp only [World.setCell, Array.getElem?_modify, if_true, h, Option.map_some]
  simp
theorem Wg.off {w : World} {G : Nat → Prop} {M B : Nat} {l : List UInt8} (h : Wg w G M l) (hB : ¬ G B) (v : Value) : Wg (w.setCell ⟨B, 0, none⟩ v) G M l := by
  obtain ⟨hg, hb, a, c, hh, ho, hx⟩ := h
  have f : Fr (fun j => j = B) w (w.setCell ⟨B, 0, none⟩ v) := Fr.setCell (X := fun j => j = B) (Fr.refl _ _) (fun _ => rfl) _
  exact ⟨hg, hb, a, c, f.heap hh (fun e => hB (e ▸ hb)), ho.kept f (fun b hb' e => hB (e ▸ (hx b hb').1)), hx⟩
theorem OwnS.at2 {w : World} {base : Nat} {v : Value} {L : List QT.Str} (h : OwnS w base v L) : ∃ a c, v = .slice a L.length c ∧ ∀ j s, L[j]? = some s → ∃ g, a = some ⟨g, 0, none⟩ ∧ base ≤ g ∧ w.cell? ⟨g, j, none⟩ = some (.string (str s)) := by
  rcases h with ⟨rfl, rfl⟩ | ⟨g, cap, rfl, hb, _, _, hc⟩
  · exact ⟨none, 0, rfl, fun j s hs => by simp at hs⟩
  · exact ⟨_, _, rfl, fun j s hs => ⟨g, rfl, hb, (hc j s hs).1⟩⟩
set_option maxRecDepth 100000 in
set_option maxHeartbeats 16000000 in
/-- Encode. -/
theorem encodeQ_any (T bn bu n m : Nat) (N : List QT.Nd) (U : List QT.Us) (w : World) (hT : TreeQ w T bn bu n m N U) (hR : RiseQ N U) (hE : Env w) (hroom : (QT.encT N U).length + 2000 ≤ roomB) :
    Calls Tryz.prog 31 #[.pointer (some ⟨T, 0, none⟩)] w fun e w' => (∃ a c, e = .returned (.slice a (QT.encT N U).length c) ∧ OwnB w' (.slice a (QT.encT N U).length c) (QT.encT N U) ∧ ∀ b, Value.ownBlock (.slice a (QT.encT N U).length c) = some b → w.heap.size ≤ b) ∧ Below w.heap.size w w' := by
  have hstc := @run_store_complex Tryz.prog
  have HT := Lib.hid hT
  have HE0 := Lib.hid hE
  have HR := Lib.hid hR
  have hlN : (N.length : Int) ≤ 281474976710656 := by have := hR.lN; omega
  have hlU : (U.length : Int) ≤ 281474976710656 := by have := hR.lU; omega
  have wN : IntKind.u64.wrap (N.length : Int) = (N.length : Int) := by rw [IntKind.wrap_u64]; omega
  have wU : IntKind.u64.wrap (U.length : Int) = (U.length : Int) := by rw [IntKind.wrap_u64]; omega
  obtain ⟨LA, hLA⟩ : ∃ l, l = PK.uB N.length := ⟨_, rfl⟩
  obtain ⟨LB, hLB⟩ : ∃ l, l = LA ++ QT.encL QT.encNd N := ⟨_, rfl⟩
  obtain ⟨LC, hLC⟩ : ∃ l, l = LB ++ PK.uB U.length := ⟨_, rfl⟩
  have hEn : QT.encT N U = LC ++ QT.encL QT.encUs U := by rw [hLC, hLB, hLA]; rfl
  rw [hEn]
  rw [hEn, List.length_append, hLC, List.length_append, hLB, List.length_append] at hroom
  have u0 := PK.uB_len N.length (by omega)
  have u1 := PK.uB_len U.length (by omega)
  have d0 := decDigits_le N.length (by omega)
  have d1 := decDigits_le U.length (by omega)
  rw [← hLA] at u0
  have HRm := Lib.hid hroom
  have HLA := Lib.hid hLA
  have HLB := Lib.hid hLB
  have HLC := Lib.hid hLC
  have Hlt : Hid (T < w.heap.size ∧ bn < w.heap.size ∧ bu < w.heap.size) := Lib.hid ⟨(Array.getElem?_eq_some_iff.1 hT.tb).1, hT.mN.lt, hT.mU.lt⟩
  have cont0 : Hid (∀ V, Below w.heap.size w V → (Hid (Below w.heap.size w V) ∧ V.cell? ⟨T, 0, none⟩ = some (.map (some bn)) ∧ (∀ ty, (Builtin.len_ #[118] ty #[.map (some bn)]).run Tryz.prog V = .ok (.int .i64 (N.length : Nat)) V))) := Lib.hid (fun V b => by
    obtain ⟨t0, _⟩ := cells2 (hT.below b).tb
    exact ⟨Lib.hid b, t0, fun ty => (hT.below b).mN.len Tryz.underlying118 ty⟩)
  have hglob := hE.big
  have Hgl := Lib.hid hglob
  have C0 : Hid (∀ V, (Hid (Below w.heap.size w V) ∧ V.cell? ⟨T, 0, none⟩ = some (.map (some bn)) ∧ (∀ ty, (Builtin.len_ #[118] ty #[.map (some bn)]).run Tryz.prog V = .ok (.int .i64 (N.length : Nat)) V)) → Calls Tryz.prog 29 #[] V fun e w' => e = .returned (.pointer (some ⟨V.heap.size, 0, none⟩)) ∧ Hid (Wg w' (fun k => V.heap.size ≤ k) V.heap.size [] ∧ Below V.heap.size V w') ∧ (Hid (Below w.heap.size w w') ∧ w'.cell? ⟨T, 0, none⟩ = some (.map (some bn)) ∧ (∀ ty, (Builtin.len_ #[118] ty #[.map (some bn)]).run Tryz.prog w' = .ok (.int .i64 (N.length : Nat)) w'))) := Lib.hid (fun V h => (new_any V (hE.wr h.1.out hglob)).mono fun e w' ⟨e1, e2, e3⟩ => ⟨e1, Lib.hid ⟨e2.wg, e3⟩, cont0.out w' (h.1.out.trans (e3.mono h.1.out.size))⟩)
  have C1 : Hid (∀ V G M, (Hid (Below w.heap.size w V) ∧ V.cell? ⟨T, 0, none⟩ = some (.map (some bn)) ∧ (∀ ty, (Builtin.len_ #[118] ty #[.map (some bn)]).run Tryz.prog V = .ok (.int .i64 (N.length : Nat)) V)) → Hid (Wg V G M [] ∧ (∀ k, V.heap.size ≤ k → G k) ∧ ∀ k, G k → w.heap.size ≤ k) → Calls Tryz.prog 32 #[.pointer (some ⟨M, 0, none⟩), .int .u64 N.length] V fun e w' => e = .returned (.pointer (some ⟨M, 0, none⟩)) ∧ Hid (Wg w' G M LA ∧ Fr G V w') ∧ (Hid (Below w.heap.size w w') ∧ w'.cell? ⟨T, 0, none⟩ = some (.map (some bn)) ∧ (∀ ty, (Builtin.len_ #[118] ty #[.map (some bn)]).run Tryz.prog w' = .ok (.int .i64 (N.length : Nat)) w'))) := Lib.hid (fun V G M h hw => (wuint_g G M [] N.length V hw.out.1 hw.out.2.1 (by omega) (by simp only [List.length_nil, roomB]; omega) (hE.wr h.1.out hglob)).mono fun e w' ⟨e1, e2, e3⟩ =>
    ⟨e1, Lib.hid ⟨by rw [hLA]; exact e2, e3⟩, cont0.out w' (h.1.out.trans ⟨e3.os, e3.tape, e3.output, e3.size, fun q hq => e3.block q (Nat.lt_of_lt_of_le hq h.1.out.size) (fun e => by have := hw.out.2.2 q e; omega)⟩)⟩)
  have SC : Hid (∀ (V : World) (B : Nat) (v : Value), (Hid (Below w.heap.size w V) ∧ V.cell? ⟨T, 0, none⟩ = some (.map (some bn)) ∧ (∀ ty, (Builtin.len_ #[118] ty #[.map (some bn)]).run Tryz.prog V = .ok (.int .i64 (N.length : Nat)) V)) → w.heap.size ≤ B → (Hid (Below w.heap.size w (V.setCell ⟨B, 0, none⟩ v)) ∧ (V.setCell ⟨B, 0, none⟩ v).cell? ⟨T, 0, none⟩ = some (.map (some bn)) ∧ (∀ ty, (Builtin.len_ #[118] ty #[.map (some bn)]).run Tryz.prog (V.setCell ⟨B, 0, none⟩ v) = .ok (.int .i64 (N.length : Nat)) (V.setCell ⟨B, 0, none⟩ v)))) := Lib.hid (fun V B v h hB => by
    have f : Fr (fun j => j = B) V (V.setCell ⟨B, 0, none⟩ v) := Fr.setCell (X := fun j => j = B) (Fr.refl _ _) (fun _ => rfl) _
    exact cont0.out _ (h.1.out.trans ⟨f.os, f.tape, f.output, f.size, fun q hq => f.block q (Nat.lt_of_lt_of_le hq h.1.out.size) (by omega)⟩))
  have SW1 := cont0.out (w.alloc (.cells #[.pointer none] 99)).drew (((Below.refl _ _).alloc (Nat.le_refl _) _).drew)
  have A0 : Hid (∀ (V : World) o, (Hid (Below w.heap.size w V) ∧ V.cell? ⟨T, 0, none⟩ = some (.map (some bn)) ∧ (∀ ty, (Builtin.len_ #[118] ty #[.map (some bn)]).run Tryz.prog V = .ok (.int .i64 (N.length : Nat)) V)) → (Hid (Below w.heap.size w (V.alloc o)) ∧ (V.alloc o).cell? ⟨T, 0, none⟩ = some (.map (some bn)) ∧ (∀ ty, (Builtin.len_ #[118] ty #[.map (some bn)]).run Tryz.prog (V.alloc o) = .ok (.int .i64 (N.length : Nat)) (V.alloc o)))) := Lib.hid (fun V o h => cont0.out _ (h.1.out.alloc h.1.out.size o))
  have SS := cont0.out w.drew (Below.refl _ _).drew
  clear hT hE hR hEn hroom hLA hLB hLC cont0
  go_enter Tryz.func31, Tryz.ntmps31
  go_upto_region 3 with fail
  go_cut [3] (fun v3 V => ∃ M WB, v3 = .pointer (some ⟨WB, 0, none⟩) ∧ Hid (w.heap.size ≤ M ∧ w.heap.size ≤ WB ∧ WB < V.heap.size ∧ Below w.heap.size w V ∧ V.cell? ⟨WB, 0, none⟩ = some (.pointer (some ⟨M, 0, none⟩)) ∧ Wg V (fun k => w.heap.size ≤ k ∧ k ≠ WB) M LA))
  case first =>
    go_wp2_with fail
    refine wp_region_noPanic ?_
    refine wp_region_held_drew (S := fun V => (Hid (Below w.heap.size w V) ∧ V.cell? ⟨T, 0, none⟩ = some (.map (some bn)) ∧ (∀ ty, (Builtin.len_ #[118] ty #[.map (some bn)]).run Tryz.prog V = .ok (.int .i64 (N.length : Nat)) V))) (by kernel_rfl) SS (fun hHeld => ?_)
    refine rTk 1 ?_; try simp only [Act.put, rP1, rP2, rP3]

    refine rTk 2 ?_; try simp only [Act.put, rP1, rP2, rP3]

    refine rTk 3 ?_; try simp only [Act.put, rP1, rP2, rP3]

    refine rTk 4 ?_; try simp only [Act.put, rP1, rP2, rP3]

    refine wpAnyH_ready (rs := [0, 8]) (by kernel_rfl) (by simp) ?_
    refine AllReadyH.cons (List.getElem?_toArray.trans rfl) (fun K hK => ?one) (AllReadyH.cons (List.getElem?_toArray.trans rfl) (fun K hK => ?two) (AllReadyH.nil))
    case' one =>
      go_simp
      go_at_call 29
      refine (C0.out _ ?_).mono ?_
      assumption
      rintro e v1 ⟨rfl, r1, k1⟩
      try (go_wp2_with fail)
      refine hK.out _ _ (by (try dsimp only); assumption) (fun hHeld => ?_)
      clear hK K
      try simp only [Act.put, rP1, rP2, rP3]
      refine rTk 5 ?_; try simp only [Act.put, rP1, rP2, rP3]

      refine rTk 6 ?_; try simp only [Act.put, rP1, rP2, rP3]

      refine wpAnyH_ready (rs := [7, 8]) (by kernel_rfl) (by simp) ?_
      refine AllReadyH.cons (List.getElem?_toArray.trans rfl) (fun K hK => ?onea) (AllReadyH.cons (List.getElem?_toArray.trans rfl) (fun K hK => ?oneb) (AllReadyH.nil))
      case' onea =>
        go_simp
        have W1 : Hid (Wg v1 (fun k => w.heap.size ≤ k) w.heap.size [] ∧ (∀ k, v1.heap.size ≤ k → w.heap.size ≤ k) ∧ ∀ k, w.heap.size ≤ k → w.heap.size ≤ k) := Lib.hid ⟨r1.out.1, fun k hk => Nat.le_trans (Nat.le_of_lt r1.out.1.lt) hk, fun k hk => hk⟩
        go_at_call 32
        refine (C1.out _ _ _ ?_ W1).mono ?_
        assumption
        rintro e v2 ⟨rfl, r2, k2⟩
        try (go_wp2_with fail)
        refine hK.out _ _ (by (try dsimp only); assumption) (fun hHeld => ?_)
        clear hK K
        try simp only [Act.put, rP1, rP2, rP3]
        refine rBr 8 fun K hK => ?onea1
        case' onea1 =>
          go_simp
          have k3 := A0.out _ (.cells #[.pointer none] 99) k2
          have k4 := A0.out _ (.cells #[.pointer (some ⟨w.heap.size, 0, none⟩)] 99) k2
          refine hK.out _ _ (by (try dsimp only); assumption) (fun hHeld => ?_)
          clear hK K
          try simp only [Act.put, rP1, rP2, rP3]
          refine rBr 9 fun K hK => ?onea2
          case' onea2 =>
            go_simp
            try (go_wp2_with fail)
            refine hK.out _ _ (by (try dsimp only); assumption) (fun hHeld => ?_)
            clear hK K
            try simp only [Act.put, rP1, rP2, rP3]
            refine wpAnyH_done (by kernel_rfl) ?_ _
            refine NoPanic.normal ?_
            have HF : Hid (w.heap.size ≤ w.heap.size ∧ w.heap.size ≤ v2.heap.size ∧ v2.heap.size < (v2.alloc (.cells #[.pointer (some ⟨w.heap.size, 0, none⟩)] 99)).heap.size ∧ Below w.heap.size w (v2.alloc (.cells #[.pointer (some ⟨w.heap.size, 0, none⟩)] 99)) ∧ (v2.alloc (.cells #[.pointer (some ⟨w.heap.size, 0, none⟩)] 99)).cell? ⟨v2.heap.size, 0, none⟩ = some (.pointer (some ⟨w.heap.size, 0, none⟩)) ∧ Wg (v2.alloc (.cells #[.pointer (some ⟨w.heap.size, 0, none⟩)] 99)) (fun k => w.heap.size ≤ k ∧ k ≠ v2.heap.size) w.heap.size LA) := Lib.hid (by
              have hb := k4.1.out
              have f2 := r2.out.2
              refine ⟨Nat.le_refl _, by have := k2.1.out.size; omega, by simp, hb, ?_, ?_⟩
              · exact (cells1 (heap_alloc_new v2 (.cells #[.pointer (some ⟨w.heap.size, 0, none⟩)] 99))).1
              · exact (r2.out.1.turn (fun k hk => Nat.le_trans Hgl.out hk.1) (fun k hk hg => ⟨hg, by omega⟩)).below ((Below.refl _ _).alloc (Nat.le_refl _) _))
            go_wp2_with fail
            go_meet
            exact ⟨w.heap.size, v2.heap.size, rfl, HF⟩
      case' oneb =>
        go_simp
        have k3 := A0.out _ (.cells #[.pointer none] 99) k1
        refine hK.out _ _ (by (try dsimp only); assumption) (fun hHeld => ?_)
        clear hK K
        try simp only [Act.put, rP1, rP2, rP3]
        refine rBr 7 fun K hK => ?oneb1
        case' oneb1 =>
          go_simp
          have W1 : Hid (Wg (v1.alloc (.cells #[.pointer none] 99)) (fun k => w.heap.size ≤ k ∧ k ≠ v1.heap.size) w.heap.size [] ∧ (∀ k, (v1.alloc (.cells #[.pointer none] 99)).heap.size ≤ k → w.heap.size ≤ k ∧ k ≠ v1.heap.size) ∧ ∀ k, (w.heap.size ≤ k ∧ k ≠ v1.heap.size) → w.heap.size ≤ k) := Lib.hid ⟨(r1.out.1.turn (fun k hk => Nat.le_trans Hgl.out hk.1) (fun k hk hg => ⟨hg, by omega⟩)).below ((Below.refl _ _).alloc (Nat.le_refl _) _), fun k hk => by simp at hk; have := k1.1.out.size; omega, fun k hk => hk.1⟩
          go_at_call 32
          refine (C1.out _ _ _ ?_ W1).mono ?_
          assumption
          rintro e v2 ⟨rfl, r2, k2⟩
          try (go_wp2_with fail)
          have cB := r2.out.2.heap (heap_alloc_new v1 (.cells #[.pointer none] 99)) (fun e => e.2 rfl)
          obtain ⟨q0, q1⟩ := cells1 cB
          refine hK.out _ _ (by (try dsimp only); assumption) (fun hHeld => ?_)
          clear hK K
          try simp only [Act.put, rP1, rP2, rP3]
          refine rBr 9 fun K hK => ?oneb2
          case' oneb2 =>
            go_simp
            have k5 := SC.out v2 v1.heap.size (.pointer (some ⟨w.heap.size, 0, none⟩)) k2 k1.1.out.size
            try (go_wp2_with fail)
            refine hK.out _ _ (by (try dsimp only); assumption) (fun hHeld => ?_)
            clear hK K
            try simp only [Act.put, rP1, rP2, rP3]
            refine wpAnyH_done (by kernel_rfl) ?_ _
            refine NoPanic.normal ?_
            have HF : Hid (w.heap.size ≤ w.heap.size ∧ w.heap.size ≤ v1.heap.size ∧ v1.heap.size < (v2.setCell ⟨v1.heap.size, 0, none⟩ (.pointer (some ⟨w.heap.size, 0, none⟩))).heap.size ∧ Below w.heap.size w (v2.setCell ⟨v1.heap.size, 0, none⟩ (.pointer (some ⟨w.heap.size, 0, none⟩))) ∧ (v2.setCell ⟨v1.heap.size, 0, none⟩ (.pointer (some ⟨w.heap.size, 0, none⟩))).cell? ⟨v1.heap.size, 0, none⟩ = some (.pointer (some ⟨w.heap.size, 0, none⟩)) ∧ Wg (v2.setCell ⟨v1.heap.size, 0, none⟩ (.pointer (some ⟨w.heap.size, 0, none⟩))) (fun k => w.heap.size ≤ k ∧ k ≠ v1.heap.size) w.heap.size LA) := Lib.hid (by
              have hs := r2.out.2.size
              simp at hs
              refine ⟨Nat.le_refl _, k1.1.out.size, by rw [World.size_setCell]; omega, k5.1.out, ?_, ?_⟩
              · exact (cells1 (stored1c cB _)).1
              · exact r2.out.1.off (by simp) _)
            go_wp2_with fail
            go_meet
            exact ⟨w.heap.size, v1.heap.size, rfl, HF⟩
    case' two =>
      go_simp

      refine hK.out _ _ (by (try dsimp only); assumption) (fun hHeld => ?_)
      clear hK K
      try simp only [Act.put, rP1, rP2, rP3]
      refine rBr 0 fun K hK => ?twoa
      case' twoa =>
        go_simp
        go_at_call 29
        refine (C0.out _ ?_).mono ?_
        assumption
        rintro e v1 ⟨rfl, r1, k1⟩
        try (go_wp2_with fail)
        refine hK.out _ _ (by (try dsimp only); assumption) (fun hHeld => ?_)
        clear hK K
        try simp only [Act.put, rP1, rP2, rP3]
        refine rTk 5 ?_; try simp only [Act.put, rP1, rP2, rP3]

        refine rTk 6 ?_; try simp only [Act.put, rP1, rP2, rP3]

        refine rBr 7 fun K hK => ?twob
        case' twob =>
          go_simp
          have e0 : (w.alloc (.cells #[.pointer none] 99)).drew.heap.size = w.heap.size + 1 := by simp [World.drew]
          have c1 := (r1.out.2.block w.heap.size (by omega)).trans (show (w.alloc (.cells #[.pointer none] 99)).drew.heap[w.heap.size]? = _ from heap_alloc_new w (.cells #[.pointer none] 99))
          have r3 := r1.out.1
          rw [e0] at r3
          have W1 : Hid (Wg v1 (fun k => w.heap.size ≤ k ∧ k ≠ w.heap.size) (w.heap.size + 1) [] ∧ (∀ k, v1.heap.size ≤ k → w.heap.size ≤ k ∧ k ≠ w.heap.size) ∧ ∀ k, (w.heap.size ≤ k ∧ k ≠ w.heap.size) → w.heap.size ≤ k) := Lib.hid ⟨r3.turn (fun k hk => Nat.le_trans Hgl.out hk.1) (fun k hk hg => by omega), fun k hk => by have := r3.lt; omega, fun k hk => hk.1⟩
          go_at_call 32
          refine (C1.out _ _ _ ?_ W1).mono ?_
          assumption
          rintro e v2 ⟨rfl, r2, k2⟩
          try (go_wp2_with fail)
          have cB := r2.out.2.heap c1 (fun e => e.2 rfl)
          obtain ⟨q0, q1⟩ := cells1 cB
          refine hK.out _ _ (by (try dsimp only); assumption) (fun hHeld => ?_)
          clear hK K
          try simp only [Act.put, rP1, rP2, rP3]
          refine rBr 9 fun K hK => ?twoc
          case' twoc =>
            go_simp
            have k5 := SC.out v2 w.heap.size (.pointer (some ⟨w.heap.size + 1, 0, none⟩)) k2 (Nat.le_refl _)
            try (go_wp2_with fail)
            refine hK.out _ _ (by (try dsimp only); assumption) (fun hHeld => ?_)
            clear hK K
            try simp only [Act.put, rP1, rP2, rP3]
            refine wpAnyH_done (by kernel_rfl) ?_ _
            refine NoPanic.normal ?_
            have HF : Hid (w.heap.size ≤ (w.heap.size + 1) ∧ w.heap.size ≤ w.heap.size ∧ w.heap.size < (v2.setCell ⟨w.heap.size, 0, none⟩ (.pointer (some ⟨w.heap.size + 1, 0, none⟩))).heap.size ∧ Below w.heap.size w (v2.setCell ⟨w.heap.size, 0, none⟩ (.pointer (some ⟨w.heap.size + 1, 0, none⟩))) ∧ (v2.setCell ⟨w.heap.size, 0, none⟩ (.pointer (some ⟨w.heap.size + 1, 0, none⟩))).cell? ⟨w.heap.size, 0, none⟩ = some (.pointer (some ⟨(w.heap.size + 1), 0, none⟩)) ∧ Wg (v2.setCell ⟨w.heap.size, 0, none⟩ (.pointer (some ⟨w.heap.size + 1, 0, none⟩))) (fun k => w.heap.size ≤ k ∧ k ≠ w.heap.size) (w.heap.size + 1) LA) := Lib.hid (by
              have hs := r2.out.1.lt
              refine ⟨Nat.le_succ _, Nat.le_refl _, by rw [World.size_setCell]; omega, k5.1.out, ?_, ?_⟩
              · exact (cells1 (stored1c cB _)).1
              · exact r2.out.1.off (by simp) _)
            go_wp2_with fail
            go_meet
            exact ⟨w.heap.size + 1, w.heap.size, rfl, HF⟩
  case rest =>
    obtain ⟨M, WB, rfl, HF⟩ := hcut
    have hF := HF.out
    obtain ⟨hMw, hWw, hWl, hbw, hcW, hWg⟩ := hF
    have Twc := HT.out.below hbw
    have hTl := Hlt.out
    have HNd := Lib.hid (nodes_any T bn bu n m N U wc Twc HR.out)
    clear SS C0 C1 A0 SC SW1
    go_wp2_with fail
    refine HNd.out.mono ?_
    rintro e V4 ⟨v, rfl, hO, b4⟩
    obtain ⟨a, c, rfl, hat⟩ := hO.at2
    rw [List.length_map]
    obtain ⟨G0, hG0⟩ : ∃ G : Nat → Prop, G = fun k => (w.heap.size ≤ k ∧ k ≠ WB ∧ k < wc.heap.size) ∨ V4.heap.size ≤ k := ⟨_, rfl⟩
    have hs34 := b4.size
    have g1 : ∀ k, G0 k → w.heap.size ≤ k ∧ k ≠ WB := fun k hk => by rw [hG0] at hk; rcases hk with hk | hk <;> omega
    have g2 : ∀ k, V4.heap.size ≤ k → G0 k := fun k hk => by rw [hG0]; exact .inr hk
    have gg : ∀ k, G0 k → glob ≤ k := fun k hk => Nat.le_trans Hgl.out (g1 k hk).1
    have W4 : Wg V4 G0 M LA := (hWg.turn gg (fun k hk hg => by rw [hG0]; exact .inl ⟨hg.1, hg.2, hk⟩)).below b4
    have hb4 : Below w.heap.size w V4 := hbw.trans (b4.mono hbw.size)
    have gen : Hid (∀ V, Fr G0 V4 V → Below w.heap.size w V ∧ TreeQ V T bn bu n m N U ∧ V.cell? ⟨WB, 0, none⟩ = some (.pointer (some ⟨M, 0, none⟩)) ∧ Env V) := Lib.hid (fun V f => by
      have hb : Below w.heap.size w V := hb4.trans ⟨f.os, f.tape, f.output, f.size, fun q hq => f.block q (Nat.lt_of_lt_of_le hq hb4.size) (fun e => by have := (g1 q e).1; omega)⟩
      exact ⟨hb, HT.out.below hb, (World.cell?_of_block (a := ⟨WB, 0, none⟩) (f.block WB (by show WB < V4.heap.size; omega) (fun e => (g1 _ e).2 rfl))).trans ((World.cell?_of_block (a := ⟨WB, 0, none⟩) (b4.block WB hWl)).trans hcW), HE0.out.wr hb Hgl.out⟩)
    have HA : Hid (∀ (V : World) j s, Fr G0 V4 V → (N.map QT.Nd.nm)[j]? = some s → ∃ g, a = some ⟨g, 0, none⟩ ∧ V.cell? ⟨g, j, none⟩ = some (.string (str s))) := Lib.hid (fun V j s f hs => by
      obtain ⟨g, e, hg, hc⟩ := hat j s hs
      have hlt := World.block_lt_of_cell? _ _ hc
      exact ⟨g, e, (World.cell?_of_block (a := ⟨g, j, none⟩) (f.block g hlt (fun e => by rw [hG0] at e; simp only at hlt; omega))).trans hc⟩)
    have HG1 := Lib.hid g1
    have HG2 := Lib.hid g2
    have HGg := Lib.hid gg
    have HW4 := Lib.hid W4
    clear hG0 g1 g2 gg W4 hb4 hs34 b4 hat hO HNd Twc hMw hWw hWl hbw hcW hWg HF hTl
    go_wp2_with fail
    go_loopw [24] (fun v24 V => ∃ j : Nat, j ≤ N.length ∧ v24 = .int .i64 j ∧ Hid (Wg V G0 M (LA ++ QT.encL QT.encNd (N.take j))) ∧ Hid (Fr G0 V4 V)) (fun v _ => N.length - (intOf v).toNat)
    case atStart => exact ⟨0, Nat.zero_le _, rfl, Lib.hid (by simpa [QT.encL] using HW4.out), Lib.hid (Fr.refl _ _)⟩
    case round =>
      obtain ⟨j, hj, rfl, X1, F1⟩ := hrel
      by_cases hlt : j < N.length
      · have h1 : (j : Int) < (N.length : Int) := by omega
        obtain ⟨x, hx⟩ : ∃ x, N[j]? = some x := ⟨_, List.getElem?_eq_getElem hlt⟩
        have hxm := List.mem_of_getElem? hx
        obtain ⟨g, ea, hc⟩ := HA.out wr j x.nm F1.out (by rw [List.getElem?_map, hx]; rfl)
        subst ea
        obtain ⟨hbw, hTw, hcW, hEw⟩ := gen.out wr F1.out
        obtain ⟨t0, _⟩ := cells2 hTw.tb
        have hlk := hTw.mN.at0 x.nm (by have := (HR.out.fN x hxm).1.1; omega)
        rw [show QT.at0 N x.nm = x from by unfold QT.at0; rw [HR.out.good.fnd hxm]; rfl, vNd] at hlk
        obtain ⟨⟨f1, f2⟩, f3, f4, f5, f6, f7, f8⟩ := HR.out.fN x hxm
        simp only [QT.cap] at f3 f4 f5 f6 f7 f8
        have hnx := QT.encL_take QT.encNd hx
        have hle := QT.encL_take_le QT.encNd N j
        have hr := HRm.out
        obtain ⟨Lk, hLk⟩ : ∃ l, l = LA ++ QT.encL QT.encNd (N.take j) := ⟨_, rfl⟩
        rw [← hLk] at X1
        have hkb : Lk.length + 2000 ≤ roomB := by rw [hLk, List.length_append]; omega
        obtain ⟨L1, hL1⟩ : ∃ l, l = Lk ++ QT.xB x.nm := ⟨_, rfl⟩
        obtain ⟨L2, hL2⟩ : ∃ l, l = L1 ++ QT.xB x.pr := ⟨_, rfl⟩
        obtain ⟨L3, hL3⟩ : ∃ l, l = L2 ++ PK.uB x.o1 ++ PK.uB x.o2 := ⟨_, rfl⟩
        obtain ⟨L4, hL4⟩ : ∃ l, l = L3 ++ PK.uB x.b1 ++ PK.uB x.b2 := ⟨_, rfl⟩
        obtain ⟨L5, hL5⟩ : ∃ l, l = L4 ++ PK.uB x.l1 ++ PK.uB x.l2 := ⟨_, rfl⟩
        have e1 : L1.length ≤ Lk.length + 54 := by rw [hL1, List.length_append]; have := QT.xB_len x.nm f1; omega
        have e2 : L2.length ≤ Lk.length + 108 := by rw [hL2, List.length_append]; have := QT.xB_len x.pr f2; omega
        have e3 : L3.length ≤ Lk.length + 152 := by rw [hL3, List.length_append, List.length_append]; have := PK.uB_len x.o1 (by omega); have := PK.uB_len x.o2 (by omega); omega
        have e4 : L4.length ≤ Lk.length + 196 := by rw [hL4, List.length_append, List.length_append]; have := PK.uB_len x.b1 (by omega); have := PK.uB_len x.b2 (by omega); omega
        have hnext : LA ++ QT.encL QT.encNd (N.take (j + 1)) = L5 := by
          rw [hnx, hL5, hL4, hL3, hL2, hL1, hLk, QT.encNd]
          simp only [List.append_assoc]
        have Hnext := Lib.hid hnext
        obtain ⟨V1, hV1⟩ : ∃ V, V = wr.alloc (.cells #[.string (str x.nm), .string (str x.pr), .complex .f64 (FL.fB x.o1) (FL.fB x.o2), .complex .f64 (FL.fB x.b1) (FL.fB x.b2), .complex .f64 (FL.fB x.l1) (FL.fB x.l2)] 50) := ⟨_, rfl⟩
        have bV1 : Below wr.heap.size wr V1 := by rw [hV1]; exact (Below.refl _ _).alloc (Nat.le_refl _) _
        have sV1 : V1.heap.size = wr.heap.size + 1 := by rw [hV1]; simp
        have gN : V1.heap[wr.heap.size]? = some (.cells #[.string (str x.nm), .string (str x.pr), .complex .f64 (FL.fB x.o1) (FL.fB x.o2), .complex .f64 (FL.fB x.b1) (FL.fB x.b2), .complex .f64 (FL.fB x.l1) (FL.fB x.l2)] 50) := by rw [hV1]; exact heap_alloc_new _ _
        obtain ⟨G1, hG1⟩ : ∃ G : Nat → Prop, G = fun k => G0 k ∧ k ≠ wr.heap.size := ⟨_, rfl⟩
        have hG1' : ∀ k, G1 k ↔ G0 k ∧ k ≠ wr.heap.size := fun k => by rw [hG1]
        have X2 : Hid (Wg V1 G1 M Lk) := Lib.hid ((X1.out.turn (fun k hk => HGg.out k ((hG1' k).1 hk).1) (fun k hk hg => (hG1' k).2 ⟨hg, by omega⟩)).below bV1)
        have hN1 : ∀ V, Fr G1 V1 V → ∀ k, V.heap.size ≤ k → G1 k := fun V f k hk => (hG1' k).2 ⟨HG2.out k (by have := F1.out.size; have := f.size; omega), by have := f.size; omega⟩
        have F2 : Fr G0 V4 V1 := by rw [hV1]; exact F1.out.alloc _
        have hf01 : ∀ V, Fr G1 V1 V → Fr G0 V4 V := fun V f => F2.trans (f.mono (fun k _ hk => ((hG1' k).1 hk).1))
        obtain ⟨z0, z1, z2, z3, z4⟩ := cells5 gN
        have nN : ¬ G1 wr.heap.size := fun e => ((hG1' _).1 e).2 rfl
        have cell : ∀ V, Fr G1 V1 V → ∀ i v, V1.cell? ⟨wr.heap.size, i, none⟩ = some v → V.cell? ⟨wr.heap.size, i, none⟩ = some v := fun V f i v h => f.cell h nN
        have cont : Hid (∀ V, Fr G1 V1 V → (Hid (Fr G1 V1 V) ∧ V.cell? ⟨WB, 0, none⟩ = some (.pointer (some ⟨M, 0, none⟩)) ∧ V.cell? ⟨wr.heap.size, 0, none⟩ = some (.string (str x.nm)) ∧ V.cell? ⟨wr.heap.size, 1, none⟩ = some (.string (str x.pr)))) := Lib.hid (fun V f => ⟨Lib.hid f, (gen.out V (hf01 V f)).2.2.1, cell V f 0 _ z0, cell V f 1 _ z1⟩)
        have C1 : Hid (∀ V, (Hid (Fr G1 V1 V) ∧ V.cell? ⟨WB, 0, none⟩ = some (.pointer (some ⟨M, 0, none⟩)) ∧ V.cell? ⟨wr.heap.size, 0, none⟩ = some (.string (str x.nm)) ∧ V.cell? ⟨wr.heap.size, 1, none⟩ = some (.string (str x.pr))) → Hid (Wg V G1 M Lk) → Calls Tryz.prog 75 #[.pointer (some ⟨M, 0, none⟩), .string (str x.nm)] V fun e w' => e = .returned (.pointer (some ⟨M, 0, none⟩)) ∧ Hid (Wg w' G1 M L1) ∧ (Hid (Fr G1 V1 w') ∧ w'.cell? ⟨WB, 0, none⟩ = some (.pointer (some ⟨M, 0, none⟩)) ∧ w'.cell? ⟨wr.heap.size, 0, none⟩ = some (.string (str x.nm)) ∧ w'.cell? ⟨wr.heap.size, 1, none⟩ = some (.string (str x.pr)))) := Lib.hid (fun V h hw => (wtext_g G1 M Lk x.nm V hw.out (hN1 V h.1.out) (by omega) (by omega) (gen.out V (hf01 V h.1.out)).2.2.2).mono fun e w' ⟨q1, q2, q3⟩ => ⟨q1, Lib.hid (by rw [hL1]; exact q2), cont.out w' (h.1.out.trans q3)⟩)
        have C2 : Hid (∀ V, (Hid (Fr G1 V1 V) ∧ V.cell? ⟨WB, 0, none⟩ = some (.pointer (some ⟨M, 0, none⟩)) ∧ V.cell? ⟨wr.heap.size, 0, none⟩ = some (.string (str x.nm)) ∧ V.cell? ⟨wr.heap.size, 1, none⟩ = some (.string (str x.pr))) → Hid (Wg V G1 M L1) → Calls Tryz.prog 75 #[.pointer (some ⟨M, 0, none⟩), .string (str x.pr)] V fun e w' => e = .returned (.pointer (some ⟨M, 0, none⟩)) ∧ Hid (Wg w' G1 M L2) ∧ (Hid (Fr G1 V1 w') ∧ w'.cell? ⟨WB, 0, none⟩ = some (.pointer (some ⟨M, 0, none⟩)) ∧ w'.cell? ⟨wr.heap.size, 0, none⟩ = some (.string (str x.nm)) ∧ w'.cell? ⟨wr.heap.size, 1, none⟩ = some (.string (str x.pr)))) := Lib.hid (fun V h hw => (wtext_g G1 M L1 x.pr V hw.out (hN1 V h.1.out) (by omega) (by omega) (gen.out V (hf01 V h.1.out)).2.2.2).mono fun e w' ⟨q1, q2, q3⟩ => ⟨q1, Lib.hid (by rw [hL2]; exact q2), cont.out w' (h.1.out.trans q3)⟩)
        have am : ∀ (V : World) (l : List UInt8) (a b : Nat), a ≤ 1099511627776 → b ≤ 1099511627776 → l.length + 200 ≤ roomB → Fr G1 V1 V → Wg V G1 M l → Calls Tryz.prog 74 #[.complex .f64 (FL.fB a) (FL.fB b), .pointer (some ⟨WB, 0, none⟩)] V fun e w' => e = .returned (.tuple #[]) ∧ Wg w' G1 M (l ++ PK.uB a ++ PK.uB b) ∧ Fr G1 V1 w' := fun V l a b ha hb hl f hw => (amount_g G1 M WB l a b V hw (hN1 V f) (gen.out V (hf01 V f)).2.2.1 ha hb hl (gen.out V (hf01 V f)).2.2.2).mono fun e w' ⟨q1, q2, q3⟩ => ⟨q1, q2, f.trans q3⟩
        have C3 : Hid (∀ V, Fr G1 V1 V → Wg V G1 M L2 → Calls Tryz.prog 74 #[.complex .f64 (FL.fB x.o1) (FL.fB x.o2), .pointer (some ⟨WB, 0, none⟩)] V fun e w' => e = .returned (.tuple #[]) ∧ Wg w' G1 M L3 ∧ Fr G1 V1 w') := Lib.hid (fun V f hw => by rw [hL3]; exact am V L2 x.o1 x.o2 f3 f4 (by omega) f hw)
        have C4 : Hid (∀ V, Fr G1 V1 V → Wg V G1 M L3 → Calls Tryz.prog 74 #[.complex .f64 (FL.fB x.b1) (FL.fB x.b2), .pointer (some ⟨WB, 0, none⟩)] V fun e w' => e = .returned (.tuple #[]) ∧ Wg w' G1 M L4 ∧ Fr G1 V1 w') := Lib.hid (fun V f hw => by rw [hL4]; exact am V L3 x.b1 x.b2 f5 f6 (by omega) f hw)
        have C5 : Hid (∀ V, Fr G1 V1 V → Wg V G1 M L4 → Calls Tryz.prog 74 #[.complex .f64 (FL.fB x.l1) (FL.fB x.l2), .pointer (some ⟨WB, 0, none⟩)] V fun e w' => e = .returned (.tuple #[]) ∧ Wg w' G1 M L5 ∧ Fr G1 V1 w') := Lib.hid (fun V f hw => by rw [hL5]; exact am V L4 x.l1 x.l2 f7 f8 (by omega) f hw)
        have HC : Hid (∀ V, Fr G1 V1 V → V.cell? ⟨wr.heap.size, 2, none⟩ = some (.complex .f64 (FL.fB x.o1) (FL.fB x.o2)) ∧ V.cell? ⟨wr.heap.size, 3, none⟩ = some (.complex .f64 (FL.fB x.b1) (FL.fB x.b2)) ∧ V.cell? ⟨wr.heap.size, 4, none⟩ = some (.complex .f64 (FL.fB x.l1) (FL.fB x.l2))) := Lib.hid (fun V f => ⟨cell V f 2 _ z2, cell V f 3 _ z3, cell V f 4 _ z4⟩)
        have fin : Hid (∀ V, Fr G1 V1 V → Wg V G1 M L5 → Hid (Wg V G0 M (LA ++ QT.encL QT.encNd (N.take (j + 1)))) ∧ Hid (Fr G0 V4 V)) := Lib.hid (fun V f hw => ⟨Lib.hid (by rw [Hnext.out]; exact hw.turn HGg.out (fun k _ hg => ((hG1' k).1 hg).1)), Lib.hid (hf01 V f)⟩)
        have S0 := cont.out V1.drew (Fr.refl _ _).drew
        have X3 : Hid (Wg V1.drew G1 M Lk) := Lib.hid (X2.out.below (Below.refl _ _).drew)
        clear hx hxm hTw hEw f1 f2 f3 f4 f5 f6 f7 f8 hnx hle hr hLk hkb hL1 hL2 hL3 hL4 hL5 e1 e2 e3 e4 hnext bV1 sV1 gN hG1 hG1' X1 X2 hN1 F2 hf01 z0 z1 z2 z3 z4 nN cell cont am hbw
        go_wp2_with fail
        rw [← hV1]
        clear hV1 t0 hlk hc hcW
        refine wp_region_noPanic ?_
        refine wp_region_held_drew (S := fun V => (Hid (Fr G1 V1 V) ∧ V.cell? ⟨WB, 0, none⟩ = some (.pointer (some ⟨M, 0, none⟩)) ∧ V.cell? ⟨wr.heap.size, 0, none⟩ = some (.string (str x.nm)) ∧ V.cell? ⟨wr.heap.size, 1, none⟩ = some (.string (str x.pr)))) (by kernel_rfl) S0 (fun hHeld => ?_)
        refine rTk 0 ?_; try simp only [Act.put, rP1, rP2, rP3]
        refine rTk 1 ?_; try simp only [Act.put, rP1, rP2, rP3]
        refine rTk 2 ?_; try simp only [Act.put, rP1, rP2, rP3]
        refine rTk 4 ?_; try simp only [Act.put, rP1, rP2, rP3]
        refine rTk 5 ?_; try simp only [Act.put, rP1, rP2, rP3]
        refine rBr 3 fun K hK => ?_
        go_simp
        go_at_call 75
        refine (C1.out _ ?_ X3).mono ?_
        assumption
        rintro e v1 ⟨rfl, r1, k1⟩
        clear C1 X3
        try (go_wp2_with fail)
        refine hK.out _ _ (by (try dsimp only); assumption) (fun hHeld => ?_)
        clear hK K
        try simp only [Act.put, rP1, rP2, rP3]
        refine rBr 6 fun K hK => ?_
        go_simp
        go_at_call 75
        refine (C2.out _ ?_ r1).mono ?_
        assumption
        rintro e v2 ⟨rfl, r2, k2⟩
        clear C2 r1
        try (go_wp2_with fail)
        refine hK.out _ _ (by (try dsimp only); assumption) (fun hHeld => ?_)
        clear hK K
        try simp only [Act.put, rP1, rP2, rP3]
        refine wpAnyH_done (by kernel_rfl) ?_ _
        refine NoPanic.normal ?_
        have K2 := k2.1
        obtain ⟨c2, c3, c4⟩ := HC.out v2 K2.out
        have H3 := Lib.hid (C3.out v2 K2.out r2.out)
        obtain ⟨_, w2c, _⟩ := k2
        clear S0 k1 hHeld C3 c3 c4
        go_wp2_with fail
        refine H3.out.mono ?_
        rintro e v3 ⟨rfl, r3, k3⟩
        have K3 := Lib.hid k3
        obtain ⟨_, c3, _⟩ := HC.out v3 k3
        have H4 := Lib.hid (C4.out v3 k3 r3)
        clear k3 r3 H3 c2 C4 r2 K2
        go_wp2_with fail
        refine H4.out.mono ?_
        rintro e v4 ⟨rfl, r4, k4⟩
        obtain ⟨_, _, c4⟩ := HC.out v4 k4
        have H5 := Lib.hid (C5.out v4 k4 r4)
        clear k4 r4 H4 c3 C5 K3
        go_wp2_with fail
        refine H5.out.mono ?_
        rintro e v5 ⟨rfl, r5, k5⟩
        have FF := Lib.hid (fin.out v5 k5 r5)
        clear k5 r5 H5 c4 fin HC
        go_wp2
        exact ⟨⟨j + 1, hlt, by simp, FF.out.1, FF.out.2⟩, by simp [intOf]; omega⟩
      · obtain rfl : j = N.length := by omega
        have X7 : Hid (Wg wr G0 M LB) := Lib.hid (by have := X1.out; rw [List.take_length, ← HLB.out] at this; exact this)
        have hr := HRm.out
        have hlb : LB.length = LA.length + (QT.encL QT.encNd N).length := by rw [HLB.out, List.length_append]
        have cont : Hid (∀ V, Fr G0 V4 V → (Hid (Fr G0 V4 V) ∧ V.cell? ⟨WB, 0, none⟩ = some (.pointer (some ⟨M, 0, none⟩)) ∧ V.cell? ⟨T, 1, none⟩ = some (.map (some bu)) ∧ (∀ ty, (Builtin.len_ #[119] ty #[.map (some bu)]).run Tryz.prog V = .ok (.int .i64 (U.length : Nat)) V))) := Lib.hid (fun V f => by
          obtain ⟨_, hT1, hcc, _⟩ := gen.out V f
          obtain ⟨_, t1, _⟩ := cells2 hT1.tb
          exact ⟨Lib.hid f, hcc, t1, fun ty => hT1.mU.len Tryz.underlying119 ty⟩)
        have C1 : Hid (∀ V, (Hid (Fr G0 V4 V) ∧ V.cell? ⟨WB, 0, none⟩ = some (.pointer (some ⟨M, 0, none⟩)) ∧ V.cell? ⟨T, 1, none⟩ = some (.map (some bu)) ∧ (∀ ty, (Builtin.len_ #[119] ty #[.map (some bu)]).run Tryz.prog V = .ok (.int .i64 (U.length : Nat)) V)) → Hid (Wg V G0 M LB) → Calls Tryz.prog 32 #[.pointer (some ⟨M, 0, none⟩), .int .u64 U.length] V fun e w' => e = .returned (.pointer (some ⟨M, 0, none⟩)) ∧ Hid (Wg w' G0 M LC) ∧ (Hid (Fr G0 V4 w') ∧ w'.cell? ⟨WB, 0, none⟩ = some (.pointer (some ⟨M, 0, none⟩)) ∧ w'.cell? ⟨T, 1, none⟩ = some (.map (some bu)) ∧ (∀ ty, (Builtin.len_ #[119] ty #[.map (some bu)]).run Tryz.prog w' = .ok (.int .i64 (U.length : Nat)) w'))) := Lib.hid (fun V h hw => (wuint_g G0 M LB U.length V hw.out (fun k hk => HG2.out k (Nat.le_trans h.1.out.size hk)) (by omega) (by omega) (gen.out V h.1.out).2.2.2).mono fun e w' ⟨q1, q2, q3⟩ => ⟨q1, Lib.hid (by rw [HLC.out]; exact q2), cont.out w' (h.1.out.trans q3)⟩)
        have S0 := cont.out wr.drew F1.out.drew
        have X8 : Hid (Wg wr.drew G0 M LB) := Lib.hid (X7.out.below (Below.refl _ _).drew)
        clear cont X7 X1 hr hlb hlt
        go_wp2_with fail
        refine wp_region_noPanic ?_
        refine wp_region_held_drew (S := fun V => (Hid (Fr G0 V4 V) ∧ V.cell? ⟨WB, 0, none⟩ = some (.pointer (some ⟨M, 0, none⟩)) ∧ V.cell? ⟨T, 1, none⟩ = some (.map (some bu)) ∧ (∀ ty, (Builtin.len_ #[119] ty #[.map (some bu)]).run Tryz.prog V = .ok (.int .i64 (U.length : Nat)) V))) (by kernel_rfl) S0 (fun hHeld => ?_)
        refine rTk 0 ?_; try simp only [Act.put, rP1, rP2, rP3]
        refine rTk 1 ?_; try simp only [Act.put, rP1, rP2, rP3]
        refine rTk 2 ?_; try simp only [Act.put, rP1, rP2, rP3]
        refine rTk 3 ?_; try simp only [Act.put, rP1, rP2, rP3]
        refine rTk 4 ?_; try simp only [Act.put, rP1, rP2, rP3]
        refine rTk 5 ?_; try simp only [Act.put, rP1, rP2, rP3]
        refine rTk 6 ?_; try simp only [Act.put, rP1, rP2, rP3]
        refine rBr 7 fun K hK => ?_
        go_simp
        go_at_call 32
        refine (C1.out _ ?_ X8).mono ?_
        assumption
        rintro e v6 ⟨rfl, r6, k6⟩
        clear C1 X8
        try (go_wp2_with fail)
        refine hK.out _ _ (by (try dsimp only); assumption) (fun hHeld => ?_)
        clear hK K
        try simp only [Act.put, rP1, rP2, rP3]
        refine wpAnyH_done (by kernel_rfl) ?_ _
        refine NoPanic.normal ?_
        have F6 := k6.1
        have HUs := Lib.hid (uses_any T bn bu n m N U v6 (gen.out v6 F6.out).2.1 HR.out)
        clear S0 hHeld k6
        go_wp2_with fail
        refine HUs.out.mono ?_
        rintro e V7 ⟨au, cu, rfl, oU, uB, b7⟩
        obtain ⟨G2, hG2⟩ : ∃ G : Nat → Prop, G = fun k => (G0 k ∧ k < v6.heap.size) ∨ V7.heap.size ≤ k := ⟨_, rfl⟩
        have hG2' : ∀ k, G2 k ↔ (G0 k ∧ k < v6.heap.size) ∨ V7.heap.size ≤ k := fun k => by rw [hG2]
        obtain ⟨hb6, _, hc6, _⟩ := gen.out v6 F6.out
        have hWl6 := World.block_lt_of_cell? _ _ hc6
        simp only at hWl6
        have hb7 : Below w.heap.size w V7 := hb6.trans (b7.mono hb6.size)
        have hs7 := b7.size
        have g1 : ∀ k, G2 k → w.heap.size ≤ k ∧ k ≠ WB := fun k hk => by
          rcases (hG2' k).1 hk with hk | hk
          · exact HG1.out k hk.1
          · have := hb7.size; omega
        have gg : ∀ k, G2 k → glob ≤ k := fun k hk => Nat.le_trans Hgl.out (g1 k hk).1
        have W7 : Hid (Wg V7 G2 M LC) := Lib.hid ((r6.out.turn gg (fun k hk hg => (hG2' k).2 (.inl ⟨hg, hk⟩))).below b7)
        have hc7 := (World.cell?_of_block (a := ⟨WB, 0, none⟩) (b7.block WB hWl6)).trans hc6
        have oL := oU.lt
        have gen2 : Hid (∀ V, Fr G2 V7 V → Below w.heap.size w V ∧ V.cell? ⟨WB, 0, none⟩ = some (.pointer (some ⟨M, 0, none⟩)) ∧ Env V ∧ RdsUs V (.slice au U.length cu) U) := Lib.hid (fun V f => by
          have hb : Below w.heap.size w V := hb7.trans ⟨f.os, f.tape, f.output, f.size, fun q hq => f.block q (Nat.lt_of_lt_of_le hq hb7.size) (fun e => by have := (g1 q e).1; omega)⟩
          exact ⟨hb, f.cell hc7 (fun e => (g1 _ e).2 rfl), HE0.out.wr hb Hgl.out, (oU.kept f (fun b hb e => by
            have h1 := uB b hb
            have h2 := oL b hb
            rcases (hG2' b).1 e with e | e <;> omega)).rds⟩)
        have HH2 := Lib.hid (fun k (hk : V7.heap.size ≤ k) => (hG2' k).2 (.inr hk))
        have HGg2 := Lib.hid gg
        clear hG2 hG2' hb6 hc6 hWl6 hb7 hs7 g1 gg hc7 oL oU uB b7 HUs F6 r6
        go_wp2_with fail
        go_loopw [65] (fun v65 V => ∃ j : Nat, j ≤ U.length ∧ v65 = .int .i64 j ∧ Hid (Wg V G2 M (LC ++ QT.encL QT.encUs (U.take j))) ∧ Hid (Fr G2 V7 V)) (fun v _ => U.length - (intOf v).toNat)
        case atStart => exact ⟨0, Nat.zero_le _, rfl, Lib.hid (by simpa [QT.encL] using W7.out), Lib.hid (Fr.refl _ _)⟩
        case round =>
          obtain ⟨j, hj, rfl, X1, F1⟩ := hrel
          clear W7
          by_cases hlt : j < U.length
          · have h1 : (j : Int) < (U.length : Int) := by omega
            obtain ⟨x, hx⟩ : ∃ x, U[j]? = some x := ⟨_, List.getElem?_eq_getElem hlt⟩
            have hxm := List.mem_of_getElem? hx
            obtain ⟨hbw, hcW, hEw, hRd⟩ := gen2.out wr F1.out
            obtain ⟨b, o, ea, q0, q1, q2⟩ := hRd.at j x hx
            subst ea
            obtain ⟨⟨f1, f2⟩, f3, f4⟩ := HR.out.fU x hxm
            simp only [QT.cap] at f3 f4
            have hnx := QT.encL_take QT.encUs hx
            have hle := QT.encL_take_le QT.encUs U j
            have hr := HRm.out
            have hlc : LC.length = LA.length + (QT.encL QT.encNd N).length + (PK.uB U.length).length := by rw [HLC.out, HLB.out, List.length_append, List.length_append]
            obtain ⟨Lk, hLk⟩ : ∃ l, l = LC ++ QT.encL QT.encUs (U.take j) := ⟨_, rfl⟩
            rw [← hLk] at X1
            have hkb : Lk.length + 2000 ≤ roomB := by rw [hLk, List.length_append]; omega
            obtain ⟨L1, hL1⟩ : ∃ l, l = Lk ++ QT.xB x.id := ⟨_, rfl⟩
            obtain ⟨L2, hL2⟩ : ∃ l, l = L1 ++ QT.xB x.nd := ⟨_, rfl⟩
            obtain ⟨L3, hL3⟩ : ∃ l, l = L2 ++ PK.uB x.a1 ++ PK.uB x.a2 := ⟨_, rfl⟩
            have e1 : L1.length ≤ Lk.length + 54 := by rw [hL1, List.length_append]; have := QT.xB_len x.id f1; omega
            have e2 : L2.length ≤ Lk.length + 108 := by rw [hL2, List.length_append]; have := QT.xB_len x.nd f2; omega
            have hnext : LC ++ QT.encL QT.encUs (U.take (j + 1)) = L3 := by
              rw [hnx, hL3, hL2, hL1, hLk, QT.encUs]
              simp only [List.append_assoc]
            have Hnext := Lib.hid hnext
            obtain ⟨V1, hV1⟩ : ∃ V, V = wr.alloc (.cells #[.string (str x.id), .string (str x.nd), .complex .f64 (FL.fB x.a1) (FL.fB x.a2)] 52) := ⟨_, rfl⟩
            have bV1 : Below wr.heap.size wr V1 := by rw [hV1]; exact (Below.refl _ _).alloc (Nat.le_refl _) _
            have sV1 : V1.heap.size = wr.heap.size + 1 := by rw [hV1]; simp
            have gN : V1.heap[wr.heap.size]? = some (.cells #[.string (str x.id), .string (str x.nd), .complex .f64 (FL.fB x.a1) (FL.fB x.a2)] 52) := by rw [hV1]; exact heap_alloc_new _ _
            obtain ⟨G1, hG1⟩ : ∃ G : Nat → Prop, G = fun k => G2 k ∧ k ≠ wr.heap.size := ⟨_, rfl⟩
            have hG1' : ∀ k, G1 k ↔ G2 k ∧ k ≠ wr.heap.size := fun k => by rw [hG1]
            have X2 : Hid (Wg V1 G1 M Lk) := Lib.hid ((X1.out.turn (fun k hk => HGg2.out k ((hG1' k).1 hk).1) (fun k hk hg => (hG1' k).2 ⟨hg, by omega⟩)).below bV1)
            have hN1 : ∀ V, Fr G1 V1 V → ∀ k, V.heap.size ≤ k → G1 k := fun V f k hk => (hG1' k).2 ⟨HH2.out k (by have := F1.out.size; have := f.size; omega), by have := f.size; omega⟩
            have F2 : Fr G2 V7 V1 := by rw [hV1]; exact F1.out.alloc _
            have hf01 : ∀ V, Fr G1 V1 V → Fr G2 V7 V := fun V f => F2.trans (f.mono (fun k _ hk => ((hG1' k).1 hk).1))
            obtain ⟨⟨z0, z1, z2⟩, _⟩ := cells3f gN
            have nN : ¬ G1 wr.heap.size := fun e => ((hG1' _).1 e).2 rfl
            have cell : ∀ V, Fr G1 V1 V → ∀ i v, V1.cell? ⟨wr.heap.size, i, none⟩ = some v → V.cell? ⟨wr.heap.size, i, none⟩ = some v := fun V f i v h => f.cell h nN
            have cont : Hid (∀ V, Fr G1 V1 V → (Hid (Fr G1 V1 V) ∧ V.cell? ⟨WB, 0, none⟩ = some (.pointer (some ⟨M, 0, none⟩)) ∧ V.cell? ⟨wr.heap.size, 0, none⟩ = some (.string (str x.id)) ∧ V.cell? ⟨wr.heap.size, 1, none⟩ = some (.string (str x.nd)))) := Lib.hid (fun V f => ⟨Lib.hid f, (gen2.out V (hf01 V f)).2.1, cell V f 0 _ z0, cell V f 1 _ z1⟩)
            have C1 : Hid (∀ V, (Hid (Fr G1 V1 V) ∧ V.cell? ⟨WB, 0, none⟩ = some (.pointer (some ⟨M, 0, none⟩)) ∧ V.cell? ⟨wr.heap.size, 0, none⟩ = some (.string (str x.id)) ∧ V.cell? ⟨wr.heap.size, 1, none⟩ = some (.string (str x.nd))) → Hid (Wg V G1 M Lk) → Calls Tryz.prog 75 #[.pointer (some ⟨M, 0, none⟩), .string (str x.id)] V fun e w' => e = .returned (.pointer (some ⟨M, 0, none⟩)) ∧ Hid (Wg w' G1 M L1) ∧ (Hid (Fr G1 V1 w') ∧ w'.cell? ⟨WB, 0, none⟩ = some (.pointer (some ⟨M, 0, none⟩)) ∧ w'.cell? ⟨wr.heap.size, 0, none⟩ = some (.string (str x.id)) ∧ w'.cell? ⟨wr.heap.size, 1, none⟩ = some (.string (str x.nd)))) := Lib.hid (fun V h hw => (wtext_g G1 M Lk x.id V hw.out (hN1 V h.1.out) (by omega) (by omega) (gen2.out V (hf01 V h.1.out)).2.2.1).mono fun e w' ⟨q1, q2, q3⟩ => ⟨q1, Lib.hid (by rw [hL1]; exact q2), cont.out w' (h.1.out.trans q3)⟩)
            have C2 : Hid (∀ V, (Hid (Fr G1 V1 V) ∧ V.cell? ⟨WB, 0, none⟩ = some (.pointer (some ⟨M, 0, none⟩)) ∧ V.cell? ⟨wr.heap.size, 0, none⟩ = some (.string (str x.id)) ∧ V.cell? ⟨wr.heap.size, 1, none⟩ = some (.string (str x.nd))) → Hid (Wg V G1 M L1) → Calls Tryz.prog 75 #[.pointer (some ⟨M, 0, none⟩), .string (str x.nd)] V fun e w' => e = .returned (.pointer (some ⟨M, 0, none⟩)) ∧ Hid (Wg w' G1 M L2) ∧ (Hid (Fr G1 V1 w') ∧ w'.cell? ⟨WB, 0, none⟩ = some (.pointer (some ⟨M, 0, none⟩)) ∧ w'.cell? ⟨wr.heap.size, 0, none⟩ = some (.string (str x.id)) ∧ w'.cell? ⟨wr.heap.size, 1, none⟩ = some (.string (str x.nd)))) := Lib.hid (fun V h hw => (wtext_g G1 M L1 x.nd V hw.out (hN1 V h.1.out) (by omega) (by omega) (gen2.out V (hf01 V h.1.out)).2.2.1).mono fun e w' ⟨q1, q2, q3⟩ => ⟨q1, Lib.hid (by rw [hL2]; exact q2), cont.out w' (h.1.out.trans q3)⟩)
            have C3 : Hid (∀ V, Fr G1 V1 V → Wg V G1 M L2 → Calls Tryz.prog 74 #[.complex .f64 (FL.fB x.a1) (FL.fB x.a2), .pointer (some ⟨WB, 0, none⟩)] V fun e w' => e = .returned (.tuple #[]) ∧ Wg w' G1 M L3 ∧ Fr G1 V1 w') := Lib.hid (fun V f hw => by
              rw [hL3]
              exact (amount_g G1 M WB L2 x.a1 x.a2 V hw (hN1 V f) (gen2.out V (hf01 V f)).2.1 f3 f4 (by omega) (gen2.out V (hf01 V f)).2.2.1).mono fun e w' ⟨q1, q2, q3⟩ => ⟨q1, q2, f.trans q3⟩)
            have HC : Hid (∀ V, Fr G1 V1 V → V.cell? ⟨wr.heap.size, 2, none⟩ = some (.complex .f64 (FL.fB x.a1) (FL.fB x.a2))) := Lib.hid (fun V f => cell V f 2 _ z2)
            have fin : Hid (∀ V, Fr G1 V1 V → Wg V G1 M L3 → Hid (Wg V G2 M (LC ++ QT.encL QT.encUs (U.take (j + 1)))) ∧ Hid (Fr G2 V7 V)) := Lib.hid (fun V f hw => ⟨Lib.hid (by rw [Hnext.out]; exact hw.turn HGg2.out (fun k _ hg => ((hG1' k).1 hg).1)), Lib.hid (hf01 V f)⟩)
            have S0 := cont.out V1.drew (Fr.refl _ _).drew
            have X3 : Hid (Wg V1.drew G1 M Lk) := Lib.hid (X2.out.below (Below.refl _ _).drew)
            clear hx hxm hRd hEw f1 f2 f3 f4 hnx hle hr hlc hLk hkb hL1 hL2 hL3 e1 e2 hnext bV1 sV1 gN hG1 hG1' X1 X2 hN1 F2 hf01 z0 z1 z2 nN cell cont hbw
            go_wp2_with fail
            rw [← hV1]
            clear hV1 q0 q1 q2 hcW
            refine wp_region_noPanic ?_
            refine wp_region_held_drew (S := fun V => (Hid (Fr G1 V1 V) ∧ V.cell? ⟨WB, 0, none⟩ = some (.pointer (some ⟨M, 0, none⟩)) ∧ V.cell? ⟨wr.heap.size, 0, none⟩ = some (.string (str x.id)) ∧ V.cell? ⟨wr.heap.size, 1, none⟩ = some (.string (str x.nd)))) (by kernel_rfl) S0 (fun hHeld => ?_)
            refine rTk 0 ?_; try simp only [Act.put, rP1, rP2, rP3]
            refine rTk 1 ?_; try simp only [Act.put, rP1, rP2, rP3]
            refine rTk 2 ?_; try simp only [Act.put, rP1, rP2, rP3]
            refine rTk 4 ?_; try simp only [Act.put, rP1, rP2, rP3]
            refine rTk 5 ?_; try simp only [Act.put, rP1, rP2, rP3]
            refine rBr 3 fun K hK => ?_
            go_simp
            go_at_call 75
            refine (C1.out _ ?_ X3).mono ?_
            assumption
            rintro e v1 ⟨rfl, r1, k1⟩
            clear C1 X3
            try (go_wp2_with fail)
            refine hK.out _ _ (by (try dsimp only); assumption) (fun hHeld => ?_)
            clear hK K
            try simp only [Act.put, rP1, rP2, rP3]
            refine rBr 6 fun K hK => ?_
            go_simp
            go_at_call 75
            refine (C2.out _ ?_ r1).mono ?_
            assumption
            rintro e v2 ⟨rfl, r2, k2⟩
            clear C2 r1
            try (go_wp2_with fail)
            refine hK.out _ _ (by (try dsimp only); assumption) (fun hHeld => ?_)
            clear hK K
            try simp only [Act.put, rP1, rP2, rP3]
            refine wpAnyH_done (by kernel_rfl) ?_ _
            refine NoPanic.normal ?_
            have K2 := k2.1
            have c2 := HC.out v2 K2.out
            have H3 := Lib.hid (C3.out v2 K2.out r2.out)
            obtain ⟨_, w2c, _⟩ := k2
            clear S0 k1 hHeld C3
            go_wp2_with fail
            refine H3.out.mono ?_
            rintro e v3 ⟨rfl, r3, k3⟩
            have FF := Lib.hid (fin.out v3 k3 r3)
            clear k3 r3 H3 c2 fin HC r2 K2
            go_wp2
            exact ⟨⟨j + 1, hlt, by simp, FF.out.1, FF.out.2⟩, by simp [intOf]; omega⟩
          · obtain rfl : j = U.length := by omega
            have X7 : Wg wr G2 M (LC ++ QT.encL QT.encUs U) := by have := X1.out; rw [List.take_length] at this; exact this
            have hroom2 : (LC ++ QT.encL QT.encUs U).length ≤ roomB := by
              have := HRm.out
              rw [HLC.out, HLB.out, List.length_append, List.length_append, List.length_append]
              omega
            have HDn := Lib.hid (wdone_g G2 M (LC ++ QT.encL QT.encUs U) wr X7 hroom2)
            obtain ⟨hb8, hc8, _, _⟩ := gen2.out wr F1.out
            have HB8 := Lib.hid hb8
            clear X1 X7 hroom2 hb8 gen gen2
            go_wp2_with fail
            refine HDn.out.mono ?_
            rintro e w9 ⟨⟨a9, c9, rfl, o9, q9⟩, b9⟩
            have O9 := Lib.hid o9
            have B9 := Lib.hid (HB8.out.trans (b9.mono HB8.out.size))
            have Q9 := Lib.hid (fun b hb => Nat.le_trans HB8.out.size (q9 b hb))
            clear o9 b9 q9 HDn hc8
            go_wp2
            go_ret
            exact ⟨⟨a9, c9, by rw [List.length_append]; rfl, O9.out, Q9.out⟩, B9.out⟩
end Go.Proofs.YtkanjdijmdjbaaaGreatDoor
