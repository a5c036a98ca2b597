/-
  The program's Admit, where what is admitted is such, new, of a node that is there, there is room for it and the tree fits with it: it holds with it or it is refused.
  Conditions: the tree's maps hold the lists'.
-/
import Derived.Test.YtflghelhdalhiaaGreatDoorAddQ
namespace Go.Proofs.YtflghelhdalhiaaGreatDoor
open Go Go.RowKit

/-- What Admit does. -/
def AdmQ (w w' : World) (e : Ending) (T bn bu n m : Nat) (N : List QT.Nd) (U U' : List QT.Us) : Prop :=
  (e = .returned (if QT.holdsB N U' = true then .nilIface else .iface 64 (.int .i64 20))) ∧ TreeD w' T bn bu true true n (m + 1) N (if QT.holdsB N U' = true then U' else U) ∧ Fr (fun j => j = bu) w w'
set_option maxRecDepth 100000 in
set_option maxHeartbeats 8000000 in
/-- Admit, of something that fits. -/
theorem admit_any (T bn bu n m : Nat) (N : List QT.Nd) (U U' : List QT.Us) (u : QT.Us) (p : QT.Nd) (w : World) (hT : TreeD w T bn bu true true n m N U) (hx : QT.fineUs u) (hnm : QT.nameP u.id = true) (hfr : QT.fnd QT.Us.id U u.id = none)
    (hp : QT.fnd QT.Nd.nm N u.nd = some p) (hlen : U.length < 1024) (hn : m < 1099511627776) (hf : ∀ s, QT.fnd QT.Us.id U' s = QT.fnd QT.Us.id (U ++ [u]) s) (hl : U'.length = (U ++ [u]).length) (hF : FullQ N U') (hfit : QT.fitsB N U' = true) :
    Calls Tryz.prog 12 #[.pointer (some ⟨T, 0, none⟩), .agg #[.string (str u.id), .string (str u.nd), .complex .f64 (FL.fB u.a1) (FL.fB u.a2)]] w fun e w' => AdmQ w w' e T bn bu n m N U U' := by
  have hstc := @run_store_complex Tryz.prog
  obtain ⟨B, hB⟩ : ∃ B, B = w.heap.size := ⟨_, rfl⟩
  obtain ⟨W0, hW0⟩ : ∃ W, W = w.alloc (.cells #[.string (str u.id), .string (str u.nd), .complex .f64 (FL.fB u.a1) (FL.fB u.a2)] 46) := ⟨_, rfl⟩
  have b0 : Below w.heap.size w W0 := by rw [hW0]; exact (Below.refl _ _).alloc (Nat.le_refl _) _
  have g0 : W0.heap[B]? = some (.cells #[.string (str u.id), .string (str u.nd), .complex .f64 (FL.fB u.a1) (FL.fB u.a2)] 46) := by rw [hW0, hB]; exact heap_alloc_new _ _
  have hBlt : B < W0.heap.size := (Array.getElem?_eq_some_iff.1 g0).1
  have T0 := hT.below b0
  have NC : Hid (Calls Tryz.prog 19 #[.string (str u.id)] W0 fun e w' => e = .returned (.bool true) ∧ W0 = w') := Lib.hid (by
    have := named_any (str u.id) W0 (by rw [str_size]; have := hx.1.1; omega)
    rw [str_list, hnm] at this
    exact this)
  have HM : Hid (Calls Tryz.prog 41 #[.complex .f64 (FL.fB u.a1) (FL.fB u.a2)] W0 fun e w' => e = .returned (.bool true) ∧ W0 = w') := Lib.hid (by
    have h1 := hx.2
    simp only [QT.cap] at h1
    have := mayQ_any u.a1 u.a2 W0 (by omega) (by omega)
    rw [decide_eq_true h1] at this
    exact this)
  obtain ⟨⟨z0, z1, z2⟩, _⟩ := cells3f g0
  have base : Hid (∀ V, Below W0.heap.size W0 V → TreeD V T bn bu true true n m N U ∧ (V.cell? ⟨T, 1, none⟩ = some (.map (some bu)) ∧ V.cell? ⟨B, 0, none⟩ = some (.string (str u.id)) ∧ V.cell? ⟨B, 1, none⟩ = some (.string (str u.nd)) ∧ V.cell? ⟨B, 2, none⟩ = some (.complex .f64 (FL.fB u.a1) (FL.fB u.a2))) ∧ (V.cell? ⟨T, 1, none⟩ = some (.map (some bu)) ∧ V.cell? ⟨B, 0, none⟩ = some (.string (str u.id)) ∧ (Instr.lookup 59 (.map (some bu)) (.string (str u.id)) true).run Tryz.prog V = .ok (.tuple #[.agg #[.string ⟨#[]⟩, .string ⟨#[]⟩, .complex .f64 0 0], .bool false]) V) ∧ Below w.heap.size w V) := Lib.hid (fun V b => by
    have TV := T0.below b
    obtain ⟨⟨y0, y1, y2⟩, _⟩ := cells3f ((b.block B hBlt).trans g0)
    obtain ⟨_, t0, _⟩ := cells2 TV.tb
    have l1 := TV.mU.lookOk Tryz.underlying59 (zeroUs V) ⟨_, zUs_val⟩ u.id (by have := hx.1.1; omega)
    rw [hfr] at l1
    exact ⟨TV, ⟨t0, y0, y1, y2⟩, ⟨t0, y0, l1⟩, b0.trans (b.mono b0.size)⟩)
  have HNd := Lib.hid (fun (V : World) (b : Below W0.heap.size W0 V) => node_any T bn bu n m N U p u.nd V (T0.below b).tree hp (by have := hx.1.2; omega))
  have hBb : ¬ B = bu := by have := hT.mU.lt; omega
  have Hput : Hid (∀ V, TreeD V T bn bu true true n m N U → (V.cell? ⟨T, 1, none⟩ = some (.map (some bu)) ∧ V.cell? ⟨B, 0, none⟩ = some (.string (str u.id)) ∧ V.cell? ⟨B, 1, none⟩ = some (.string (str u.nd)) ∧ V.cell? ⟨B, 2, none⟩ = some (.complex .f64 (FL.fB u.a1) (FL.fB u.a2))) → Below w.heap.size w V → ∃ V', (Instr.mapUpdate 59 (.map (some bu)) (.string (str u.id)) (.agg #[.string (str u.id), .string (str u.nd), .complex .f64 (FL.fB u.a1) (FL.fB u.a2)])).run Tryz.prog V = .ok () V' ∧ TreeD V' T bn bu true true n (m + 1) N (U ++ [u]) ∧ (V'.cell? ⟨T, 1, none⟩ = some (.map (some bu)) ∧ V'.cell? ⟨B, 0, none⟩ = some (.string (str u.id)) ∧ V'.cell? ⟨B, 1, none⟩ = some (.string (str u.nd)) ∧ V'.cell? ⟨B, 2, none⟩ = some (.complex .f64 (FL.fB u.a1) (FL.fB u.a2))) ∧ Fr (fun j => j = bu) w V') := Lib.hid (fun V TV sm b => by
    obtain ⟨V', h1, h2, h3⟩ := TV.mU.put Tryz.underlying59 hn u (by have := hx.1.1; omega) (ok' := true) (fun _ => ⟨rfl, hfr⟩)
    exact ⟨V', h1, TV.putU h3 h2, ⟨h3.cell sm.1 TV.ne.2.2, h3.cell sm.2.1 hBb, h3.cell sm.2.2.1 hBb, h3.cell sm.2.2.2 hBb⟩, (Fr.of_below b).trans h3⟩)
  have Hdel : Hid (∀ V, TreeD V T bn bu true true n (m + 1) N (U ++ [u]) → (V.cell? ⟨T, 1, none⟩ = some (.map (some bu)) ∧ V.cell? ⟨B, 0, none⟩ = some (.string (str u.id)) ∧ V.cell? ⟨B, 1, none⟩ = some (.string (str u.nd)) ∧ V.cell? ⟨B, 2, none⟩ = some (.complex .f64 (FL.fB u.a1) (FL.fB u.a2))) → Fr (fun j => j = bu) w V → ∃ V', (Builtin.delete_ #[59, 9] 0 #[.map (some bu), .string (str u.id)]).run Tryz.prog V = .ok (.tuple #[]) V' ∧ TreeD V' T bn bu true true n (m + 1) N U ∧ (V'.cell? ⟨T, 1, none⟩ = some (.map (some bu)) ∧ V'.cell? ⟨B, 0, none⟩ = some (.string (str u.id)) ∧ V'.cell? ⟨B, 1, none⟩ = some (.string (str u.nd)) ∧ V'.cell? ⟨B, 2, none⟩ = some (.complex .f64 (FL.fB u.a1) (FL.fB u.a2))) ∧ Fr (fun j => j = bu) w V') := Lib.hid (fun V TV sm f => by
    obtain ⟨V', h1, h2, h3⟩ := TV.mU.del hfr Tryz.underlying59 (by have := hx.1.1; omega) 0
    exact ⟨V', h1, TV.putU h3 h2, ⟨h3.cell sm.1 TV.ne.2.2, h3.cell sm.2.1 hBb, h3.cell sm.2.2.1 hBb, h3.cell sm.2.2.2 hBb⟩, f.trans h3⟩)
  have HFi := Lib.hid (fun (V : World) (h : TreeD V T bn bu true true n (m + 1) N (U ++ [u])) => fits_any N U' hF T bn bu n (m + 1) V ⟨h.tb, h.mN, h.mU.same hf hl⟩)
  have HHo := Lib.hid (fun (V : World) (h : TreeD V T bn bu true true n (m + 1) N (U ++ [u])) => holds_any N U' hF hfit T bn bu n (m + 1) V ⟨h.tb, h.mN, h.mU.same hf hl⟩)
  have Hsame := Lib.hid (fun (V : World) (h : TreeD V T bn bu true true n (m + 1) N (U ++ [u])) => show TreeD V T bn bu true true n (m + 1) N U' from ⟨h.tb, h.mN, h.mU.same hf hl, h.ne⟩)
  have h1024 : ¬ (1024 : Int) ≤ (U.length : Int) := by omega
  have hmx : (U.length : Int) ≤ 281474976710656 := by omega
  have Hfit := Lib.hid hfit
  have hlen' := fun (V : World) (h : TreeD V T bn bu true true n m N U) ty => h.mU.len Tryz.underlying59 ty
  have HLen := Lib.hid hlen'
  have HW0 := Lib.hid hW0.symm
  have HB := Lib.hid hB
  have HBl := Lib.hid hBlt
  have Hg0 := Lib.hid g0
  clear hW0 b0 g0 hBlt T0 hnm hfr hp hlen hn hf hl hF hfit hlen' hT hB hBb hx
  go_enter Tryz.func12, Tryz.ntmps12
  go_wp2_with (rw [HW0.out, ← HB.out])
  clear HW0 HB
  go_wp2_with fail
  refine NC.out.mono ?_
  rintro e v ⟨rfl, rfl⟩
  go_wp2_with fail
  refine HM.out.mono ?_
  rintro e v ⟨rfl, rfl⟩
  have b1 := Below.refl W0.heap.size W0
  have S1 := (base.out W0.drew b1.drew).2.2.1
  have bA := (b1.alloc b1.size (.cells #[.string ⟨#[]⟩, .string ⟨#[]⟩, .complex .f64 0 0] 46)).drew
  have SA1 := (base.out _ bA).2.2.1
  obtain ⟨w2, hw2⟩ : ∃ V, V = (W0.alloc (.cells #[.string ⟨#[]⟩, .string ⟨#[]⟩, .complex .f64 0 0] 46)).drew := ⟨_, rfl⟩
  rw [← hw2] at bA
  have HW2 := Lib.hid hw2.symm
  clear hw2 HM NC
  go_wp2_with fail
  refine wp_region_noPanic ?_
  refine wp_region_held_drew (S := fun V => (V.cell? ⟨T, 1, none⟩ = some (.map (some bu)) ∧ V.cell? ⟨B, 0, none⟩ = some (.string (str u.id)) ∧ (Instr.lookup 59 (.map (some bu)) (.string (str u.id)) true).run Tryz.prog V = .ok (.tuple #[.agg #[.string ⟨#[]⟩, .string ⟨#[]⟩, .complex .f64 0 0], .bool false]) V)) (by kernel_rfl) S1 (fun hHeld => ?_)
  refine wpAnyH_take (i := 0) (v := ?hva0) (List.getElem?_toArray.trans rfl) (by kernel_rfl) (by kernel_rfl) (by kernel_rfl) (fun _ _ _ h => h) (Or.inl ⟨by rfl, ?hya0⟩) (by assumption) ?hra0
  case hya0 => (intro wt hSw; (try dsimp only at hSw); go_simp; try (with_reducible rfl))
  try simp only [Act.put, List.setIfInBounds_toArray, List.set_cons_zero, List.set_cons_succ]
  refine wpAnyH_take (i := 1) (v := ?hva1) (List.getElem?_toArray.trans rfl) (by kernel_rfl) (by kernel_rfl) (by kernel_rfl) (fun _ _ _ h => h) (Or.inl ⟨by rfl, ?hya1⟩) (by assumption) ?hra1
  case hya1 => (intro wt hSw; (try dsimp only at hSw); go_simp; try (with_reducible rfl))
  try simp only [Act.put, List.setIfInBounds_toArray, List.set_cons_zero, List.set_cons_succ]
  refine wpAnyH_take (i := 2) (v := ?hva2) (List.getElem?_toArray.trans rfl) (by kernel_rfl) (by kernel_rfl) (by kernel_rfl) (fun _ _ _ h => h) (Or.inl ⟨by rfl, ?hya2⟩) (by assumption) ?hra2
  case hya2 => (intro wt hSw; (try dsimp only at hSw); go_simp; try (with_reducible rfl))
  try simp only [Act.put, List.setIfInBounds_toArray, List.set_cons_zero, List.set_cons_succ]
  refine wpAnyH_take (i := 3) (v := ?hva3) (List.getElem?_toArray.trans rfl) (by kernel_rfl) (by kernel_rfl) (by kernel_rfl) (fun _ _ _ h => h) (Or.inl ⟨by rfl, ?hya3⟩) (by assumption) ?hra3
  case hya3 => (intro wt hSw; (try dsimp only at hSw); go_simp; try (with_reducible rfl))
  try simp only [Act.put, List.setIfInBounds_toArray, List.set_cons_zero, List.set_cons_succ]
  refine wpAnyH_take (i := 4) (v := ?hva4) (List.getElem?_toArray.trans rfl) (by kernel_rfl) (by kernel_rfl) (by kernel_rfl) (fun _ _ _ h => h) (Or.inl ⟨by rfl, ?hya4⟩) (by assumption) ?hra4
  case hya4 => (intro wt hSw; (try dsimp only at hSw); go_simp; try (with_reducible rfl))
  try simp only [Act.put, List.setIfInBounds_toArray, List.set_cons_zero, List.set_cons_succ]
  refine wpAnyH_take (i := 5) (v := ?hva5) (List.getElem?_toArray.trans rfl) (by kernel_rfl) (by kernel_rfl) (by kernel_rfl) (fun _ _ _ h => h) (Or.inl ⟨by rfl, ?hya5⟩) (by assumption) ?hra5
  case hya5 => (intro wt hSw; (try dsimp only at hSw); go_simp; try (with_reducible rfl))
  try simp only [Act.put, List.setIfInBounds_toArray, List.set_cons_zero, List.set_cons_succ]
  refine wpAnyH_take (i := 6) (v := ?hva6) (List.getElem?_toArray.trans rfl) (by kernel_rfl) (by kernel_rfl) (by kernel_rfl) (fun _ _ _ h => h) (Or.inl ⟨by rfl, ?hya6⟩) (by assumption) ?hra6
  case hya6 => (intro wt hSw; (try dsimp only at hSw); go_simp; try (with_reducible rfl))
  try simp only [Act.put, List.setIfInBounds_toArray, List.set_cons_zero, List.set_cons_succ]
  refine wpAnyH_take (i := 7) (v := ?hva7) (List.getElem?_toArray.trans rfl) (by kernel_rfl) (by kernel_rfl) (by kernel_rfl) (fun _ _ _ h => h) (Or.inl ⟨by rfl, ?hya7⟩) (by assumption) ?hra7
  case hya7 => (intro wt hSw; (try dsimp only at hSw); go_simp; try (with_reducible rfl))
  try simp only [Act.put, List.setIfInBounds_toArray, List.set_cons_zero, List.set_cons_succ]
  refine wpAnyH_take (i := 8) (v := ?hva8) (List.getElem?_toArray.trans rfl) (by kernel_rfl) (by kernel_rfl) (by kernel_rfl) (fun _ _ _ h => h) (Or.inl ⟨by rfl, ?hya8⟩) (by assumption) ?hra8
  case hya8 => (intro wt hSw; (try dsimp only at hSw); go_simp; try (with_reducible rfl))
  try simp only [Act.put, List.setIfInBounds_toArray, List.set_cons_zero, List.set_cons_succ]
  refine wpAnyH_take (i := 9) (v := ?hva9) (List.getElem?_toArray.trans rfl) (by kernel_rfl) (by kernel_rfl) (by kernel_rfl) (fun _ _ _ h => h) (Or.inl ⟨by rfl, ?hya9⟩) (by assumption) ?hra9
  case hya9 => (intro wt hSw; (try dsimp only at hSw); go_simp; try (with_reducible rfl))
  try simp only [Act.put, List.setIfInBounds_toArray, List.set_cons_zero, List.set_cons_succ]
  refine wpAnyH_ready (rs := [10]) (by kernel_rfl) (by simp) ?_
  refine AllReadyH.cons (List.getElem?_toArray.trans rfl) (fun K hK => ?_) AllReadyH.nil
  go_simp
  refine hK.out _ _ ?_ (fun hHeld => ?_)
  · (try dsimp only)
    assumption
  clear hK K
  try simp only [Act.put, List.setIfInBounds_toArray, List.set_cons_zero, List.set_cons_succ]
  refine wpAnyH_ready (rs := [11]) (by kernel_rfl) (by simp) ?_
  refine AllReadyH.cons (List.getElem?_toArray.trans rfl) (fun K hK => ?_) AllReadyH.nil
  go_simp
  try (go_wp2_with fail)
  refine hK.out _ _ ?_ (fun hHeld => ?_)
  · (try dsimp only)
    assumption
  clear hK K
  try simp only [Act.put, List.setIfInBounds_toArray, List.set_cons_zero, List.set_cons_succ]
  refine wpAnyH_take (i := 12) (v := ?hva12) (List.getElem?_toArray.trans rfl) (by kernel_rfl) (by kernel_rfl) (by kernel_rfl) (fun _ _ _ h => h) (Or.inl ⟨by rfl, ?hya12⟩) (by assumption) ?hra12
  case hya12 => (intro wt hSw; (try dsimp only at hSw); go_simp; try (with_reducible rfl))
  try simp only [Act.put, List.setIfInBounds_toArray, List.set_cons_zero, List.set_cons_succ]
  refine wpAnyH_done (by kernel_rfl) ?_ _
  refine NoPanic.normal ?_
  rw [HW2.out]
  clear S1 SA1 hHeld HW2 b1 z0 z1 z2
  have HN2 := Lib.hid (HNd.out w2 bA)
  obtain ⟨_, ⟨_, _, x1, _⟩, _⟩ := base.out w2 bA
  clear HNd
  go_wp2_with fail
  refine HN2.out.mono ?_
  rintro e w3 ⟨rfl, b3⟩
  have bB := ((bA.trans (b3.mono bA.size)).alloc (Nat.le_trans bA.size b3.size) (.cells #[.string (str p.nm), .string (str p.pr), .complex .f64 (FL.fB p.o1) (FL.fB p.o2), .complex .f64 (FL.fB p.b1) (FL.fB p.b2), .complex .f64 (FL.fB p.l1) (FL.fB p.l2)] 43))
  obtain ⟨w4, hw4⟩ : ∃ V, V = w3.alloc (.cells #[.string (str p.nm), .string (str p.pr), .complex .f64 (FL.fB p.o1) (FL.fB p.o2), .complex .f64 (FL.fB p.b1) (FL.fB p.b2), .complex .f64 (FL.fB p.l1) (FL.fB p.l2)] 43) := ⟨_, rfl⟩
  rw [← hw4] at bB
  have HW4 := Lib.hid hw4.symm
  obtain ⟨T4, ⟨t4, _⟩, _⟩ := base.out w4 bB
  have hl4 := HLen.out w4 T4
  clear hw4 x1 bA b3 HN2 T4
  obtain ⟨w6, hput, T6, S6, F6⟩ := Hput.out w4.drew (base.out w4.drew bB.drew).1 (base.out w4.drew bB.drew).2.1 (base.out w4.drew bB.drew).2.2.2
  have S3 := (base.out w4.drew bB.drew).2.1
  have HT6 := Lib.hid T6
  have HF6 := Lib.hid F6
  have HS6 := Lib.hid S6
  have HF7 := Lib.hid (HFi.out w6 T6)
  rw [Hfit.out] at HF7
  clear T6 F6 Hput HFi Hfit base HLen bB
  go_wp2_with (rw [HW4.out])
  clear HW4
  go_wp2_with fail
  refine wp_region_noPanic ?_
  refine wp_region_held_drew (S := fun V => (V.cell? ⟨T, 1, none⟩ = some (.map (some bu)) ∧ V.cell? ⟨B, 0, none⟩ = some (.string (str u.id)) ∧ V.cell? ⟨B, 1, none⟩ = some (.string (str u.nd)) ∧ V.cell? ⟨B, 2, none⟩ = some (.complex .f64 (FL.fB u.a1) (FL.fB u.a2)))) (by kernel_rfl) S3 (fun hHeld => ?_)
  refine wpAnyH_take (i := 0) (v := ?hvc0) (List.getElem?_toArray.trans rfl) (by kernel_rfl) (by kernel_rfl) (by kernel_rfl) (fun _ _ _ h => h) (Or.inl ⟨by rfl, ?hyc0⟩) (by assumption) ?hrc0
  case hyc0 => (intro wt hSw; (try dsimp only at hSw); go_simp; try (with_reducible rfl))
  try simp only [Act.put, List.setIfInBounds_toArray, List.set_cons_zero, List.set_cons_succ]
  refine wpAnyH_take (i := 1) (v := ?hvc1) (List.getElem?_toArray.trans rfl) (by kernel_rfl) (by kernel_rfl) (by kernel_rfl) (fun _ _ _ h => h) (Or.inl ⟨by rfl, ?hyc1⟩) (by assumption) ?hrc1
  case hyc1 => (intro wt hSw; (try dsimp only at hSw); go_simp; try (with_reducible rfl))
  try simp only [Act.put, List.setIfInBounds_toArray, List.set_cons_zero, List.set_cons_succ]
  refine wpAnyH_take (i := 2) (v := ?hvc2) (List.getElem?_toArray.trans rfl) (by kernel_rfl) (by kernel_rfl) (by kernel_rfl) (fun _ _ _ h => h) (Or.inl ⟨by rfl, ?hyc2⟩) (by assumption) ?hrc2
  case hyc2 => (intro wt hSw; (try dsimp only at hSw); go_simp; try (with_reducible rfl))
  try simp only [Act.put, List.setIfInBounds_toArray, List.set_cons_zero, List.set_cons_succ]
  refine wpAnyH_take (i := 3) (v := ?hvc3) (List.getElem?_toArray.trans rfl) (by kernel_rfl) (by kernel_rfl) (by kernel_rfl) (fun _ _ _ h => h) (Or.inl ⟨by rfl, ?hyc3⟩) (by assumption) ?hrc3
  case hyc3 => (intro wt hSw; (try dsimp only at hSw); go_simp; try (with_reducible rfl))
  try simp only [Act.put, List.setIfInBounds_toArray, List.set_cons_zero, List.set_cons_succ]
  refine wpAnyH_take (i := 4) (v := ?hvc4) (List.getElem?_toArray.trans rfl) (by kernel_rfl) (by kernel_rfl) (by kernel_rfl) (fun _ _ _ h => h) (Or.inl ⟨by rfl, ?hyc4⟩) (by assumption) ?hrc4
  case hyc4 => (intro wt hSw; (try dsimp only at hSw); go_simp; try (with_reducible rfl))
  try simp only [Act.put, List.setIfInBounds_toArray, List.set_cons_zero, List.set_cons_succ]
  refine wpAnyH_take (i := 5) (v := ?hvc5) (List.getElem?_toArray.trans rfl) (by kernel_rfl) (by kernel_rfl) (by kernel_rfl) (fun _ _ _ h => h) (Or.inl ⟨by rfl, ?hyc5⟩) (by assumption) ?hrc5
  case hyc5 => (intro wt hSw; (try dsimp only at hSw); go_simp; try (with_reducible rfl))
  try simp only [Act.put, List.setIfInBounds_toArray, List.set_cons_zero, List.set_cons_succ]
  refine wpAnyH_take (i := 6) (v := ?hvc6) (List.getElem?_toArray.trans rfl) (by kernel_rfl) (by kernel_rfl) (by kernel_rfl) (fun _ _ _ h => h) (Or.inl ⟨by rfl, ?hyc6⟩) (by assumption) ?hrc6
  case hyc6 => (intro wt hSw; (try dsimp only at hSw); go_simp; try (with_reducible rfl))
  try simp only [Act.put, List.setIfInBounds_toArray, List.set_cons_zero, List.set_cons_succ]
  refine wpAnyH_ready (rs := [7]) (by kernel_rfl) (by simp) ?_
  refine AllReadyH.cons (List.getElem?_toArray.trans rfl) (fun K hK => ?_) AllReadyH.nil
  go_simp
  skip
  refine hK.out _ _ ?_ (fun hHeld => ?_)
  · (try dsimp only)
    assumption
  clear hK K
  try simp only [Act.put, List.setIfInBounds_toArray, List.set_cons_zero, List.set_cons_succ]
  refine wpAnyH_done (by kernel_rfl) ?_ _
  refine NoPanic.normal ?_
  clear S3 S6 hHeld t4 hl4
  go_wp2_with fail
  refine HF7.out.mono ?_
  rintro e w7 ⟨rfl, b7⟩
  have T7 := HT6.out.below b7
  have HT7 := Lib.hid T7
  have HF8 := Lib.hid (HF6.out.trans (Fr.of_below b7))
  have HH := Lib.hid (HHo.out w7 T7)
  clear T7 HHo
  go_wp2_with fail
  refine HH.out.mono ?_
  rintro e w8 ⟨rfl, b8⟩
  have T8 := HT7.out.below b8
  have f8 : Fr (fun _ => False) w6 w8 := (Fr.of_below b7).trans (Fr.of_below b8)
  have F8 := HF8.out.trans (Fr.of_below b8)
  have sm := HS6.out
  have S8 : (w8.drew.cell? ⟨T, 1, none⟩ = some (.map (some bu)) ∧ w8.drew.cell? ⟨B, 0, none⟩ = some (.string (str u.id)) ∧ w8.drew.cell? ⟨B, 1, none⟩ = some (.string (str u.nd)) ∧ w8.drew.cell? ⟨B, 2, none⟩ = some (.complex .f64 (FL.fB u.a1) (FL.fB u.a2))) := ⟨f8.cell sm.1 (fun e => e), f8.cell sm.2.1 (fun e => e), f8.cell sm.2.2.1 (fun e => e), f8.cell sm.2.2.2 (fun e => e)⟩
  obtain ⟨w9, hdel, T9, S9, F9⟩ := Hdel.out w8.drew (T8.below (Below.refl _ _).drew) S8 F8.drew
  have HT9 := Lib.hid T9
  have HF9 := Lib.hid F9
  have HT8 := Lib.hid (Hsame.out w8 T8)
  have HF8' := Lib.hid F8
  clear T8 f8 F8 sm T9 F9 Hdel b7 b8 HT7 HF8 HS6 HT6 HF6 Hsame HH
  cases hh : QT.holdsB N U' with
  | true =>
    clear hdel S9 S8
    go_wp2
    go_ret
    exact ⟨by rw [hh]; rfl, by rw [hh]; exact HT8.out, HF8'.out⟩
  | false =>
    go_wp2_with fail
    refine wp_region_noPanic ?_
    refine wp_region_held_drew (S := fun V => (V.cell? ⟨T, 1, none⟩ = some (.map (some bu)) ∧ V.cell? ⟨B, 0, none⟩ = some (.string (str u.id)) ∧ V.cell? ⟨B, 1, none⟩ = some (.string (str u.nd)) ∧ V.cell? ⟨B, 2, none⟩ = some (.complex .f64 (FL.fB u.a1) (FL.fB u.a2)))) (by kernel_rfl) S8 (fun hHeld => ?_)
    refine wpAnyH_take (i := 0) (v := ?hvd0) (List.getElem?_toArray.trans rfl) (by kernel_rfl) (by kernel_rfl) (by kernel_rfl) (fun _ _ _ h => h) (Or.inl ⟨by rfl, ?hyd0⟩) (by assumption) ?hrd0
    case hyd0 => (intro wt hSw; (try dsimp only at hSw); go_simp; try (with_reducible rfl))
    try simp only [Act.put, List.setIfInBounds_toArray, List.set_cons_zero, List.set_cons_succ]
    refine wpAnyH_take (i := 1) (v := ?hvd1) (List.getElem?_toArray.trans rfl) (by kernel_rfl) (by kernel_rfl) (by kernel_rfl) (fun _ _ _ h => h) (Or.inl ⟨by rfl, ?hyd1⟩) (by assumption) ?hrd1
    case hyd1 => (intro wt hSw; (try dsimp only at hSw); go_simp; try (with_reducible rfl))
    try simp only [Act.put, List.setIfInBounds_toArray, List.set_cons_zero, List.set_cons_succ]
    refine wpAnyH_take (i := 2) (v := ?hvd2) (List.getElem?_toArray.trans rfl) (by kernel_rfl) (by kernel_rfl) (by kernel_rfl) (fun _ _ _ h => h) (Or.inl ⟨by rfl, ?hyd2⟩) (by assumption) ?hrd2
    case hyd2 => (intro wt hSw; (try dsimp only at hSw); go_simp; try (with_reducible rfl))
    try simp only [Act.put, List.setIfInBounds_toArray, List.set_cons_zero, List.set_cons_succ]
    refine wpAnyH_take (i := 3) (v := ?hvd3) (List.getElem?_toArray.trans rfl) (by kernel_rfl) (by kernel_rfl) (by kernel_rfl) (fun _ _ _ h => h) (Or.inl ⟨by rfl, ?hyd3⟩) (by assumption) ?hrd3
    case hyd3 => (intro wt hSw; (try dsimp only at hSw); go_simp; try (with_reducible rfl))
    try simp only [Act.put, List.setIfInBounds_toArray, List.set_cons_zero, List.set_cons_succ]
    refine wpAnyH_take (i := 4) (v := ?hvd4) (List.getElem?_toArray.trans rfl) (by kernel_rfl) (by kernel_rfl) (by kernel_rfl) (fun _ _ _ h => h) (Or.inl ⟨by rfl, ?hyd4⟩) (by assumption) ?hrd4
    case hyd4 => (intro wt hSw; (try dsimp only at hSw); go_simp; try (with_reducible rfl))
    try simp only [Act.put, List.setIfInBounds_toArray, List.set_cons_zero, List.set_cons_succ]
    refine wpAnyH_take (i := 5) (v := ?hvd5) (List.getElem?_toArray.trans rfl) (by kernel_rfl) (by kernel_rfl) (by kernel_rfl) (fun _ _ _ h => h) (Or.inl ⟨by rfl, ?hyd5⟩) (by assumption) ?hrd5
    case hyd5 => (intro wt hSw; (try dsimp only at hSw); go_simp; try (with_reducible rfl))
    try simp only [Act.put, List.setIfInBounds_toArray, List.set_cons_zero, List.set_cons_succ]
    refine wpAnyH_ready (rs := [6]) (by kernel_rfl) (by simp) ?_
    refine AllReadyH.cons (List.getElem?_toArray.trans rfl) (fun K hK => ?_) AllReadyH.nil
    go_simp
    skip
    refine hK.out _ _ ?_ (fun hHeld => ?_)
    · (try dsimp only)
      assumption
    clear hK K
    try simp only [Act.put, List.setIfInBounds_toArray, List.set_cons_zero, List.set_cons_succ]
    refine wpAnyH_done (by kernel_rfl) ?_ _
    refine NoPanic.normal ?_
    clear S8 S9 hHeld
    go_wp2
    go_ret
    exact ⟨by rw [hh]; rfl, by rw [hh]; exact HT9.out, HF9.out⟩
end Go.Proofs.YtflghelhdalhiaaGreatDoor
