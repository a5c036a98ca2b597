/-
  The program's AddNode, where the node can be added.
  Conditions: the tree's maps hold the lists'; the name and the amounts are such, the name is new, the parent is there, the tree has room and fits with the node.
-/
import Derived.Test.YtflghelhdalhiaaGreatDoorG21
import Derived.Test.YtflghelhdalhiaaGreatDoorDecP
namespace Go.Proofs.YtflghelhdalhiaaGreatDoor
open Go Go.RowKit

/-- What a map holds is the same for each list that finds the same. -/
theorem MapD.same {α : Type} {key : α → QT.Str} {val : α → Value} {ok : Bool} {w : World} {b n : Nat} {N N' : List α} (h : MapD key val ok w b n N) (hf : ∀ s, QT.fnd key N' s = QT.fnd key N s) (hl : N'.length = N.length) : MapD key val ok w b n N' := by
  obtain ⟨D, ho, hr⟩ := h
  exact ⟨D, ho, fun e => ⟨fun s z => by rw [hf]; exact (hr e).1 s z, by rw [hl]; exact (hr e).2⟩⟩
theorem TreeD.putN {w w' : World} {T bn bu n n' m : Nat} {N N' : List QT.Nd} {U : List QT.Us} (h : TreeD w T bn bu true true n m N U) (f : Fr (fun j => j = bn) w w') (hm : MapD QT.Nd.nm vNd true w' bn n' N') : TreeD w' T bn bu true true n' m N' U :=
  ⟨f.heap h.tb h.ne.2.1, hm, h.mU.kept f (fun e => h.ne.1 e.symm), h.ne⟩
theorem TreeD.putU {w w' : World} {T bn bu n m m' : Nat} {N : List QT.Nd} {U U' : List QT.Us} (h : TreeD w T bn bu true true n m N U) (f : Fr (fun j => j = bu) w w') (hm : MapD QT.Us.id vUs true w' bu m' U') : TreeD w' T bn bu true true n m' N U' :=
  ⟨f.heap h.tb h.ne.2.2, h.mN.kept f h.ne.1, hm, h.ne⟩
set_option maxRecDepth 100000 in
set_option maxHeartbeats 8000000 in
/-- AddNode, of a node that can be added. -/
theorem addNode_any (T bn bu n m : Nat) (N N' : List QT.Nd) (U : List QT.Us) (x : QT.Nd) (w : World) (hT : TreeD w T bn bu true true n m N U) (hx : QT.fineNd x) (hnm : QT.nameP x.nm = true) (hfr : QT.fnd QT.Nd.nm N x.nm = none)
    (hpr : (QT.fnd QT.Nd.nm N x.pr).isSome = true ∨ x.pr = []) (hlen : N.length < 256) (hn : n < 1099511627776) (hf : ∀ s, QT.fnd QT.Nd.nm N' s = QT.fnd QT.Nd.nm (N ++ [x]) s) (hl : N'.length = (N ++ [x]).length) (hF : FullQ N' U) (hfit : QT.fitsB N' U = true) :
    Calls Tryz.prog 11 #[.pointer (some ⟨T, 0, none⟩), .agg #[.string (str x.nm), .string (str x.pr), .complex .f64 (FL.fB x.o1) (FL.fB x.o2), .complex .f64 (FL.fB x.b1) (FL.fB x.b2), .complex .f64 (FL.fB x.l1) (FL.fB x.l2)]] w fun e w' => e = .returned .nilIface ∧ TreeD w' T bn bu true true (n + 1) m N' U ∧ Fr (fun j => j = bn) w w' := by
  have hstc := @run_store_complex Tryz.prog
  obtain ⟨B, hB⟩ : ∃ B, B = w.heap.size := ⟨_, rfl⟩
  obtain ⟨W0, hW0⟩ : ∃ W, W = w.alloc (.cells #[.string (str x.nm), .string (str x.pr), .complex .f64 (FL.fB x.o1) (FL.fB x.o2), .complex .f64 (FL.fB x.b1) (FL.fB x.b2), .complex .f64 (FL.fB x.l1) (FL.fB x.l2)] 43) := ⟨_, rfl⟩
  have b0 : Below w.heap.size w W0 := by rw [hW0]; exact (Below.refl _ _).alloc (Nat.le_refl _) _
  have g0 : W0.heap[B]? = some (.cells #[.string (str x.nm), .string (str x.pr), .complex .f64 (FL.fB x.o1) (FL.fB x.o2), .complex .f64 (FL.fB x.b1) (FL.fB x.b2), .complex .f64 (FL.fB x.l1) (FL.fB x.l2)] 43) := by rw [hW0, hB]; exact heap_alloc_new _ _
  have hBlt : B < W0.heap.size := (Array.getElem?_eq_some_iff.1 g0).1
  have T0 := hT.below b0
  have NC : Hid (Calls Tryz.prog 19 #[.string (str x.nm)] W0 fun e w' => e = .returned (.bool true) ∧ W0 = w') := Lib.hid (by
    have := named_any (str x.nm) W0 (by rw [str_size]; have := hx.1.1; omega)
    rw [str_list, hnm] at this
    exact this)
  have HM := Lib.hid (nodeMay_any x W0 hx)
  obtain ⟨⟨z0, z1, z2, z3, z4⟩, _⟩ := cells5f g0
  obtain ⟨q, hq⟩ : ∃ q, q = (QT.fnd QT.Nd.nm N x.pr).isSome := ⟨_, rfl⟩
  obtain ⟨z, hz⟩ : ∃ z : QT.Nd, ((QT.fnd QT.Nd.nm N x.pr).map vNd).getD zNd = vNd z := by
    cases h : QT.fnd QT.Nd.nm N x.pr with
    | none => exact ⟨_, zNd_val⟩
    | some y => exact ⟨y, rfl⟩
  have hqp : q = false → x.pr = [] := fun e => by
    rcases hpr with h | h
    · rw [← hq, e] at h; cases h
    · exact h
  have base : Hid (∀ V, Below W0.heap.size W0 V → TreeD V T bn bu true true n m N U ∧ (V.cell? ⟨T, 0, none⟩ = some (.map (some bn)) ∧ V.cell? ⟨B, 0, none⟩ = some (.string (str x.nm)) ∧ V.cell? ⟨B, 1, none⟩ = some (.string (str x.pr)) ∧ V.cell? ⟨B, 2, none⟩ = some (.complex .f64 (FL.fB x.o1) (FL.fB x.o2)) ∧ V.cell? ⟨B, 3, none⟩ = some (.complex .f64 (FL.fB x.b1) (FL.fB x.b2)) ∧ V.cell? ⟨B, 4, none⟩ = some (.complex .f64 (FL.fB x.l1) (FL.fB x.l2))) ∧ (V.cell? ⟨T, 0, none⟩ = some (.map (some bn)) ∧ V.cell? ⟨B, 0, none⟩ = some (.string (str x.nm)) ∧ (Instr.lookup 58 (.map (some bn)) (.string (str x.nm)) true).run Tryz.prog V = .ok (.tuple #[.agg #[.string ⟨#[]⟩, .string ⟨#[]⟩, .complex .f64 0 0, .complex .f64 0 0, .complex .f64 0 0], .bool false]) V) ∧ (V.cell? ⟨T, 0, none⟩ = some (.map (some bn)) ∧ V.cell? ⟨B, 1, none⟩ = some (.string (str x.pr)) ∧ (Instr.lookup 58 (.map (some bn)) (.string (str x.pr)) true).run Tryz.prog V = .ok (.tuple #[.agg #[.string (str z.nm), .string (str z.pr), .complex .f64 (FL.fB z.o1) (FL.fB z.o2), .complex .f64 (FL.fB z.b1) (FL.fB z.b2), .complex .f64 (FL.fB z.l1) (FL.fB z.l2)], .bool q]) V) ∧ Below w.heap.size w V) := Lib.hid (fun V b => by
    have TV := T0.below b
    obtain ⟨⟨y0, y1, y2, y3, y4⟩, _⟩ := cells5f ((b.block B hBlt).trans g0)
    obtain ⟨t0, _⟩ := cells2 TV.tb
    have l1 := TV.mN.lookOk Tryz.underlying58 (zeroNd V) ⟨_, zNd_val⟩ x.nm (by have := hx.1.1; omega)
    have l2 := TV.mN.lookOk Tryz.underlying58 (zeroNd V) ⟨_, zNd_val⟩ x.pr (by have := hx.1.2; omega)
    rw [hfr] at l1
    rw [hz, ← hq, vNd] at l2
    exact ⟨TV, ⟨t0, y0, y1, y2, y3, y4⟩, ⟨t0, y0, l1⟩, ⟨t0, y1, l2⟩, b0.trans (b.mono b0.size)⟩)
  have Hput : Hid (∀ V, TreeD V T bn bu true true n m N U → (V.cell? ⟨T, 0, none⟩ = some (.map (some bn)) ∧ V.cell? ⟨B, 0, none⟩ = some (.string (str x.nm)) ∧ V.cell? ⟨B, 1, none⟩ = some (.string (str x.pr)) ∧ V.cell? ⟨B, 2, none⟩ = some (.complex .f64 (FL.fB x.o1) (FL.fB x.o2)) ∧ V.cell? ⟨B, 3, none⟩ = some (.complex .f64 (FL.fB x.b1) (FL.fB x.b2)) ∧ V.cell? ⟨B, 4, none⟩ = some (.complex .f64 (FL.fB x.l1) (FL.fB x.l2))) → Below w.heap.size w V → ∃ V', (Instr.mapUpdate 58 (.map (some bn)) (.string (str x.nm)) (.agg #[.string (str x.nm), .string (str x.pr), .complex .f64 (FL.fB x.o1) (FL.fB x.o2), .complex .f64 (FL.fB x.b1) (FL.fB x.b2), .complex .f64 (FL.fB x.l1) (FL.fB x.l2)])).run Tryz.prog V = .ok () V' ∧ TreeD V' T bn bu true true (n + 1) m N' U ∧ (V'.cell? ⟨T, 0, none⟩ = some (.map (some bn)) ∧ V'.cell? ⟨B, 0, none⟩ = some (.string (str x.nm)) ∧ V'.cell? ⟨B, 1, none⟩ = some (.string (str x.pr)) ∧ V'.cell? ⟨B, 2, none⟩ = some (.complex .f64 (FL.fB x.o1) (FL.fB x.o2)) ∧ V'.cell? ⟨B, 3, none⟩ = some (.complex .f64 (FL.fB x.b1) (FL.fB x.b2)) ∧ V'.cell? ⟨B, 4, none⟩ = some (.complex .f64 (FL.fB x.l1) (FL.fB x.l2))) ∧ Fr (fun j => j = bn) w V') := Lib.hid (fun V TV sm b => by
    obtain ⟨V', h1, h2, h3⟩ := TV.mN.put Tryz.underlying58 hn x (by have := hx.1.1; omega) (ok' := true) (fun _ => ⟨rfl, hfr⟩)
    have hBb : ¬ B = bn := by have := hT.mN.lt; omega
    refine ⟨V', h1, TV.putN h3 (h2.same hf hl), ⟨h3.cell sm.1 TV.ne.2.1, h3.cell sm.2.1 hBb, h3.cell sm.2.2.1 hBb, h3.cell sm.2.2.2.1 hBb, h3.cell sm.2.2.2.2.1 hBb, h3.cell sm.2.2.2.2.2 hBb⟩, (Fr.of_below b).trans h3⟩)
  have HFi := Lib.hid (fun (V : World) (h : TreeD V T bn bu true true (n + 1) m N' U) => fits_any N' U hF T bn bu (n + 1) m V h.tree)
  have h256 : ¬ (256 : Int) ≤ (N.length : Int) := by omega
  have hmx : (N.length : Int) ≤ 281474976710656 := by omega
  have Hqp := Lib.hid hqp
  have Hfit := Lib.hid hfit
  have hlen' := fun (V : World) (h : TreeD V T bn bu true true n m N U) ty => h.mN.len Tryz.underlying58 ty
  have HLen := Lib.hid hlen'
  have HW0 := Lib.hid hW0.symm
  clear hW0 b0 g0 hBlt T0 hnm hfr hpr hqp hlen hn hf hl hF hfit hlen' hT hz hq
  have HB := Lib.hid hB
  clear hB
  go_enter Tryz.func11, Tryz.ntmps11
  go_wp2_with (rw [HW0.out, ← HB.out])
  clear HW0 HB
  go_wp2_with fail
  refine NC.out.mono ?_
  rintro e v ⟨rfl, rfl⟩
  go_wp2_with fail
  refine HM.out.mono ?_
  rintro e w1 ⟨rfl, b1⟩
  have S1 := (base.out w1.drew b1.drew).2.2.1
  have bA := (b1.alloc b1.size (.cells #[.string ⟨#[]⟩, .string ⟨#[]⟩, .complex .f64 0 0, .complex .f64 0 0, .complex .f64 0 0] 43)).drew
  have SA1 := (base.out _ bA).2.2.1
  obtain ⟨w2, hw2⟩ : ∃ V, V = (w1.alloc (.cells #[.string ⟨#[]⟩, .string ⟨#[]⟩, .complex .f64 0 0, .complex .f64 0 0, .complex .f64 0 0] 43)).drew := ⟨_, rfl⟩
  rw [← hw2] at bA
  have HW2 := Lib.hid hw2.symm
  clear hw2 HM NC
  go_wp2_with fail
  refine wp_region_noPanic ?_
  refine wp_region_held_drew (S := fun V => (V.cell? ⟨T, 0, none⟩ = some (.map (some bn)) ∧ V.cell? ⟨B, 0, none⟩ = some (.string (str x.nm)) ∧ (Instr.lookup 58 (.map (some bn)) (.string (str x.nm)) true).run Tryz.prog V = .ok (.tuple #[.agg #[.string ⟨#[]⟩, .string ⟨#[]⟩, .complex .f64 0 0, .complex .f64 0 0, .complex .f64 0 0], .bool false]) V)) (by kernel_rfl) S1 (fun hHeld => ?_)
  refine wpAnyH_take (i := 0) (v := ?hva0) (List.getElem?_toArray.trans rfl) (by kernel_rfl) (by kernel_rfl) (by kernel_rfl) (fun _ _ _ h => h) (Or.inl ⟨by rfl, ?hya0⟩) (by assumption) ?hra0
  case hya0 => (intro wt hSw; (try dsimp only at hSw); go_simp; try (with_reducible rfl))
  try simp only [Act.put, List.setIfInBounds_toArray, List.set_cons_zero, List.set_cons_succ]
  refine wpAnyH_take (i := 1) (v := ?hva1) (List.getElem?_toArray.trans rfl) (by kernel_rfl) (by kernel_rfl) (by kernel_rfl) (fun _ _ _ h => h) (Or.inl ⟨by rfl, ?hya1⟩) (by assumption) ?hra1
  case hya1 => (intro wt hSw; (try dsimp only at hSw); go_simp; try (with_reducible rfl))
  try simp only [Act.put, List.setIfInBounds_toArray, List.set_cons_zero, List.set_cons_succ]
  refine wpAnyH_take (i := 2) (v := ?hva2) (List.getElem?_toArray.trans rfl) (by kernel_rfl) (by kernel_rfl) (by kernel_rfl) (fun _ _ _ h => h) (Or.inl ⟨by rfl, ?hya2⟩) (by assumption) ?hra2
  case hya2 => (intro wt hSw; (try dsimp only at hSw); go_simp; try (with_reducible rfl))
  try simp only [Act.put, List.setIfInBounds_toArray, List.set_cons_zero, List.set_cons_succ]
  refine wpAnyH_take (i := 3) (v := ?hva3) (List.getElem?_toArray.trans rfl) (by kernel_rfl) (by kernel_rfl) (by kernel_rfl) (fun _ _ _ h => h) (Or.inl ⟨by rfl, ?hya3⟩) (by assumption) ?hra3
  case hya3 => (intro wt hSw; (try dsimp only at hSw); go_simp; try (with_reducible rfl))
  try simp only [Act.put, List.setIfInBounds_toArray, List.set_cons_zero, List.set_cons_succ]
  refine wpAnyH_take (i := 4) (v := ?hva4) (List.getElem?_toArray.trans rfl) (by kernel_rfl) (by kernel_rfl) (by kernel_rfl) (fun _ _ _ h => h) (Or.inl ⟨by rfl, ?hya4⟩) (by assumption) ?hra4
  case hya4 => (intro wt hSw; (try dsimp only at hSw); go_simp; try (with_reducible rfl))
  try simp only [Act.put, List.setIfInBounds_toArray, List.set_cons_zero, List.set_cons_succ]
  refine wpAnyH_take (i := 5) (v := ?hva5) (List.getElem?_toArray.trans rfl) (by kernel_rfl) (by kernel_rfl) (by kernel_rfl) (fun _ _ _ h => h) (Or.inl ⟨by rfl, ?hya5⟩) (by assumption) ?hra5
  case hya5 => (intro wt hSw; (try dsimp only at hSw); go_simp; try (with_reducible rfl))
  try simp only [Act.put, List.setIfInBounds_toArray, List.set_cons_zero, List.set_cons_succ]
  refine wpAnyH_take (i := 6) (v := ?hva6) (List.getElem?_toArray.trans rfl) (by kernel_rfl) (by kernel_rfl) (by kernel_rfl) (fun _ _ _ h => h) (Or.inl ⟨by rfl, ?hya6⟩) (by assumption) ?hra6
  case hya6 => (intro wt hSw; (try dsimp only at hSw); go_simp; try (with_reducible rfl))
  try simp only [Act.put, List.setIfInBounds_toArray, List.set_cons_zero, List.set_cons_succ]
  refine wpAnyH_take (i := 7) (v := ?hva7) (List.getElem?_toArray.trans rfl) (by kernel_rfl) (by kernel_rfl) (by kernel_rfl) (fun _ _ _ h => h) (Or.inl ⟨by rfl, ?hya7⟩) (by assumption) ?hra7
  case hya7 => (intro wt hSw; (try dsimp only at hSw); go_simp; try (with_reducible rfl))
  try simp only [Act.put, List.setIfInBounds_toArray, List.set_cons_zero, List.set_cons_succ]
  refine wpAnyH_take (i := 8) (v := ?hva8) (List.getElem?_toArray.trans rfl) (by kernel_rfl) (by kernel_rfl) (by kernel_rfl) (fun _ _ _ h => h) (Or.inl ⟨by rfl, ?hya8⟩) (by assumption) ?hra8
  case hya8 => (intro wt hSw; (try dsimp only at hSw); go_simp; try (with_reducible rfl))
  try simp only [Act.put, List.setIfInBounds_toArray, List.set_cons_zero, List.set_cons_succ]
  refine wpAnyH_take (i := 9) (v := ?hva9) (List.getElem?_toArray.trans rfl) (by kernel_rfl) (by kernel_rfl) (by kernel_rfl) (fun _ _ _ h => h) (Or.inl ⟨by rfl, ?hya9⟩) (by assumption) ?hra9
  case hya9 => (intro wt hSw; (try dsimp only at hSw); go_simp; try (with_reducible rfl))
  try simp only [Act.put, List.setIfInBounds_toArray, List.set_cons_zero, List.set_cons_succ]
  refine wpAnyH_ready (rs := [10]) (by kernel_rfl) (by simp) ?_
  refine AllReadyH.cons (List.getElem?_toArray.trans rfl) (fun K hK => ?_) AllReadyH.nil
  go_simp
  refine hK.out _ _ ?_ (fun hHeld => ?_)
  · (try dsimp only)
    assumption
  clear hK K
  try simp only [Act.put, List.setIfInBounds_toArray, List.set_cons_zero, List.set_cons_succ]
  refine wpAnyH_ready (rs := [11]) (by kernel_rfl) (by simp) ?_
  refine AllReadyH.cons (List.getElem?_toArray.trans rfl) (fun K hK => ?_) AllReadyH.nil
  go_simp
  try (go_wp2_with fail)
  refine hK.out _ _ ?_ (fun hHeld => ?_)
  · (try dsimp only)
    assumption
  clear hK K
  try simp only [Act.put, List.setIfInBounds_toArray, List.set_cons_zero, List.set_cons_succ]
  refine wpAnyH_take (i := 12) (v := ?hva12) (List.getElem?_toArray.trans rfl) (by kernel_rfl) (by kernel_rfl) (by kernel_rfl) (fun _ _ _ h => h) (Or.inl ⟨by rfl, ?hya12⟩) (by assumption) ?hra12
  case hya12 => (intro wt hSw; (try dsimp only at hSw); go_simp; try (with_reducible rfl))
  try simp only [Act.put, List.setIfInBounds_toArray, List.set_cons_zero, List.set_cons_succ]
  refine wpAnyH_done (by kernel_rfl) ?_ _
  refine NoPanic.normal ?_
  rw [HW2.out]
  clear S1 SA1 hHeld HW2 b1
  have S2 := (base.out w2.drew bA.drew).2.2.2.1
  have SB1 := (base.out (w2.alloc (.cells #[.string ⟨#[]⟩, .string ⟨#[]⟩, .complex .f64 0 0, .complex .f64 0 0, .complex .f64 0 0] 43)).drew (bA.alloc bA.size _).drew).2.2.2.1
  have bB := (bA.alloc bA.size (.cells #[.string (str z.nm), .string (str z.pr), .complex .f64 (FL.fB z.o1) (FL.fB z.o2), .complex .f64 (FL.fB z.b1) (FL.fB z.b2), .complex .f64 (FL.fB z.l1) (FL.fB z.l2)] 43)).drew
  have SB2 := (base.out _ bB).2.2.2.1
  obtain ⟨w3, hw3⟩ : ∃ V, V = (w2.alloc (.cells #[.string (str z.nm), .string (str z.pr), .complex .f64 (FL.fB z.o1) (FL.fB z.o2), .complex .f64 (FL.fB z.b1) (FL.fB z.b2), .complex .f64 (FL.fB z.l1) (FL.fB z.l2)] 43)).drew := ⟨_, rfl⟩
  rw [← hw3] at bB
  have HW3 := Lib.hid hw3.symm
  clear hw3
  go_wp2_with fail
  refine wp_region_noPanic ?_
  refine wp_region_held_drew (S := fun V => (V.cell? ⟨T, 0, none⟩ = some (.map (some bn)) ∧ V.cell? ⟨B, 1, none⟩ = some (.string (str x.pr)) ∧ (Instr.lookup 58 (.map (some bn)) (.string (str x.pr)) true).run Tryz.prog V = .ok (.tuple #[.agg #[.string (str z.nm), .string (str z.pr), .complex .f64 (FL.fB z.o1) (FL.fB z.o2), .complex .f64 (FL.fB z.b1) (FL.fB z.b2), .complex .f64 (FL.fB z.l1) (FL.fB z.l2)], .bool q]) V)) (by kernel_rfl) S2 (fun hHeld => ?_)
  refine wpAnyH_take (i := 0) (v := ?hvb0) (List.getElem?_toArray.trans rfl) (by kernel_rfl) (by kernel_rfl) (by kernel_rfl) (fun _ _ _ h => h) (Or.inl ⟨by rfl, ?hyb0⟩) (by assumption) ?hrb0
  case hyb0 => (intro wt hSw; (try dsimp only at hSw); go_simp; try (with_reducible rfl))
  try simp only [Act.put, List.setIfInBounds_toArray, List.set_cons_zero, List.set_cons_succ]
  refine wpAnyH_take (i := 1) (v := ?hvb1) (List.getElem?_toArray.trans rfl) (by kernel_rfl) (by kernel_rfl) (by kernel_rfl) (fun _ _ _ h => h) (Or.inl ⟨by rfl, ?hyb1⟩) (by assumption) ?hrb1
  case hyb1 => (intro wt hSw; (try dsimp only at hSw); go_simp; try (with_reducible rfl))
  try simp only [Act.put, List.setIfInBounds_toArray, List.set_cons_zero, List.set_cons_succ]
  refine wpAnyH_take (i := 2) (v := ?hvb2) (List.getElem?_toArray.trans rfl) (by kernel_rfl) (by kernel_rfl) (by kernel_rfl) (fun _ _ _ h => h) (Or.inl ⟨by rfl, ?hyb2⟩) (by assumption) ?hrb2
  case hyb2 => (intro wt hSw; (try dsimp only at hSw); go_simp; try (with_reducible rfl))
  try simp only [Act.put, List.setIfInBounds_toArray, List.set_cons_zero, List.set_cons_succ]
  refine wpAnyH_take (i := 3) (v := ?hvb3) (List.getElem?_toArray.trans rfl) (by kernel_rfl) (by kernel_rfl) (by kernel_rfl) (fun _ _ _ h => h) (Or.inl ⟨by rfl, ?hyb3⟩) (by assumption) ?hrb3
  case hyb3 => (intro wt hSw; (try dsimp only at hSw); go_simp; try (with_reducible rfl))
  try simp only [Act.put, List.setIfInBounds_toArray, List.set_cons_zero, List.set_cons_succ]
  refine wpAnyH_take (i := 4) (v := ?hvb4) (List.getElem?_toArray.trans rfl) (by kernel_rfl) (by kernel_rfl) (by kernel_rfl) (fun _ _ _ h => h) (Or.inl ⟨by rfl, ?hyb4⟩) (by assumption) ?hrb4
  case hyb4 => (intro wt hSw; (try dsimp only at hSw); go_simp; try (with_reducible rfl))
  try simp only [Act.put, List.setIfInBounds_toArray, List.set_cons_zero, List.set_cons_succ]
  refine wpAnyH_take (i := 5) (v := ?hvb5) (List.getElem?_toArray.trans rfl) (by kernel_rfl) (by kernel_rfl) (by kernel_rfl) (fun _ _ _ h => h) (Or.inl ⟨by rfl, ?hyb5⟩) (by assumption) ?hrb5
  case hyb5 => (intro wt hSw; (try dsimp only at hSw); go_simp; try (with_reducible rfl))
  try simp only [Act.put, List.setIfInBounds_toArray, List.set_cons_zero, List.set_cons_succ]
  refine wpAnyH_take (i := 6) (v := ?hvb6) (List.getElem?_toArray.trans rfl) (by kernel_rfl) (by kernel_rfl) (by kernel_rfl) (fun _ _ _ h => h) (Or.inl ⟨by rfl, ?hyb6⟩) (by assumption) ?hrb6
  case hyb6 => (intro wt hSw; (try dsimp only at hSw); go_simp; try (with_reducible rfl))
  try simp only [Act.put, List.setIfInBounds_toArray, List.set_cons_zero, List.set_cons_succ]
  refine wpAnyH_take (i := 7) (v := ?hvb7) (List.getElem?_toArray.trans rfl) (by kernel_rfl) (by kernel_rfl) (by kernel_rfl) (fun _ _ _ h => h) (Or.inl ⟨by rfl, ?hyb7⟩) (by assumption) ?hrb7
  case hyb7 => (intro wt hSw; (try dsimp only at hSw); go_simp; try (with_reducible rfl))
  try simp only [Act.put, List.setIfInBounds_toArray, List.set_cons_zero, List.set_cons_succ]
  refine wpAnyH_take (i := 8) (v := ?hvb8) (List.getElem?_toArray.trans rfl) (by kernel_rfl) (by kernel_rfl) (by kernel_rfl) (fun _ _ _ h => h) (Or.inl ⟨by rfl, ?hyb8⟩) (by assumption) ?hrb8
  case hyb8 => (intro wt hSw; (try dsimp only at hSw); go_simp; try (with_reducible rfl))
  try simp only [Act.put, List.setIfInBounds_toArray, List.set_cons_zero, List.set_cons_succ]
  refine wpAnyH_take (i := 9) (v := ?hvb9) (List.getElem?_toArray.trans rfl) (by kernel_rfl) (by kernel_rfl) (by kernel_rfl) (fun _ _ _ h => h) (Or.inl ⟨by rfl, ?hyb9⟩) (by assumption) ?hrb9
  case hyb9 => (intro wt hSw; (try dsimp only at hSw); go_simp; try (with_reducible rfl))
  try simp only [Act.put, List.setIfInBounds_toArray, List.set_cons_zero, List.set_cons_succ]
  refine wpAnyH_ready (rs := [10]) (by kernel_rfl) (by simp) ?_
  refine AllReadyH.cons (List.getElem?_toArray.trans rfl) (fun K hK => ?_) AllReadyH.nil
  go_simp
  refine hK.out _ _ ?_ (fun hHeld => ?_)
  · (try dsimp only)
    assumption
  clear hK K
  try simp only [Act.put, List.setIfInBounds_toArray, List.set_cons_zero, List.set_cons_succ]
  refine wpAnyH_ready (rs := [11]) (by kernel_rfl) (by simp) ?_
  refine AllReadyH.cons (List.getElem?_toArray.trans rfl) (fun K hK => ?_) AllReadyH.nil
  go_simp
  try (go_wp2_with fail)
  refine hK.out _ _ ?_ (fun hHeld => ?_)
  · (try dsimp only)
    assumption
  clear hK K
  try simp only [Act.put, List.setIfInBounds_toArray, List.set_cons_zero, List.set_cons_succ]
  refine wpAnyH_take (i := 12) (v := ?hvb12) (List.getElem?_toArray.trans rfl) (by kernel_rfl) (by kernel_rfl) (by kernel_rfl) (fun _ _ _ h => h) (Or.inl ⟨by rfl, ?hyb12⟩) (by assumption) ?hrb12
  case hyb12 => (intro wt hSw; (try dsimp only at hSw); go_simp; try (with_reducible rfl))
  try simp only [Act.put, List.setIfInBounds_toArray, List.set_cons_zero, List.set_cons_succ]
  refine wpAnyH_done (by kernel_rfl) ?_ _
  refine NoPanic.normal ?_
  rw [HW3.out]
  clear S2 SB1 SB2 hHeld HW3 bA
  have K3 := Lib.hid (base.out w3 bB)
  obtain ⟨_, ⟨t0, y0, y1, y2, y3, y4⟩, _⟩ := base.out w3 bB
  have hl3 := HLen.out w3 K3.out.1
  obtain ⟨w6, hput, T6, S6, F6⟩ := Hput.out w3.drew (base.out w3.drew bB.drew).1 (base.out w3.drew bB.drew).2.1 (base.out w3.drew bB.drew).2.2.2.2
  have S3 := (base.out w3.drew bB.drew).2.1
  have HT6 := Lib.hid T6
  have HF6 := Lib.hid F6
  have HF7 := Lib.hid (HFi.out w6 T6)
  rw [Hfit.out] at HF7
  have Fin : Hid (∀ w7, Below w6.heap.size w6 w7 → TreeD w7 T bn bu true true (n + 1) m N' U ∧ Fr (fun j => j = bn) w w7) := Lib.hid (fun w7 b => ⟨T6.below b, F6.trans (Fr.of_below b)⟩)
  clear T6 F6 Hput HFi Hfit base K3 HLen bB HT6 HF6
  cases q with
  | true =>
    go_wp2_with fail
    refine wp_region_noPanic ?_
    refine wp_region_held_drew (S := fun V => (V.cell? ⟨T, 0, none⟩ = some (.map (some bn)) ∧ V.cell? ⟨B, 0, none⟩ = some (.string (str x.nm)) ∧ V.cell? ⟨B, 1, none⟩ = some (.string (str x.pr)) ∧ V.cell? ⟨B, 2, none⟩ = some (.complex .f64 (FL.fB x.o1) (FL.fB x.o2)) ∧ V.cell? ⟨B, 3, none⟩ = some (.complex .f64 (FL.fB x.b1) (FL.fB x.b2)) ∧ V.cell? ⟨B, 4, none⟩ = some (.complex .f64 (FL.fB x.l1) (FL.fB x.l2)))) (by kernel_rfl) S3 (fun hHeld => ?_)
    refine wpAnyH_take (i := 0) (v := ?hvc0) (List.getElem?_toArray.trans rfl) (by kernel_rfl) (by kernel_rfl) (by kernel_rfl) (fun _ _ _ h => h) (Or.inl ⟨by rfl, ?hyc0⟩) (by assumption) ?hrc0
    case hyc0 => (intro wt hSw; (try dsimp only at hSw); go_simp; try (with_reducible rfl))
    try simp only [Act.put, List.setIfInBounds_toArray, List.set_cons_zero, List.set_cons_succ]
    refine wpAnyH_take (i := 1) (v := ?hvc1) (List.getElem?_toArray.trans rfl) (by kernel_rfl) (by kernel_rfl) (by kernel_rfl) (fun _ _ _ h => h) (Or.inl ⟨by rfl, ?hyc1⟩) (by assumption) ?hrc1
    case hyc1 => (intro wt hSw; (try dsimp only at hSw); go_simp; try (with_reducible rfl))
    try simp only [Act.put, List.setIfInBounds_toArray, List.set_cons_zero, List.set_cons_succ]
    refine wpAnyH_take (i := 2) (v := ?hvc2) (List.getElem?_toArray.trans rfl) (by kernel_rfl) (by kernel_rfl) (by kernel_rfl) (fun _ _ _ h => h) (Or.inl ⟨by rfl, ?hyc2⟩) (by assumption) ?hrc2
    case hyc2 => (intro wt hSw; (try dsimp only at hSw); go_simp; try (with_reducible rfl))
    try simp only [Act.put, List.setIfInBounds_toArray, List.set_cons_zero, List.set_cons_succ]
    refine wpAnyH_take (i := 3) (v := ?hvc3) (List.getElem?_toArray.trans rfl) (by kernel_rfl) (by kernel_rfl) (by kernel_rfl) (fun _ _ _ h => h) (Or.inl ⟨by rfl, ?hyc3⟩) (by assumption) ?hrc3
    case hyc3 => (intro wt hSw; (try dsimp only at hSw); go_simp; try (with_reducible rfl))
    try simp only [Act.put, List.setIfInBounds_toArray, List.set_cons_zero, List.set_cons_succ]
    refine wpAnyH_take (i := 4) (v := ?hvc4) (List.getElem?_toArray.trans rfl) (by kernel_rfl) (by kernel_rfl) (by kernel_rfl) (fun _ _ _ h => h) (Or.inl ⟨by rfl, ?hyc4⟩) (by assumption) ?hrc4
    case hyc4 => (intro wt hSw; (try dsimp only at hSw); go_simp; try (with_reducible rfl))
    try simp only [Act.put, List.setIfInBounds_toArray, List.set_cons_zero, List.set_cons_succ]
    refine wpAnyH_take (i := 5) (v := ?hvc5) (List.getElem?_toArray.trans rfl) (by kernel_rfl) (by kernel_rfl) (by kernel_rfl) (fun _ _ _ h => h) (Or.inl ⟨by rfl, ?hyc5⟩) (by assumption) ?hrc5
    case hyc5 => (intro wt hSw; (try dsimp only at hSw); go_simp; try (with_reducible rfl))
    try simp only [Act.put, List.setIfInBounds_toArray, List.set_cons_zero, List.set_cons_succ]
    refine wpAnyH_take (i := 6) (v := ?hvc6) (List.getElem?_toArray.trans rfl) (by kernel_rfl) (by kernel_rfl) (by kernel_rfl) (fun _ _ _ h => h) (Or.inl ⟨by rfl, ?hyc6⟩) (by assumption) ?hrc6
    case hyc6 => (intro wt hSw; (try dsimp only at hSw); go_simp; try (with_reducible rfl))
    try simp only [Act.put, List.setIfInBounds_toArray, List.set_cons_zero, List.set_cons_succ]
    refine wpAnyH_ready (rs := [7]) (by kernel_rfl) (by simp) ?_
    refine AllReadyH.cons (List.getElem?_toArray.trans rfl) (fun K hK => ?_) AllReadyH.nil
    go_simp
    skip
    refine hK.out _ _ ?_ (fun hHeld => ?_)
    · (try dsimp only)
      assumption
    clear hK K
    try simp only [Act.put, List.setIfInBounds_toArray, List.set_cons_zero, List.set_cons_succ]
    refine wpAnyH_done (by kernel_rfl) ?_ _
    refine NoPanic.normal ?_
    clear S3 S6 hHeld
    go_wp2_with fail
    refine HF7.out.mono ?_
    rintro e w7 ⟨rfl, b7⟩
    have F := Lib.hid (Fin.out w7 b7)
    clear b7
    go_wp2
    go_ret
    exact ⟨rfl, F.out⟩
  | false =>
    have hp := Hqp.out rfl
    have ht : (str x.pr).toList.isEmpty = true := by rw [str_toList, hp]; rfl
    clear hp
    go_wp2_with fail
    refine wp_region_noPanic ?_
    refine wp_region_held_drew (S := fun V => (V.cell? ⟨T, 0, none⟩ = some (.map (some bn)) ∧ V.cell? ⟨B, 0, none⟩ = some (.string (str x.nm)) ∧ V.cell? ⟨B, 1, none⟩ = some (.string (str x.pr)) ∧ V.cell? ⟨B, 2, none⟩ = some (.complex .f64 (FL.fB x.o1) (FL.fB x.o2)) ∧ V.cell? ⟨B, 3, none⟩ = some (.complex .f64 (FL.fB x.b1) (FL.fB x.b2)) ∧ V.cell? ⟨B, 4, none⟩ = some (.complex .f64 (FL.fB x.l1) (FL.fB x.l2)))) (by kernel_rfl) S3 (fun hHeld => ?_)
    refine wpAnyH_take (i := 0) (v := ?hvd0) (List.getElem?_toArray.trans rfl) (by kernel_rfl) (by kernel_rfl) (by kernel_rfl) (fun _ _ _ h => h) (Or.inl ⟨by rfl, ?hyd0⟩) (by assumption) ?hrd0
    case hyd0 => (intro wt hSw; (try dsimp only at hSw); go_simp; try (with_reducible rfl))
    try simp only [Act.put, List.setIfInBounds_toArray, List.set_cons_zero, List.set_cons_succ]
    refine wpAnyH_take (i := 1) (v := ?hvd1) (List.getElem?_toArray.trans rfl) (by kernel_rfl) (by kernel_rfl) (by kernel_rfl) (fun _ _ _ h => h) (Or.inl ⟨by rfl, ?hyd1⟩) (by assumption) ?hrd1
    case hyd1 => (intro wt hSw; (try dsimp only at hSw); go_simp; try (with_reducible rfl))
    try simp only [Act.put, List.setIfInBounds_toArray, List.set_cons_zero, List.set_cons_succ]
    refine wpAnyH_take (i := 2) (v := ?hvd2) (List.getElem?_toArray.trans rfl) (by kernel_rfl) (by kernel_rfl) (by kernel_rfl) (fun _ _ _ h => h) (Or.inl ⟨by rfl, ?hyd2⟩) (by assumption) ?hrd2
    case hyd2 => (intro wt hSw; (try dsimp only at hSw); go_simp; try (with_reducible rfl))
    try simp only [Act.put, List.setIfInBounds_toArray, List.set_cons_zero, List.set_cons_succ]
    refine wpAnyH_take (i := 3) (v := ?hvd3) (List.getElem?_toArray.trans rfl) (by kernel_rfl) (by kernel_rfl) (by kernel_rfl) (fun _ _ _ h => h) (Or.inl ⟨by rfl, ?hyd3⟩) (by assumption) ?hrd3
    case hyd3 => (intro wt hSw; (try dsimp only at hSw); go_simp; try (with_reducible rfl))
    try simp only [Act.put, List.setIfInBounds_toArray, List.set_cons_zero, List.set_cons_succ]
    refine wpAnyH_take (i := 4) (v := ?hvd4) (List.getElem?_toArray.trans rfl) (by kernel_rfl) (by kernel_rfl) (by kernel_rfl) (fun _ _ _ h => h) (Or.inl ⟨by rfl, ?hyd4⟩) (by assumption) ?hrd4
    case hyd4 => (intro wt hSw; (try dsimp only at hSw); go_simp; try (with_reducible rfl))
    try simp only [Act.put, List.setIfInBounds_toArray, List.set_cons_zero, List.set_cons_succ]
    refine wpAnyH_take (i := 5) (v := ?hvd5) (List.getElem?_toArray.trans rfl) (by kernel_rfl) (by kernel_rfl) (by kernel_rfl) (fun _ _ _ h => h) (Or.inl ⟨by rfl, ?hyd5⟩) (by assumption) ?hrd5
    case hyd5 => (intro wt hSw; (try dsimp only at hSw); go_simp; try (with_reducible rfl))
    try simp only [Act.put, List.setIfInBounds_toArray, List.set_cons_zero, List.set_cons_succ]
    refine wpAnyH_take (i := 6) (v := ?hvd6) (List.getElem?_toArray.trans rfl) (by kernel_rfl) (by kernel_rfl) (by kernel_rfl) (fun _ _ _ h => h) (Or.inl ⟨by rfl, ?hyd6⟩) (by assumption) ?hrd6
    case hyd6 => (intro wt hSw; (try dsimp only at hSw); go_simp; try (with_reducible rfl))
    try simp only [Act.put, List.setIfInBounds_toArray, List.set_cons_zero, List.set_cons_succ]
    refine wpAnyH_ready (rs := [7]) (by kernel_rfl) (by simp) ?_
    refine AllReadyH.cons (List.getElem?_toArray.trans rfl) (fun K hK => ?_) AllReadyH.nil
    go_simp
    skip
    refine hK.out _ _ ?_ (fun hHeld => ?_)
    · (try dsimp only)
      assumption
    clear hK K
    try simp only [Act.put, List.setIfInBounds_toArray, List.set_cons_zero, List.set_cons_succ]
    refine wpAnyH_done (by kernel_rfl) ?_ _
    refine NoPanic.normal ?_
    clear S3 S6 hHeld
    go_wp2_with fail
    refine HF7.out.mono ?_
    rintro e w7 ⟨rfl, b7⟩
    have F := Lib.hid (Fin.out w7 b7)
    clear b7
    go_wp2
    go_ret
    exact ⟨rfl, F.out⟩
end Go.Proofs.YtflghelhdalhiaaGreatDoor
