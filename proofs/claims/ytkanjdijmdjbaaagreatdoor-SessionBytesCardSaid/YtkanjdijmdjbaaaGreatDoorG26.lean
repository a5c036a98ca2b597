/-
  What the law's 'sure' of tables calls, first part: New, a node's used, an answer told, Clone, Tree.
  Conditions: none but those that the theorems' lines name.
  What the law's 'sure' of tables calls, second part: adds, order.Do, open, ask, Apply.
  What the law's 'sure' of tables calls, third part: open, ask, Apply.
-/
import Derived.Test.YtkanjdijmdjbaaaGreatDoorG25
import Derived.Test.YtkanjdijmdjbaaaGreatDoorG22
namespace Go.Proofs.YtkanjdijmdjbaaaGreatDoor
open Go Go.RowKit

theorem fullQ_of {N : List QT.Nd} {U : List QT.Us} (h1 : N.Pairwise (fun a b => Op.bytesLess a.nm b.nm = true)) (h2 : U.Pairwise (fun a b => Op.bytesLess a.id b.id = true)) (h3 : ∀ x ∈ N, QT.fineNd x) (h4 : ∀ x ∈ U, QT.fineUs x)
    (h5 : N.length ≤ 256) (h6 : U.length ≤ 1024) (h7 : ∀ x ∈ N, x.nm ≠ []) (h8 : QT.rootedB N = true) (h9 : ∀ u ∈ U, ∃ n ∈ N, n.nm = u.nd) : FullQ N U := by
  have hR : RiseQ N U := ⟨h1, h2, h3, h4, h5, h6⟩
  refine ⟨hR, ⟨h7, fun a ha b hb e => QT.rises_un QT.Nd.nm N h1 a ha b hb e, ?_⟩, (QT.rootedB_iff N).1 h8, h9⟩
  exact h1.imp (fun {a b} q e => by rw [e, QT.less_irr] at q; cases q)
def qz : QT.Nd := ⟨[114], [], 0, 0, 0, 0, 0, 0⟩
theorem qZ1 : FullQ [qz] [] := fullQ_of (by decide) (by decide) (by unfold QT.fineNd QT.cap; decide) (by unfold QT.fineUs QT.cap; decide) (by decide) (by decide) (by decide) (by decide) (by decide)
theorem qZf : QT.fitsB [qz] [] = true := by decide
theorem qZt1 : QT.Total [qz] QT.Nd.o1 qz.nm = 0 := by decide
theorem qZt2 : QT.Total [qz] QT.Nd.o2 qz.nm = 0 := by decide
theorem qZu1 : QT.Used [qz] [] QT.Us.a1 qz.nm = 0 := by decide
theorem qZu2 : QT.Used [qz] [] QT.Us.a2 qz.nm = 0 := by decide
/-- A TABLE OF THE CALL's OWN. -/
structure TabD (w : World) (TB mb T bn bu n k : Nat) (N : List QT.Nd) (L : List QT.Sn) : Prop where
  tb : w.heap[TB]? = some (.cells #[.pointer (some ⟨T, 0, none⟩), .map (some mb)] 69)
  tr : TreeD w T bn bu true true n 0 N []
  mp : MapI true w mb k L
  ne : TB ≠ mb ∧ TB ≠ bn ∧ mb ≠ T ∧ mb ≠ bn ∧ mb ≠ bu
theorem TabD.below {w w' : World} {TB mb T bn bu n k : Nat} {N : List QT.Nd} {L : List QT.Sn} (h : TabD w TB mb T bn bu n k N L) (f : Below w.heap.size w w') : TabD w' TB mb T bn bu n k N L :=
  ⟨(f.block TB (Array.getElem?_eq_some_iff.1 h.tb).1).trans h.tb, h.tr.below f, h.mp.below f, h.ne⟩
set_option maxRecDepth 100000 in
set_option maxHeartbeats 4000000 in
/-- New. -/
theorem newS_any (w : World) :
    Calls Tryz.prog 10 #[] w fun e w' => ∃ TB mb T bn bu, e = .returned (.pointer (some ⟨TB, 0, none⟩)) ∧ TabD w' TB mb T bn bu 0 0 [] [] ∧ (w.heap.size ≤ TB ∧ w.heap.size ≤ mb ∧ w.heap.size ≤ T ∧ w.heap.size ≤ bn ∧ w.heap.size ≤ bu) ∧ Below w.heap.size w w' := by
  have hmm := @run_makeMap Tryz.prog
  have H0 := Lib.hid (newQ_any w)
  go_enter Tryz.func10, Tryz.ntmps10
  go_wp2_with fail
  refine H0.out.mono ?_
  rintro e w1 ⟨rfl, t1, b1⟩
  have t2 := t1 true true
  have hT : w.heap.size + 1 + 1 < w1.heap.size := (Array.getElem?_eq_some_iff.1 t2.tb).1
  obtain ⟨W, hW⟩ : ∃ W, W = (w1.alloc (.map #[] 0)).alloc (.cells #[.pointer (some ⟨w.heap.size + 1 + 1, 0, none⟩), .map (some w1.heap.size)] 69) := ⟨_, rfl⟩
  have f1 : Below w1.heap.size w1 W := by rw [hW]; exact ((Below.refl _ _).alloc (Nat.le_refl _) _).alloc (by simp) _
  have f2 : Below (w1.alloc (.map #[] 0)).heap.size (w1.alloc (.map #[] 0)) W := by rw [hW]; exact (Below.refl _ _).alloc (Nat.le_refl _) _
  have g : W.heap[w1.heap.size + 1]? = some (.cells #[.pointer (some ⟨w.heap.size + 1 + 1, 0, none⟩), .map (some w1.heap.size)] 69) := by
    rw [hW]
    exact (by simp : w1.heap.size + 1 = (w1.alloc _).heap.size) ▸ heap_alloc_new _ _
  have Fin := Lib.hid (⟨⟨g, t2.below f1, (MapI.made w1).below f2, by omega, by omega, by omega, by omega, by omega⟩, ⟨by omega, by omega, by omega, by omega, by omega⟩, b1.trans (f1.mono b1.size)⟩ :
    TabD W (w1.heap.size + 1) w1.heap.size (w.heap.size + 1 + 1) w.heap.size (w.heap.size + 1) 0 0 [] [] ∧ (w.heap.size ≤ w1.heap.size + 1 ∧ w.heap.size ≤ w1.heap.size ∧ w.heap.size ≤ w.heap.size + 1 + 1 ∧ w.heap.size ≤ w.heap.size ∧ w.heap.size ≤ w.heap.size + 1) ∧ Below w.heap.size w W)
  have HW := Lib.hid hW.symm
  clear hW f1 f2 g t1 t2 b1 hT H0
  go_wp2
  go_ret
  rw [HW.out]
  exact ⟨_, _, _, _, _, rfl, Fin.out⟩
set_option maxRecDepth 100000 in
set_option maxHeartbeats 4000000 in
/-- What is used at a node that is there. -/
theorem used_any (T bn bu n m : Nat) (N : List QT.Nd) (U : List QT.Us) (x : QT.Nd) (w : World) (hT : TreeQ w T bn bu n m N U) (hF : FullQ N U) (hx : x ∈ N) :
    Calls Tryz.prog 155 #[.pointer (some ⟨T, 0, none⟩), .string (str x.nm)] w fun e w' => e = .returned (.tuple #[.complex .f64 (FL.fB (QT.Used N U QT.Us.a1 x.nm)) (FL.fB (QT.Used N U QT.Us.a2 x.nm)), .nilIface]) ∧ Below w.heap.size w w' := by
  have hstc := @run_store_complex Tryz.prog
  have HN := Lib.hid (node_any T bn bu n m N U x x.nm w hT (hF.rise.good.fnd hx) (by have := (hF.rise.fN x hx).1.1; omega))
  have HS : Hid (∀ V, Below w.heap.size w V → Calls Tryz.prog 96 #[.pointer (some ⟨T, 0, none⟩), .string (str x.nm)] V fun e w' =>
      e = .returned (.tuple #[.complex .f64 (FL.fB (QT.Total N QT.Nd.o1 x.nm)) (FL.fB (QT.Total N QT.Nd.o2 x.nm)), .complex .f64 (FL.fB (QT.Used N U QT.Us.a1 x.nm)) (FL.fB (QT.Used N U QT.Us.a2 x.nm))]) ∧ Below V.heap.size V w') := Lib.hid (fun V b => sums_any N U hF T bn bu n m (N.length + 1) x V hx (by omega) (hT.below b))
  clear hT hF hx
  go_enter Tryz.func155, Tryz.ntmps155
  go_wp2_with fail
  refine HN.out.mono ?_
  rintro e w1 ⟨rfl, b1⟩
  obtain ⟨W, hW⟩ : ∃ W, W = w1.alloc (.cells #[.string (str x.nm), .string (str x.pr), .complex .f64 (FL.fB x.o1) (FL.fB x.o2), .complex .f64 (FL.fB x.b1) (FL.fB x.b2), .complex .f64 (FL.fB x.l1) (FL.fB x.l2)] 50) := ⟨_, rfl⟩
  have bW : Below w.heap.size w W := by rw [hW]; exact b1.trans ((Below.refl _ _).alloc b1.size _)
  have BW := Lib.hid bW
  have HW := Lib.hid hW.symm
  have HS1 := Lib.hid (HS.out W bW)
  clear hW bW b1 HN HS
  go_wp2_with (rw [HW.out])
  refine HS1.out.mono ?_
  rintro e w2 ⟨rfl, b2⟩
  have B2 := Lib.hid (BW.out.trans (b2.mono BW.out.size))
  clear b2
  go_wp2
  go_ret2
  exact ⟨rfl, B2.out⟩
set_option maxHeartbeats 1000000 in
/-- No error's number. -/
theorem number_nil (w : World) :
    Calls Tryz.prog 127 #[.nilIface] w fun e w' => e = .returned (.int .i64 0) ∧ Below w.heap.size w w' := by
  go_enter Tryz.func127, Tryz.ntmps127
  go_wp2
  go_ret
  exact ⟨rfl, (Below.refl _ _).alloc (Nat.le_refl _) _⟩
set_option maxRecDepth 100000 in
set_option maxHeartbeats 4000000 in
/-- What is told of the one node. -/
theorem tells_z (T bn bu n : Nat) (w : World) (hT : TreeQ w T bn bu n 0 [qz] []) :
    Calls Tryz.prog 125 #[.pointer (some ⟨T, 0, none⟩), .string ⟨#[114]⟩, .nilIface] w fun e w' => e = .returned (.agg #[.int .i64 0, .complex .f64 0 0, .complex .f64 0 0]) ∧ Below w.heap.size w w' := by
  have hstc := @run_store_complex Tryz.prog
  obtain ⟨W0, hW0⟩ : ∃ W, W = w.alloc (.cells #[.int .i64 0, .complex .f64 0 0, .complex .f64 0 0] 45) := ⟨_, rfl⟩
  have b0 : Below w.heap.size w W0 := by rw [hW0]; exact (Below.refl _ _).alloc (Nat.le_refl _) _
  have g0 : W0.heap[w.heap.size]? = some (.cells #[.int .i64 0, .complex .f64 0 0, .complex .f64 0 0] 45) := by rw [hW0]; exact heap_alloc_new _ _
  have C1 : Hid (∀ V, Below w.heap.size w V → Calls Tryz.prog 155 #[.pointer (some ⟨T, 0, none⟩), .string ⟨#[114]⟩] V fun e w' => e = .returned (.tuple #[.complex .f64 0 0, .nilIface]) ∧ Below V.heap.size V w') := Lib.hid (fun V b => by
    have h := used_any T bn bu n 0 [qz] [] qz V (hT.below b) qZ1 (by simp)
    rw [qZu1, qZu2, fB_zero] at h
    exact h)
  have C2 : Hid (∀ V, Below w.heap.size w V → Calls Tryz.prog 156 #[.pointer (some ⟨T, 0, none⟩), .string ⟨#[114]⟩] V fun e w' => e = .returned (.tuple #[.complex .f64 0 0, .nilIface]) ∧ Below V.heap.size V w') := Lib.hid (fun V b => by
    have h := total_any T bn bu n 0 [qz] [] qz V (hT.below b) qZ1 (by simp)
    rw [qZt1, qZt2, fB_zero] at h
    exact h)
  have B0 := Lib.hid b0
  have G0 := Lib.hid g0
  have HW0 := Lib.hid hW0.symm
  clear hT hW0 b0 g0
  go_enter Tryz.func125, Tryz.ntmps125
  go_wp2_with fail
  rw [HW0.out]
  clear HW0
  refine (C1.out W0 B0.out).mono ?_
  rintro e w1 ⟨rfl, b1⟩
  have B1 := Lib.hid (B0.out.trans (b1.mono B0.out.size))
  have G1 := Lib.hid ((b1.block _ (Array.getElem?_eq_some_iff.1 G0.out).1).trans G0.out)
  clear C1 b1 B0 G0
  go_wp2_with fail
  refine (C2.out w1 B1.out).mono ?_
  rintro e w2 ⟨rfl, b2⟩
  have B2 := Lib.hid (B1.out.trans (b2.mono B1.out.size))
  have G2 := Lib.hid ((b2.block _ (Array.getElem?_eq_some_iff.1 G1.out).1).trans G1.out)
  clear C2 b2 B1 G1
  go_wp2_with fail
  refine (number_nil w2).mono ?_
  rintro e w3 ⟨rfl, b3⟩
  have b30 := B2.out.trans (b3.mono B2.out.size)
  have g3 := (b3.block _ (Array.getElem?_eq_some_iff.1 G2.out).1).trans G2.out
  obtain ⟨⟨z0, z1, z2⟩, f0, f1, f2⟩ := cells3f g3
  obtain ⟨w6, hw6⟩ : ∃ W, W = (((w3.setCell ⟨w.heap.size, 0, none⟩ (.int .i64 0)).setCell ⟨w.heap.size, 1, none⟩ (.complex .f64 0 0)).setCell ⟨w.heap.size, 2, none⟩ (.complex .f64 0 0)) := ⟨_, rfl⟩
  have g6 : w6.heap[w.heap.size]? = some (.cells #[.int .i64 0, .complex .f64 0 0, .complex .f64 0 0] 45) := by rw [hw6]; exact stored3s g3 _ _ _
  have b6 : Below w.heap.size w w6 := by rw [hw6]; exact belowSet b30 (fr3s w3 _ _ _ _) (Nat.le_refl _)
  have EW := Lib.hid (cells3f g6).1
  have Fin := Lib.hid b6
  have HW6 := Lib.hid hw6.symm
  clear hw6 g6 b6 g3 b30 b3 B2 G2
  go_wp2_with (rw [HW6.out]; obtain ⟨e0', e1, e2⟩ := EW.out; refine bodyPost_ret (v := .agg #[.int .i64 0, .complex .f64 0 0, .complex .f64 0 0]) (by simp [results, Tryz.results125, go_sem, e0', e1, e2]) rfl ?_; exact ⟨rfl, Fin.out⟩)
theorem cloneN_any (bn n : Nat) (N : List QT.Nd) (V : World) (h : MapD QT.Nd.nm vNd true V bn n N) :
    Calls Tryz.prog 90 #[.map (some bn)] V fun e w' => e = .returned (.map (some V.heap.size)) ∧ MapD QT.Nd.nm vNd true w' V.heap.size n N ∧ Below V.heap.size V w' := by
  obtain ⟨D, ho, hr⟩ := h
  have hc := AnyW.maps_Clone_owns Tryz.layCN _ _ bn n D V ho
  exact hc.mono fun e w' ⟨h1, h2, _, h4⟩ => ⟨h1, ⟨D, h2, hr⟩, h4⟩
theorem cloneU_any (bu m : Nat) (U : List QT.Us) (V : World) (h : MapD QT.Us.id vUs true V bu m U) :
    Calls Tryz.prog 91 #[.map (some bu)] V fun e w' => e = .returned (.map (some V.heap.size)) ∧ MapD QT.Us.id vUs true w' V.heap.size m U ∧ Below V.heap.size V w' := by
  obtain ⟨D, ho, hr⟩ := h
  have hc := AnyW.maps_Clone_owns Tryz.layCU _ _ bu m D V ho
  exact hc.mono fun e w' ⟨h1, h2, _, h4⟩ => ⟨h1, ⟨D, h2, hr⟩, h4⟩
set_option maxRecDepth 100000 in
set_option maxHeartbeats 4000000 in
/-- Clone. -/
theorem cloneT_any (T bn bu n m : Nat) (N : List QT.Nd) (U : List QT.Us) (w : World) (hT : TreeQ w T bn bu n m N U) :
    Calls Tryz.prog 44 #[.pointer (some ⟨T, 0, none⟩)] w fun e w' => ∃ T' bn' bu', e = .returned (.pointer (some ⟨T', 0, none⟩)) ∧ TreeQ w' T' bn' bu' n m N U ∧ Below w.heap.size w w' := by
  have cont : Hid (∀ V, Below w.heap.size w V → (V.cell? ⟨T, 0, none⟩ = some (.map (some bn)) ∧ V.cell? ⟨T, 1, none⟩ = some (.map (some bu)))) := Lib.hid (fun V b => by
    obtain ⟨t0, t1, _, _⟩ := cells2 (hT.below b).tb
    exact ⟨t0, t1⟩)
  have S0 := cont.out w.drew (Below.refl _ _).drew
  have C0 := Lib.hid (cloneN_any bn n N w.drew (hT.below (Below.refl _ _).drew).mN)
  have C1 : Hid (∀ V, Below w.heap.size w V → Calls Tryz.prog 91 #[.map (some bu)] V fun e w' => e = .returned (.map (some V.heap.size)) ∧ MapD QT.Us.id vUs true w' V.heap.size m U ∧ Below V.heap.size V w') := Lib.hid (fun V b => cloneU_any bu m U V (hT.below b).mU)
  obtain ⟨t0, t1, _, _⟩ := cells2 hT.tb
  clear hT
  go_enter Tryz.func44, Tryz.ntmps44
  go_wp2_with fail
  refine wp_region_noPanic ?_
  refine wp_region_held_drew (S := fun V => (V.cell? ⟨T, 0, none⟩ = some (.map (some bn)) ∧ V.cell? ⟨T, 1, none⟩ = some (.map (some bu)))) (by kernel_rfl) S0 (fun hHeld => ?_)
  refine rTk 0 ?_; try simp only [Act.put, rP1, rP2, rP3]
  refine rTk 1 ?_; try simp only [Act.put, rP1, rP2, rP3]
  refine rTk 2 ?_; try simp only [Act.put, rP1, rP2, rP3]
  refine rTk 3 ?_; try simp only [Act.put, rP1, rP2, rP3]
  refine rTk 5 ?_; try simp only [Act.put, rP1, rP2, rP3]
  refine rTk 6 ?_; try simp only [Act.put, rP1, rP2, rP3]
  refine rTk 7 ?_; try simp only [Act.put, rP1, rP2, rP3]
  refine rTk 8 ?_; try simp only [Act.put, rP1, rP2, rP3]
  refine rBr 4 fun K hK => ?_
  go_simp
  go_at_call 90
  refine C0.out.mono ?_
  rintro e v1 ⟨rfl, m1, b1⟩
  have B1 : Below w.heap.size w v1 := (Below.refl w.heap.size w).drew.trans b1
  have S1 := cont.out v1 B1
  have C1' := Lib.hid (C1.out v1 B1)
  clear C0 S0 C1 b1
  try (go_wp2_with fail)
  refine hK.out _ _ (by (try dsimp only); assumption) (fun hHeld => ?_)
  clear hK K
  try simp only [Act.put, rP1, rP2, rP3]
  refine rBr 9 fun K hK => ?_
  go_simp
  go_at_call 91
  refine C1'.out.mono ?_
  rintro e v2 ⟨rfl, m2, b2⟩
  have B2 := B1.trans (b2.mono B1.size)
  have S2 := cont.out v2 B2
  have M1 := Lib.hid (m1.below b2)
  have M2 := Lib.hid m2
  have S3 := cont.out (v2.alloc (.cells #[.map (some w.heap.size), .map (some v1.heap.size)] 121)) (B2.alloc B2.size _)
  have HB2 := Lib.hid B2
  clear C1' S1 B1 b2 m1 m2 B2
  try (go_wp2_with fail)
  refine hK.out _ _ (by (try dsimp only); assumption) (fun hHeld => ?_)
  clear hK K
  try simp only [Act.put, rP1, rP2, rP3]
  refine rTk 10 ?_; try simp only [Act.put, rP1, rP2, rP3]
  refine rBr 11 fun K hK => ?_
  go_simp
  try (go_wp2_with fail)
  refine hK.out _ _ (by (try dsimp only); assumption) (fun hHeld => ?_)
  clear hK K
  try simp only [Act.put, rP1, rP2, rP3]
  refine rTk 12 ?_; try simp only [Act.put, rP1, rP2, rP3]
  refine wpAnyH_done (by kernel_rfl) ?_ _
  refine NoPanic.normal ?_
  obtain ⟨W, hW⟩ : ∃ W, W = v2.alloc (.cells #[.map (some w.heap.size), .map (some v1.heap.size)] 121) := ⟨_, rfl⟩
  have bW : Below v2.heap.size v2 W := by rw [hW]; exact (Below.refl _ _).alloc (Nat.le_refl _) _
  have Fin := Lib.hid (⟨⟨by rw [hW]; exact heap_alloc_new _ _, M1.out.below bW, M2.out.below bW⟩, HB2.out.trans (bW.mono HB2.out.size)⟩ : TreeQ W v2.heap.size w.heap.size v1.heap.size n m N U ∧ Below w.heap.size w W)
  have HW := Lib.hid hW.symm
  clear hW bW M1 M2 HB2 S2 S3 hHeld cont
  go_wp2
  go_ret
  rw [HW.out]
  exact ⟨_, _, _, rfl, Fin.out⟩
set_option maxRecDepth 100000 in
set_option maxHeartbeats 4000000 in
/-- Tree. -/
theorem treeS_any (TB mb T bn bu n k : Nat) (N : List QT.Nd) (L : List QT.Sn) (w : World) (hT : TabD w TB mb T bn bu n k N L) :
    Calls Tryz.prog 13 #[.pointer (some ⟨TB, 0, none⟩)] w fun e w' => ∃ T' bn' bu', e = .returned (.pointer (some ⟨T', 0, none⟩)) ∧ TreeQ w' T' bn' bu' n 0 N [] ∧ Below w.heap.size w w' := by
  have C1 := Lib.hid (cloneT_any T bn bu n 0 N [] w hT.tr.tree)
  obtain ⟨t0, t1, _, _⟩ := cells2 hT.tb
  clear hT
  go_enter Tryz.func13, Tryz.ntmps13
  go_wp2_with fail
  refine C1.out.mono ?_
  rintro e w' ⟨T', bn', bu', rfl, F⟩
  have HF := Lib.hid F
  clear F
  go_wp2
  go_ret
  exact ⟨_, _, _, rfl, HF.out⟩
theorem cells12 {W : World} {B : Nat} {x0 x1 x2 x3 x4 x5 x6 x7 x8 x9 x10 x11 : Value} {t : TypeId} (h : W.heap[B]? = some (.cells #[x0, x1, x2, x3, x4, x5, x6, x7, x8, x9, x10, x11] t)) : W.cell? ⟨B, 0, none⟩ = some x0 ∧ W.cell? ⟨B, 1, none⟩ = some x1 ∧ W.cell? ⟨B, 2, none⟩ = some x2 ∧ W.cell? ⟨B, 3, none⟩ = some x3 ∧ W.cell? ⟨B, 4, none⟩ = some x4 ∧ W.cell? ⟨B, 5, none⟩ = some x5 ∧ W.cell? ⟨B, 6, none⟩ = some x6 ∧ W.cell? ⟨B, 7, none⟩ = some x7 ∧ W.cell? ⟨B, 8, none⟩ = some x8 ∧ W.cell? ⟨B, 9, none⟩ = some x9 ∧ W.cell? ⟨B, 10, none⟩ = some x10 ∧ W.cell? ⟨B, 11, none⟩ = some x11 := by simp [World.cell?, h]
theorem froz12 {W : World} {B : Nat} {x0 x1 x2 x3 x4 x5 x6 x7 x8 x9 x10 x11 : Value} {t : TypeId} (h : W.heap[B]? = some (.cells #[x0, x1, x2, x3, x4, x5, x6, x7, x8, x9, x10, x11] t)) : W.frozen? ⟨B, 0, none⟩ = false ∧ W.frozen? ⟨B, 1, none⟩ = false ∧ W.frozen? ⟨B, 2, none⟩ = false ∧ W.frozen? ⟨B, 3, none⟩ = false ∧ W.frozen? ⟨B, 4, none⟩ = false ∧ W.frozen? ⟨B, 5, none⟩ = false ∧ W.frozen? ⟨B, 6, none⟩ = false ∧ W.frozen? ⟨B, 7, none⟩ = false ∧ W.frozen? ⟨B, 8, none⟩ = false ∧ W.frozen? ⟨B, 9, none⟩ = false ∧ W.frozen? ⟨B, 10, none⟩ = false ∧ W.frozen? ⟨B, 11, none⟩ = false := by simp [World.frozen?, h]
theorem stored12 {w : World} {M : Nat} {x0 x1 x2 x3 x4 x5 x6 x7 x8 x9 x10 x11 : Value} {t : TypeId} (h : w.heap[M]? = some (.cells #[x0, x1, x2, x3, x4, x5, x6, x7, x8, x9, x10, x11] t)) (y0 y1 y2 y3 y4 y5 y6 y7 y8 y9 y10 y11 : Value) : ((((((((((((w.setCell ⟨M, 0, none⟩ y0).setCell ⟨M, 1, none⟩ y1).setCell ⟨M, 2, none⟩ y2).setCell ⟨M, 3, none⟩ y3).setCell ⟨M, 4, none⟩ y4).setCell ⟨M, 5, none⟩ y5).setCell ⟨M, 6, none⟩ y6).setCell ⟨M, 7, none⟩ y7).setCell ⟨M, 8, none⟩ y8).setCell ⟨M, 9, none⟩ y9).setCell ⟨M, 10, none⟩ y10).setCell ⟨M, 11, none⟩ y11).heap[M]? = some (.cells #[y0, y1, y2, y3, y4, y5, y6, y7, y8, y9, y10, y11] t) := by
  simp only [World.setCell, Array.getElem?_modify, if_true, h, Option.map_some]
  simp
theorem fr12 (w : World) (M : Nat) (y0 y1 y2 y3 y4 y5 y6 y7 y8 y9 y10 y11 : Value) : Fr (fun j => j = M) w ((((((((((((w.setCell ⟨M, 0, none⟩ y0).setCell ⟨M, 1, none⟩ y1).setCell ⟨M, 2, none⟩ y2).setCell ⟨M, 3, none⟩ y3).setCell ⟨M, 4, none⟩ y4).setCell ⟨M, 5, none⟩ y5).setCell ⟨M, 6, none⟩ y6).setCell ⟨M, 7, none⟩ y7).setCell ⟨M, 8, none⟩ y8).setCell ⟨M, 9, none⟩ y9).setCell ⟨M, 10, none⟩ y10).setCell ⟨M, 11, none⟩ y11) := by
  iterate 12 refine Fr.setCell (X := fun j => j = M) ?_ (fun _ => rfl) _
  exact Fr.refl _ _
theorem Fr.own {X : Nat → Prop} {w V V' : World} {R : Nat} (h : Fr X w V) (f : Fr (fun j => j = R) V V') (hR : w.heap.size ≤ R) : Fr X w V' :=
  ⟨f.os.trans h.os, f.tape.trans h.tape, f.output.trans h.output, Nat.le_trans h.size f.size, fun k hk hx => (f.block k (Nat.lt_of_lt_of_le hk h.size) (by omega)).trans (h.block k hk hx)⟩
theorem TabD.kept {X : Nat → Prop} {w w' : World} {TB mb T bn bu n k : Nat} {N : List QT.Nd} {L : List QT.Sn} (h : TabD w TB mb T bn bu n k N L) (f : Fr X w w') (h1 : ¬ X TB) (h2 : ¬ X mb) (h3 : ¬ X T) (h4 : ¬ X bn) (h5 : ¬ X bu) : TabD w' TB mb T bn bu n k N L :=
  ⟨f.heap h.tb h1, h.tr.kept f h3 h4 h5, h.mp.kept f h2, h.ne⟩
def s1 : QT.Sn := ⟨1, 0, QT.rp0⟩
def s2 : QT.Sn := ⟨1, 1, ⟨0, 1, QT.an0⟩⟩
theorem s1_val : vSn s1 = .agg #[.int .i64 0, .int .i64 0, .int .i64 0, .int .i64 0, .complex .f64 0 0, .complex .f64 0 0] := by simp only [s1, vSn, QT.rp0, QT.an0, fB_zero]; rfl
theorem s2_val : vSn s2 = .agg #[.int .i64 1, .int .i64 0, .int .i64 1, .int .i64 0, .complex .f64 0 0, .complex .f64 0 0] := by simp only [s2, vSn, QT.an0, fB_zero]; rfl
set_option maxRecDepth 100000 in
set_option maxHeartbeats 4000000 in
/-- adds. -/
theorem adds_z (w : World) :
    Calls Tryz.prog 12 #[.int .i64 1, .int .i64 1, .string ⟨#[114]⟩] w fun e w' => e = .returned (.agg #[.int .i64 3, .int .i64 1, .int .i64 1, .int .i64 4, .string ⟨#[114]⟩, .string ⟨#[]⟩, .complex .f64 0 0, .complex .f64 0 0, .complex .f64 0 0, .string ⟨#[]⟩, .string ⟨#[]⟩, .complex .f64 0 0]) ∧ Below w.heap.size w w' := by
  have hstc := @run_store_complex Tryz.prog
  obtain ⟨W0, hW0⟩ : ∃ W, W = w.alloc (.cells #[.int .i64 0, .int .i64 0, .int .i64 0, .int .i64 0, .string ⟨#[]⟩, .string ⟨#[]⟩, .complex .f64 0 0, .complex .f64 0 0, .complex .f64 0 0, .string ⟨#[]⟩, .string ⟨#[]⟩, .complex .f64 0 0] 56) := ⟨_, rfl⟩
  have b0 : Below w.heap.size w W0 := by rw [hW0]; exact (Below.refl _ _).alloc (Nat.le_refl _) _
  have g0 : W0.heap[w.heap.size]? = some (.cells #[.int .i64 0, .int .i64 0, .int .i64 0, .int .i64 0, .string ⟨#[]⟩, .string ⟨#[]⟩, .complex .f64 0 0, .complex .f64 0 0, .complex .f64 0 0, .string ⟨#[]⟩, .string ⟨#[]⟩, .complex .f64 0 0] 56) := by rw [hW0]; exact heap_alloc_new _ _
  obtain ⟨d0, d1, d2, d3, d4, d5, d6, d7, d8, d9, d10, d11⟩ := cells12 g0
  obtain ⟨q0, q1, q2, q3, q4, q5, q6, q7, q8, q9, q10, q11⟩ := froz12 g0
  obtain ⟨w6, hw6⟩ : ∃ W, W = ((((((((((((W0.setCell ⟨w.heap.size, 0, none⟩ (.int .i64 3)).setCell ⟨w.heap.size, 1, none⟩ (.int .i64 1)).setCell ⟨w.heap.size, 2, none⟩ (.int .i64 1)).setCell ⟨w.heap.size, 3, none⟩ (.int .i64 4)).setCell ⟨w.heap.size, 4, none⟩ (.string ⟨#[114]⟩)).setCell ⟨w.heap.size, 5, none⟩ (.string ⟨#[]⟩)).setCell ⟨w.heap.size, 6, none⟩ (.complex .f64 0 0)).setCell ⟨w.heap.size, 7, none⟩ (.complex .f64 0 0)).setCell ⟨w.heap.size, 8, none⟩ (.complex .f64 0 0)).setCell ⟨w.heap.size, 9, none⟩ (.string ⟨#[]⟩)).setCell ⟨w.heap.size, 10, none⟩ (.string ⟨#[]⟩)).setCell ⟨w.heap.size, 11, none⟩ (.complex .f64 0 0)) := ⟨_, rfl⟩
  have g6 : w6.heap[w.heap.size]? = some (.cells #[.int .i64 3, .int .i64 1, .int .i64 1, .int .i64 4, .string ⟨#[114]⟩, .string ⟨#[]⟩, .complex .f64 0 0, .complex .f64 0 0, .complex .f64 0 0, .string ⟨#[]⟩, .string ⟨#[]⟩, .complex .f64 0 0] 56) := by rw [hw6]; exact stored12 g0 _ _ _ _ _ _ _ _ _ _ _ _
  have Fin : Hid (Below w.heap.size w w6) := Lib.hid (by rw [hw6]; exact belowSet b0 (fr12 W0 _ _ _ _ _ _ _ _ _ _ _ _ _) (Nat.le_refl _))
  have EW := Lib.hid (cells12 g6)
  have HW0 := Lib.hid hW0.symm
  have HW6 := Lib.hid hw6.symm
  clear hW0 hw6 g0 g6 b0
  go_enter Tryz.func12, Tryz.ntmps12
  go_wp2_with (first | rw [HW0.out] | (rw [HW6.out]; obtain ⟨e0, e1, e2, e3, e4, e5, e6, e7, e8, e9, e10, e11⟩ := EW.out; refine bodyPost_ret (v := .agg #[.int .i64 3, .int .i64 1, .int .i64 1, .int .i64 4, .string ⟨#[114]⟩, .string ⟨#[]⟩, .complex .f64 0 0, .complex .f64 0 0, .complex .f64 0 0, .string ⟨#[]⟩, .string ⟨#[]⟩, .complex .f64 0 0]) (by simp [results, Tryz.results12, go_sem, e0, e1, e2, e3, e4, e5, e6, e7, e8, e9, e10, e11]) rfl ?_; exact ⟨rfl, Fin.out⟩))
theorem cells9 {W : World} {B : Nat} {x0 x1 x2 x3 x4 x5 x6 x7 x8 : Value} {t : TypeId} (h : W.heap[B]? = some (.cells #[x0, x1, x2, x3, x4, x5, x6, x7, x8] t)) : W.cell? ⟨B, 0, none⟩ = some x0 ∧ W.cell? ⟨B, 1, none⟩ = some x1 ∧ W.cell? ⟨B, 2, none⟩ = some x2 ∧ W.cell? ⟨B, 3, none⟩ = some x3 ∧ W.cell? ⟨B, 4, none⟩ = some x4 ∧ W.cell? ⟨B, 5, none⟩ = some x5 ∧ W.cell? ⟨B, 6, none⟩ = some x6 ∧ W.cell? ⟨B, 7, none⟩ = some x7 ∧ W.cell? ⟨B, 8, none⟩ = some x8 := by simp [World.cell?, h]
set_option maxRecDepth 100000 in
set_option maxHeartbeats 8000000 in
/-- Do: the one node is added. -/
theorem do_z (T bn bu : Nat) (w : World) (hT : TreeD w T bn bu true true 0 0 [] []) :
    Calls Tryz.prog 89 #[.pointer (some ⟨T, 0, none⟩), .agg #[.int .i64 4, .string ⟨#[114]⟩, .string ⟨#[]⟩, .complex .f64 0 0, .complex .f64 0 0, .complex .f64 0 0, .string ⟨#[]⟩, .string ⟨#[]⟩, .complex .f64 0 0]] w fun e w' => e = .returned (.agg #[.int .i64 0, .complex .f64 0 0, .complex .f64 0 0]) ∧ TreeD w' T bn bu true true 1 0 [qz] [] ∧ Fr (fun j => j = bn) w w' := by
  have hstc := @run_store_complex Tryz.prog
  obtain ⟨W0, hW0⟩ : ∃ W, W = (w.alloc (.cells #[.int .i64 4, .string ⟨#[114]⟩, .string ⟨#[]⟩, .complex .f64 0 0, .complex .f64 0 0, .complex .f64 0 0, .string ⟨#[]⟩, .string ⟨#[]⟩, .complex .f64 0 0] 54)).alloc (.cells #[.int .i64 0, .complex .f64 0 0, .complex .f64 0 0] 45) := ⟨_, rfl⟩
  have b0 : Below w.heap.size w W0 := by rw [hW0]; exact ((Below.refl _ _).alloc (Nat.le_refl _) _).alloc (by simp) _
  have gB : W0.heap[w.heap.size]? = some (.cells #[.int .i64 4, .string ⟨#[114]⟩, .string ⟨#[]⟩, .complex .f64 0 0, .complex .f64 0 0, .complex .f64 0 0, .string ⟨#[]⟩, .string ⟨#[]⟩, .complex .f64 0 0] 54) := by
    rw [hW0, Below.heap_alloc _ _ _ (by simp)]
    exact heap_alloc_new _ _
  have gR : W0.heap[w.heap.size + 1]? = some (.cells #[.int .i64 0, .complex .f64 0 0, .complex .f64 0 0] 45) := by
    rw [hW0]
    exact (by simp : w.heap.size + 1 = (w.alloc _).heap.size) ▸ heap_alloc_new _ _
  have hTt : T < w.heap.size := (Array.getElem?_eq_some_iff.1 hT.tb).1
  have hbn := hT.mN.lt
  have hbu := hT.mU.lt
  have cont : Hid (∀ V : World, V.heap[w.heap.size]? = some (.cells #[.int .i64 4, .string ⟨#[114]⟩, .string ⟨#[]⟩, .complex .f64 0 0, .complex .f64 0 0, .complex .f64 0 0, .string ⟨#[]⟩, .string ⟨#[]⟩, .complex .f64 0 0] 54) → (V.cell? ⟨w.heap.size, 1, none⟩ = some (.string ⟨#[114]⟩) ∧ V.cell? ⟨w.heap.size, 2, none⟩ = some (.string ⟨#[]⟩) ∧ V.cell? ⟨w.heap.size, 3, none⟩ = some (.complex .f64 0 0) ∧ V.cell? ⟨w.heap.size, 4, none⟩ = some (.complex .f64 0 0) ∧ V.cell? ⟨w.heap.size, 5, none⟩ = some (.complex .f64 0 0))) := Lib.hid (fun V g => by
    obtain ⟨d0, d1, d2, d3, d4, d5, _⟩ := cells9 g
    exact ⟨d1, d2, d3, d4, d5⟩)
  have S0 := cont.out W0.drew gB
  have TW : TreeD W0.drew T bn bu true true 0 0 [] [] := hT.below b0.drew
  have C1 : Hid (Calls Tryz.prog 130 #[.pointer (some ⟨T, 0, none⟩), .agg #[.string ⟨#[114]⟩, .string ⟨#[]⟩, .complex .f64 0 0, .complex .f64 0 0, .complex .f64 0 0]] W0.drew fun e w' => e = .returned .nilIface ∧ TreeD w' T bn bu true true 1 0 [qz] [] ∧ Fr (fun j => j = bn) W0.drew w') := Lib.hid (by
    have h1 := addNode_any T bn bu 0 0 [] [qz] [] qz W0.drew TW (qZ1.rise.fN qz (by simp)) (by decide) (by decide) (.inr rfl) (by decide) (by decide) (fun s => rfl) rfl qZ1 qZf
    have h2 : Calls Tryz.prog 130 #[.pointer (some ⟨T, 0, none⟩), .agg #[.string ⟨#[114]⟩, .string ⟨#[]⟩, .complex .f64 (FL.fB 0) (FL.fB 0), .complex .f64 (FL.fB 0) (FL.fB 0), .complex .f64 (FL.fB 0) (FL.fB 0)]] W0.drew fun e w' => e = .returned .nilIface ∧ TreeD w' T bn bu true true 1 0 [qz] [] ∧ Fr (fun j => j = bn) W0.drew w' := h1
    rw [fB_zero] at h2
    exact h2)
  obtain ⟨d0, d1, d2, d3, d4, d5, d6, d7, d8⟩ := cells9 gB
  have Gb := Lib.hid gB
  have Gr := Lib.hid gR
  have B0 := Lib.hid b0
  have HW0 := Lib.hid hW0.symm
  have HL := Lib.hid (And.intro hTt (And.intro hbn hbu))
  clear hW0 b0 gB gR hT hTt hbn hbu TW
  go_enter Tryz.func89, Tryz.ntmps89
  go_upto_region 9 with (rw [HW0.out])
  clear HW0
  refine wp_region_noPanic ?_
  refine wp_region_held_drew (S := fun V => (V.cell? ⟨w.heap.size, 1, none⟩ = some (.string ⟨#[114]⟩) ∧ V.cell? ⟨w.heap.size, 2, none⟩ = some (.string ⟨#[]⟩) ∧ V.cell? ⟨w.heap.size, 3, none⟩ = some (.complex .f64 0 0) ∧ V.cell? ⟨w.heap.size, 4, none⟩ = some (.complex .f64 0 0) ∧ V.cell? ⟨w.heap.size, 5, none⟩ = some (.complex .f64 0 0))) (by kernel_rfl) S0 (fun hHeld => ?_)
  refine rTk 0 ?_; try simp only [Act.put, rP1, rP2, rP3]
  refine rTk 1 ?_; try simp only [Act.put, rP1, rP2, rP3]
  refine rTk 2 ?_; try simp only [Act.put, rP1, rP2, rP3]
  refine rTk 3 ?_; try simp only [Act.put, rP1, rP2, rP3]
  refine rTk 4 ?_; try simp only [Act.put, rP1, rP2, rP3]
  refine rTk 5 ?_; try simp only [Act.put, rP1, rP2, rP3]
  refine rTk 6 ?_; try simp only [Act.put, rP1, rP2, rP3]
  refine rBr 7 fun K hK => ?_
  go_simp
  go_at_call 130
  refine C1.out.mono ?_
  rintro e w1 ⟨rfl, t1, f1⟩
  have gb1 := f1.heap (w := W0.drew) Gb.out (by have := HL.out; omega)
  have Gr1 := Lib.hid (f1.heap (w := W0.drew) Gr.out (by have := HL.out; omega))
  have S1 := cont.out w1 gb1
  have Gb1 := Lib.hid gb1
  have C2 := Lib.hid (tells_z T bn bu 1 w1 t1.tree)
  have T1 := Lib.hid t1
  have F1 : Hid (Fr (fun j => j = bn) w w1) := Lib.hid ((Fr.of_below B0.out).trans (show Fr (fun j => j = bn) W0 w1 from ⟨f1.os, f1.tape, f1.output, f1.size, f1.block⟩))
  clear C1 S0 t1 f1 gb1
  try (go_wp2_with fail)
  refine hK.out _ _ (by (try dsimp only); assumption) (fun hHeld => ?_)
  clear hK K
  try simp only [Act.put, rP1, rP2, rP3]
  refine rBr 8 fun K hK => ?_
  go_simp
  go_at_call 125
  refine C2.out.mono ?_
  rintro e w2 ⟨rfl, b2⟩
  have gb2 := (b2.block _ (Array.getElem?_eq_some_iff.1 Gb1.out).1).trans Gb1.out
  have gr2 := (b2.block _ (Array.getElem?_eq_some_iff.1 Gr1.out).1).trans Gr1.out
  have S2 := cont.out w2 gb2
  obtain ⟨⟨z0, z1, z2⟩, q0, q1, q2⟩ := cells3f gr2
  obtain ⟨w6, hw6⟩ : ∃ W, W = (((w2.setCell ⟨w.heap.size + 1, 0, none⟩ (.int .i64 0)).setCell ⟨w.heap.size + 1, 1, none⟩ (.complex .f64 0 0)).setCell ⟨w.heap.size + 1, 2, none⟩ (.complex .f64 0 0)) := ⟨_, rfl⟩
  have f6 : Fr (fun j => j = w.heap.size + 1) w2 w6 := by rw [hw6]; exact fr3s w2 _ _ _ _
  have S3 := cont.out w6 (f6.heap gb2 (by omega))
  have EW := Lib.hid (cells3f (show w6.heap[w.heap.size + 1]? = some (.cells #[.int .i64 0, .complex .f64 0 0, .complex .f64 0 0] 45) by rw [hw6]; exact stored3s gr2 _ _ _)).1
  have hh := HL.out
  have Fin := Lib.hid (And.intro ((T1.out.below b2).kept f6 (by omega) (by omega) (by omega)) (Fr.own (F1.out.trans (Fr.of_below b2)) f6 (by omega)))
  have HW6 := Lib.hid hw6.symm
  clear C2 S1 b2 gb2 gr2 hw6 f6 hh T1 F1 Gb1 Gr1
  try (go_wp2_with fail)
  refine hK.out _ _ (by (try dsimp only); assumption) (fun hHeld => ?_)
  clear hK K
  try simp only [Act.put, rP1, rP2, rP3]
  refine rBr 9 fun K hK => ?_
  go_simp
  try (go_wp2_with fail)
  rw [HW6.out]
  refine hK.out _ _ (by (try dsimp only); assumption) (fun hHeld => ?_)
  clear hK K
  try simp only [Act.put, rP1, rP2, rP3]
  refine wpAnyH_done (by kernel_rfl) ?_ _
  refine NoPanic.normal ?_
  clear S2 S3 hHeld z0 z1 z2 q0 q1 q2 d0 d1 d2 d3 d4 d5 d6 d7 d8
  go_wp2_with (obtain ⟨e0', e1', e2'⟩ := EW.out; refine bodyPost_ret (v := .agg #[.int .i64 0, .complex .f64 0 0, .complex .f64 0 0]) (by simp [results, Tryz.results89, go_sem, e0', e1', e2']) rfl ?_; exact ⟨rfl, Fin.out⟩)
set_option maxRecDepth 100000 in
set_option maxHeartbeats 8000000 in
/-- open: the first session. -/
theorem open_z (TB mb T bn bu n : Nat) (N : List QT.Nd) (w : World) (hT : TabD w TB mb T bn bu n 0 N []) :
    Calls Tryz.prog 42 #[.pointer (some ⟨TB, 0, none⟩), .int .i64 1] w fun e w' => e = .returned (.agg #[.int .i64 0, .int .i64 1, .int .i64 0, .complex .f64 0 0, .complex .f64 0 0]) ∧ TabD w' TB mb T bn bu n 1 N [s1] ∧ Fr (fun j => j = mb) w w' := by
  have hstc := @run_store_complex Tryz.prog
  obtain ⟨W0, hW0⟩ : ∃ W, W = w.alloc (.cells #[.int .i64 0, .int .i64 0, .int .i64 0, .complex .f64 0 0, .complex .f64 0 0] 47) := ⟨_, rfl⟩
  have b0 : Below w.heap.size w W0 := by rw [hW0]; exact (Below.refl _ _).alloc (Nat.le_refl _) _
  have g0 : W0.heap[w.heap.size]? = some (.cells #[.int .i64 0, .int .i64 0, .int .i64 0, .complex .f64 0 0, .complex .f64 0 0] 47) := by rw [hW0]; exact heap_alloc_new _ _
  have hTB : TB < w.heap.size := (Array.getElem?_eq_some_iff.1 hT.tb).1
  have hmb := hT.mp.lt
  have hTt : T < w.heap.size := (Array.getElem?_eq_some_iff.1 hT.tr.tb).1
  have hbn := hT.tr.mN.lt
  have hbu := hT.tr.mU.lt
  have T0 := hT.below b0
  obtain ⟨t0, t1, _, _⟩ := cells2 T0.tb
  have hlen := fun ty => T0.mp.len Tryz.underlying67 ty
  simp only [List.length_nil] at hlen
  have hlk : (Instr.lookup 67 (.map (some mb)) (.int .i64 1) true).run Tryz.prog W0 = .ok (.tuple #[.agg #[.int .i64 0, .int .i64 0, .int .i64 0, .int .i64 0, .complex .f64 0 0, .complex .f64 0 0], .bool false]) W0 := T0.mp.lookOk Tryz.underlying67 (zeroSn W0) ⟨_, zSn_val⟩ 1 (by omega)
  obtain ⟨W1, hW1⟩ : ∃ W, W = W0.alloc (.cells #[.int .i64 0, .int .i64 0, .int .i64 0, .int .i64 0, .complex .f64 0 0, .complex .f64 0 0] 76) := ⟨_, rfl⟩
  have b1 : Below W0.heap.size W0 W1 := by rw [hW1]; exact (Below.refl _ _).alloc (Nat.le_refl _) _
  have T1 := T0.below b1
  obtain ⟨u0, u1, _, _⟩ := cells2 T1.tb
  obtain ⟨w6, hput, hm, hf⟩ := T1.mp.put Tryz.underlying67 (by omega) s1 (by decide) (ok' := true) (fun _ => ⟨rfl, rfl⟩)
  rw [s1_val] at hput
  have hput' : (Instr.mapUpdate 67 (.map (some mb)) (.int .i64 1) (.agg #[.int .i64 0, .int .i64 0, .int .i64 0, .int .i64 0, .complex .f64 0 0, .complex .f64 0 0])).run Tryz.prog W1 = .ok () w6 := hput
  have g1 := (b1.block _ (Array.getElem?_eq_some_iff.1 g0).1).trans g0
  have g6 := hf.heap g1 (by omega)
  have hne := T1.ne
  have T6 : TabD w6 TB mb T bn bu n 1 N [s1] := ⟨hf.heap T1.tb hne.1, T1.tr.kept hf (fun e => hne.2.2.1 e.symm) (fun e => hne.2.2.2.1 e.symm) (fun e => hne.2.2.2.2 e.symm), hm, hne⟩
  obtain ⟨⟨z0, z1, z2, z3, z4⟩, q0, q1, q2, q3, q4⟩ := cells5f g6
  obtain ⟨w8, hw8⟩ : ∃ W, W = (((((w6.setCell ⟨w.heap.size, 0, none⟩ (.int .i64 0)).setCell ⟨w.heap.size, 1, none⟩ (.int .i64 1)).setCell ⟨w.heap.size, 2, none⟩ (.int .i64 0)).setCell ⟨w.heap.size, 3, none⟩ (.complex .f64 0 0)).setCell ⟨w.heap.size, 4, none⟩ (.complex .f64 0 0)) := ⟨_, rfl⟩
  have f8 : Fr (fun j => j = w.heap.size) w6 w8 := by rw [hw8]; exact fr5s w6 _ _ _ _ _ _
  have g8 : w8.heap[w.heap.size]? = some (.cells #[.int .i64 0, .int .i64 1, .int .i64 0, .complex .f64 0 0, .complex .f64 0 0] 47) := by rw [hw8]; exact stored5 g6 _ _ _ _ _
  have Fin := Lib.hid (And.intro (T6.kept f8 (by omega) (by omega) (by omega) (by omega) (by omega)) (Fr.own (((Fr.of_below b0).trans (Fr.of_below b1)).trans hf) f8 (Nat.le_refl _)))
  have EW := Lib.hid (cells5f g8).1
  have HW0 := Lib.hid hW0.symm
  have HW1 := Lib.hid hW1.symm
  have HW8 := Lib.hid hw8.symm
  clear hW0 hW1 hw8 f8 g8 g6 T6 hne g1 hput hm hf T1 b1 T0 hT b0 g0 hTB hmb hTt hbn hbu
  go_enter Tryz.func42, Tryz.ntmps42
  go_upto_region 4 with (rw [HW0.out])
  rw [HW1.out]
  clear HW0 HW1 hlen hlk t0 t1
  go_wp2_with ((rw [HW8.out]; obtain ⟨e0', e1', e2', e3', e4'⟩ := EW.out; refine bodyPost_ret (v := .agg #[.int .i64 0, .int .i64 1, .int .i64 0, .complex .f64 0 0, .complex .f64 0 0]) (by simp [results, Tryz.results42, go_sem, e0', e1', e2', e3', e4']) rfl ?_; exact ⟨rfl, Fin.out⟩))
set_option maxRecDepth 100000 in
set_option maxHeartbeats 8000000 in
/-- Apply: open. -/
theorem apply_open (TB mb T bn bu n : Nat) (w : World) (hT : TabD w TB mb T bn bu n 0 [] []) :
    Calls Tryz.prog 11 #[.pointer (some ⟨TB, 0, none⟩), .int .i64 1, .agg #[.int .i64 1, .int .i64 0, .int .i64 0, .int .i64 0, .string ⟨#[]⟩, .string ⟨#[]⟩, .complex .f64 0 0, .complex .f64 0 0, .complex .f64 0 0, .string ⟨#[]⟩, .string ⟨#[]⟩, .complex .f64 0 0]] w fun e w' => e = .returned (.agg #[.int .i64 0, .int .i64 1, .int .i64 0, .complex .f64 0 0, .complex .f64 0 0]) ∧ TabD w' TB mb T bn bu n 1 [] [s1] ∧ Fr (fun j => j = mb ∨ j = bn) w w' := by
  have hstc := @run_store_complex Tryz.prog
  obtain ⟨W0, hW0⟩ : ∃ W, W = (w.alloc (.cells #[.int .i64 1, .int .i64 0, .int .i64 0, .int .i64 0, .string ⟨#[]⟩, .string ⟨#[]⟩, .complex .f64 0 0, .complex .f64 0 0, .complex .f64 0 0, .string ⟨#[]⟩, .string ⟨#[]⟩, .complex .f64 0 0] 56)).alloc (.cells #[.int .i64 0, .int .i64 0, .int .i64 0, .complex .f64 0 0, .complex .f64 0 0] 47) := ⟨_, rfl⟩
  have b0 : Below w.heap.size w W0 := by rw [hW0]; exact ((Below.refl _ _).alloc (Nat.le_refl _) _).alloc (by simp) _
  have gB : W0.heap[w.heap.size]? = some (.cells #[.int .i64 1, .int .i64 0, .int .i64 0, .int .i64 0, .string ⟨#[]⟩, .string ⟨#[]⟩, .complex .f64 0 0, .complex .f64 0 0, .complex .f64 0 0, .string ⟨#[]⟩, .string ⟨#[]⟩, .complex .f64 0 0] 56) := by
    rw [hW0, Below.heap_alloc _ _ _ (by simp)]
    exact heap_alloc_new _ _
  have gR : W0.heap[w.heap.size + 1]? = some (.cells #[.int .i64 0, .int .i64 0, .int .i64 0, .complex .f64 0 0, .complex .f64 0 0] 47) := by
    rw [hW0]
    exact (by simp : w.heap.size + 1 = (w.alloc _).heap.size) ▸ heap_alloc_new _ _
  have hTB : TB < w.heap.size := (Array.getElem?_eq_some_iff.1 hT.tb).1
  have hmb := hT.mp.lt
  have hTt : T < w.heap.size := (Array.getElem?_eq_some_iff.1 hT.tr.tb).1
  have hbn := hT.tr.mN.lt
  have hbu := hT.tr.mU.lt
  have T0 := hT.below b0
  have C1 := Lib.hid (open_z TB mb T bn bu n [] W0 T0)
  have c12 := cells12 gB
  have Gr := Lib.hid gR
  have B0 := Lib.hid b0
  have HW0 := Lib.hid hW0.symm
  have HL := Lib.hid (And.intro hTB (And.intro hmb (And.intro hTt (And.intro hbn hbu))))
  obtain ⟨d0, d1, d2, d3, d4, d5, d6, d7, d8, d9, d10, d11⟩ := c12
  clear hW0 b0 gB gR T0 hT hTB hmb hTt hbn hbu
  go_enter Tryz.func11, Tryz.ntmps11
  go_wp2_with (rw [HW0.out])
  clear HW0 d0 d1 d2 d3 d4 d5 d6 d7 d8 d9 d10 d11
  refine C1.out.mono ?_
  rintro e w1 ⟨rfl, t1, f1⟩
  have f0 : Fr (fun j => j = mb ∨ j = bn) w W0 := Fr.of_below B0.out
  have f1' : Fr (fun j => j = mb ∨ j = bn) W0 w1 := f1.mono (fun _ _ e => .inl e)
  have hgR : w1.heap[w.heap.size + 1]? = some (.cells #[.int .i64 0, .int .i64 0, .int .i64 0, .complex .f64 0 0, .complex .f64 0 0] 47) := f1'.heap Gr.out (by have := HL.out; omega)
  obtain ⟨⟨z0, z1, z2, z3, z4⟩, q0, q1, q2, q3, q4⟩ := cells5f hgR
  obtain ⟨w6, hw6⟩ : ∃ W, W = (((((w1.setCell ⟨w.heap.size + 1, 0, none⟩ (.int .i64 0)).setCell ⟨w.heap.size + 1, 1, none⟩ (.int .i64 1)).setCell ⟨w.heap.size + 1, 2, none⟩ (.int .i64 0)).setCell ⟨w.heap.size + 1, 3, none⟩ (.complex .f64 0 0)).setCell ⟨w.heap.size + 1, 4, none⟩ (.complex .f64 0 0)) := ⟨_, rfl⟩
  have f6 : Fr (fun j => j = w.heap.size + 1) w1 w6 := by rw [hw6]; exact fr5s w1 _ _ _ _ _ _
  have g6 : w6.heap[w.heap.size + 1]? = some (.cells #[.int .i64 0, .int .i64 1, .int .i64 0, .complex .f64 0 0, .complex .f64 0 0] 47) := by rw [hw6]; exact stored5 hgR _ _ _ _ _
  have EW := Lib.hid (cells5f g6).1
  have hh := HL.out
  have Fin := Lib.hid (⟨t1.kept f6 (by omega) (by omega) (by omega) (by omega) (by omega), Fr.own (f0.trans f1') f6 (by omega)⟩ : TabD w6 TB mb T bn bu n 1 [] [s1] ∧ Fr (fun j => j = mb ∨ j = bn) w w6)
  have HW6 := Lib.hid hw6.symm
  clear hw6 f6 g6 hh hgR f1' f0 t1 C1 Gr B0 HL
  go_wp2_with (rw [HW6.out]; obtain ⟨e0', e1', e2', e3', e4'⟩ := EW.out; refine bodyPost_ret (v := .agg #[.int .i64 0, .int .i64 1, .int .i64 0, .complex .f64 0 0, .complex .f64 0 0]) (by simp [results, Tryz.results11, go_sem, e0', e1', e2', e3', e4']) rfl ?_; exact ⟨rfl, Fin.out⟩)
end Go.Proofs.YtkanjdijmdjbaaaGreatDoor
