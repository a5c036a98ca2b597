/-
  The program's Node, (Node).may and Total.
  Conditions: the tree's maps hold the lists' (TreeQ); the node is there.
  The program's AddNode, where the node can be added.
  Conditions: the tree's maps hold the lists'; the name and the amounts are such, the name is new, the parent is there, the tree has room and fits with the node.
-/
import Derived.Test.YtkanjdijmdjbaaaGreatDoorG17
import Derived.Test.YtkanjdijmdjbaaaGreatDoorG18
import Derived.Test.YtkanjdijmdjbaaaGreatDoorDecP
namespace Go.Proofs.YtkanjdijmdjbaaaGreatDoor
open Go Go.RowKit

set_option maxRecDepth 100000 in
set_option maxHeartbeats 2000000 in
/-- A node's amounts are such. -/
theorem nodeMay_any (x : QT.Nd) (w : World) (hx : QT.fineNd x) :
    Calls Tryz.prog 158 #[.agg #[.string (str x.nm), .string (str x.pr), .complex .f64 (FL.fB x.o1) (FL.fB x.o2), .complex .f64 (FL.fB x.b1) (FL.fB x.b2), .complex .f64 (FL.fB x.l1) (FL.fB x.l2)]] w fun e w' => e = .returned (.bool true) ∧ Below w.heap.size w w' := by
  obtain ⟨_, f3, f4, f5, f6, f7, f8⟩ := hx
  simp only [QT.cap] at f3 f4 f5 f6 f7 f8
  obtain ⟨W, hW⟩ : ∃ W, W = w.alloc (.cells #[.string (str x.nm), .string (str x.pr), .complex .f64 (FL.fB x.o1) (FL.fB x.o2), .complex .f64 (FL.fB x.b1) (FL.fB x.b2), .complex .f64 (FL.fB x.l1) (FL.fB x.l2)] 50) := ⟨_, rfl⟩
  have bW : Below w.heap.size w W := by rw [hW]; exact (Below.refl _ _).alloc (Nat.le_refl _) _
  have BW := Lib.hid bW
  have gW : W.heap[w.heap.size]? = some (.cells #[.string (str x.nm), .string (str x.pr), .complex .f64 (FL.fB x.o1) (FL.fB x.o2), .complex .f64 (FL.fB x.b1) (FL.fB x.b2), .complex .f64 (FL.fB x.l1) (FL.fB x.l2)] 50) := by rw [hW]; exact heap_alloc_new _ _
  obtain ⟨⟨z0, z1, z2, z3, z4⟩, _⟩ := cells5f gW
  have M : ∀ a b : Nat, a ≤ 1099511627776 → b ≤ 1099511627776 → Hid (Calls Tryz.prog 97 #[.complex .f64 (FL.fB a) (FL.fB b)] W fun e w' => e = .returned (.bool true) ∧ W = w') := fun a b ha hb => Lib.hid (by
    have := mayQ_any a b W (by omega) (by omega)
    rw [decide_eq_true (show a ≤ 1099511627776 ∧ b ≤ 1099511627776 from ⟨ha, hb⟩)] at this
    exact this)
  have M1 := M _ _ f3 f4
  have M2 := M _ _ f5 f6
  have M3 := M _ _ f7 f8
  clear M f3 f4 f5 f6 f7 f8 gW bW
  go_enter Tryz.func158, Tryz.ntmps158
  go_wp2_with (rw [← hW])
  clear hW
  go_wp2_with fail
  refine M1.out.mono ?_
  rintro e w1 ⟨rfl, rfl⟩
  go_wp2_with fail
  refine M2.out.mono ?_
  rintro e w1 ⟨rfl, rfl⟩
  go_wp2_with fail
  refine M3.out.mono ?_
  rintro e w1 ⟨rfl, rfl⟩
  go_wp2
  go_ret
  exact ⟨rfl, BW.out⟩
set_option maxRecDepth 100000 in
set_option maxHeartbeats 4000000 in
/-- A node that is there. -/
theorem node_any (T bn bu n m : Nat) (N : List QT.Nd) (U : List QT.Us) (x : QT.Nd) (s : QT.Str) (w : World) (hT : TreeQ w T bn bu n m N U) (hs : QT.fnd QT.Nd.nm N s = some x) (hl : s.length ≤ 1099511627776) :
    Calls Tryz.prog 157 #[.pointer (some ⟨T, 0, none⟩), .string (str s)] w fun e w' => e = .returned (.tuple #[.agg #[.string (str x.nm), .string (str x.pr), .complex .f64 (FL.fB x.o1) (FL.fB x.o2), .complex .f64 (FL.fB x.b1) (FL.fB x.b2), .complex .f64 (FL.fB x.l1) (FL.fB x.l2)], .nilIface]) ∧ Below w.heap.size w w' := by
  have hstc := @run_store_complex Tryz.prog
  obtain ⟨W0, hW0⟩ : ∃ W, W = w.alloc (.cells #[.string ⟨#[]⟩, .string ⟨#[]⟩, .complex .f64 0 0, .complex .f64 0 0, .complex .f64 0 0] 50) := ⟨_, rfl⟩
  have b0 : Below w.heap.size w W0 := by rw [hW0]; exact (Below.refl _ _).alloc (Nat.le_refl _) _
  have g0 : W0.heap[w.heap.size]? = some (.cells #[.string ⟨#[]⟩, .string ⟨#[]⟩, .complex .f64 0 0, .complex .f64 0 0, .complex .f64 0 0] 50) := by rw [hW0]; exact heap_alloc_new _ _
  have T0 := hT.below b0
  obtain ⟨t0, _⟩ := cells2 T0.tb
  have hlk := T0.mN.lookOk Tryz.underlying118 (zeroNd W0) ⟨_, zNd_val⟩ s hl
  rw [hs] at hlk
  simp only [Option.map_some, Option.getD_some, Option.isSome_some, vNd] at hlk
  obtain ⟨W1, hW1⟩ : ∃ W, W = W0.alloc (.cells #[.string (str x.nm), .string (str x.pr), .complex .f64 (FL.fB x.o1) (FL.fB x.o2), .complex .f64 (FL.fB x.b1) (FL.fB x.b2), .complex .f64 (FL.fB x.l1) (FL.fB x.l2)] 50) := ⟨_, rfl⟩
  have b1 : Below W0.heap.size W0 W1 := by rw [hW1]; exact (Below.refl _ _).alloc (Nat.le_refl _) _
  have g1 : W1.heap[W0.heap.size]? = some (.cells #[.string (str x.nm), .string (str x.pr), .complex .f64 (FL.fB x.o1) (FL.fB x.o2), .complex .f64 (FL.fB x.b1) (FL.fB x.b2), .complex .f64 (FL.fB x.l1) (FL.fB x.l2)] 50) := by rw [hW1]; exact heap_alloc_new _ _
  have g01 := (b1.block w.heap.size (Array.getElem?_eq_some_iff.1 g0).1).trans g0
  obtain ⟨⟨y0, y1, y2, y3, y4⟩, _⟩ := cells5f g1
  obtain ⟨⟨z0, z1, z2, z3, z4⟩, q0, q1, q2, q3, q4⟩ := cells5f g01
  obtain ⟨W2, hW2⟩ : ∃ V, V = (((((W1.setCell ⟨w.heap.size, 0, none⟩ (.string (str x.nm))).setCell ⟨w.heap.size, 1, none⟩ (.string (str x.pr))).setCell ⟨w.heap.size, 2, none⟩ (.complex .f64 (FL.fB x.o1) (FL.fB x.o2))).setCell ⟨w.heap.size, 3, none⟩ (.complex .f64 (FL.fB x.b1) (FL.fB x.b2))).setCell ⟨w.heap.size, 4, none⟩ (.complex .f64 (FL.fB x.l1) (FL.fB x.l2))) := ⟨_, rfl⟩
  have f2 : Fr (fun j => j = w.heap.size) W1 W2 := by rw [hW2]; exact fr5 _ _ _ _ _ _ _
  have g2 : W2.heap[w.heap.size]? = some (.cells #[.string (str x.nm), .string (str x.pr), .complex .f64 (FL.fB x.o1) (FL.fB x.o2), .complex .f64 (FL.fB x.b1) (FL.fB x.b2), .complex .f64 (FL.fB x.l1) (FL.fB x.l2)] 50) := by rw [hW2]; exact stored5 g01 _ _ _ _ _
  obtain ⟨⟨e0, e1, e2, e3, e4⟩, _⟩ := cells5f g2
  have EW := Lib.hid (And.intro e0 (And.intro e1 (And.intro e2 (And.intro e3 e4))))
  have b01 := b0.trans (b1.mono b0.size)
  have BW : Hid (Below w.heap.size w W2) := Lib.hid (b01.trans ⟨f2.os, f2.tape, f2.output, f2.size, fun q hq => f2.block q (Nat.lt_of_lt_of_le hq b01.size) (by omega)⟩)
  have HW0 : Hid (w.alloc (.cells #[.string ⟨#[]⟩, .string ⟨#[]⟩, .complex .f64 0 0, .complex .f64 0 0, .complex .f64 0 0] 50) = W0) := Lib.hid hW0.symm
  have HW1 : Hid (W0.alloc (.cells #[.string (str x.nm), .string (str x.pr), .complex .f64 (FL.fB x.o1) (FL.fB x.o2), .complex .f64 (FL.fB x.b1) (FL.fB x.b2), .complex .f64 (FL.fB x.l1) (FL.fB x.l2)] 50) = W1) := Lib.hid hW1.symm
  have HW2 := Lib.hid hW2.symm
  clear hW0 hW1 hW2 b0 b1 b01 f2 g0 g1 g01 g2 e0 e1 e2 e3 e4 T0 hT hs hl
  go_enter Tryz.func157, Tryz.ntmps157
  go_wp2_with (first | rw [HW0.out] | rw [HW1.out] | (rw [HW2.out]; obtain ⟨e0, e1, e2, e3, e4⟩ := EW.out; refine bodyPost_ret (v := .tuple #[.agg #[.string (str x.nm), .string (str x.pr), .complex .f64 (FL.fB x.o1) (FL.fB x.o2), .complex .f64 (FL.fB x.b1) (FL.fB x.b2), .complex .f64 (FL.fB x.l1) (FL.fB x.l2)], .nilIface]) (by simp [results, Tryz.results157, go_sem, e0, e1, e2, e3, e4]) rfl ?_; exact ⟨rfl, BW.out⟩))
set_option maxRecDepth 100000 in
set_option maxHeartbeats 4000000 in
/-- The total of a node that is there. -/
theorem total_any (T bn bu n m : Nat) (N : List QT.Nd) (U : List QT.Us) (x : QT.Nd) (w : World) (hT : TreeQ w T bn bu n m N U) (hF : FullQ N U) (hx : x ∈ N) :
    Calls Tryz.prog 156 #[.pointer (some ⟨T, 0, none⟩), .string (str x.nm)] w fun e w' => e = .returned (.tuple #[.complex .f64 (FL.fB (QT.Total N QT.Nd.o1 x.nm)) (FL.fB (QT.Total N QT.Nd.o2 x.nm)), .nilIface]) ∧ Below w.heap.size w w' := by
  have hstc := @run_store_complex Tryz.prog
  have HN := Lib.hid (node_any T bn bu n m N U x x.nm w hT (hF.rise.good.fnd hx) (by have := (hF.rise.fN x hx).1.1; omega))
  have HS : Hid (∀ V, Below w.heap.size w V → Calls Tryz.prog 96 #[.pointer (some ⟨T, 0, none⟩), .string (str x.nm)] V fun e w' =>
      e = .returned (.tuple #[.complex .f64 (FL.fB (QT.Total N QT.Nd.o1 x.nm)) (FL.fB (QT.Total N QT.Nd.o2 x.nm)), .complex .f64 (FL.fB (QT.Used N U QT.Us.a1 x.nm)) (FL.fB (QT.Used N U QT.Us.a2 x.nm))]) ∧ Below V.heap.size V w') := Lib.hid (fun V b => sums_any N U hF T bn bu n m (N.length + 1) x V hx (by omega) (hT.below b))
  clear hT hF hx
  go_enter Tryz.func156, Tryz.ntmps156
  go_wp2_with fail
  refine HN.out.mono ?_
  rintro e w1 ⟨rfl, b1⟩
  obtain ⟨W, hW⟩ : ∃ W, W = w1.alloc (.cells #[.string (str x.nm), .string (str x.pr), .complex .f64 (FL.fB x.o1) (FL.fB x.o2), .complex .f64 (FL.fB x.b1) (FL.fB x.b2), .complex .f64 (FL.fB x.l1) (FL.fB x.l2)] 50) := ⟨_, rfl⟩
  have bW : Below w.heap.size w W := by rw [hW]; exact b1.trans ((Below.refl _ _).alloc b1.size _)
  have BW := Lib.hid bW
  have HW := Lib.hid hW.symm
  have HS1 := Lib.hid (HS.out W bW)
  clear hW bW b1 HN HS
  go_wp2_with (rw [HW.out])
  refine HS1.out.mono ?_
  rintro e w2 ⟨rfl, b2⟩
  have B2 := Lib.hid (BW.out.trans (b2.mono BW.out.size))
  clear b2
  go_wp2
  go_ret2
  exact ⟨rfl, B2.out⟩
/-- What a map holds is the same for each list that finds the same. -/
theorem MapD.same {α : Type} {key : α → QT.Str} {val : α → Value} {ok : Bool} {w : World} {b n : Nat} {N N' : List α} (h : MapD key val ok w b n N) (hf : ∀ s, QT.fnd key N' s = QT.fnd key N s) (hl : N'.length = N.length) : MapD key val ok w b n N' := by
  obtain ⟨D, ho, hr⟩ := h
  exact ⟨D, ho, fun e => ⟨fun s z => by rw [hf]; exact (hr e).1 s z, by rw [hl]; exact (hr e).2⟩⟩
theorem TreeD.putN {w w' : World} {T bn bu n n' m : Nat} {N N' : List QT.Nd} {U : List QT.Us} (h : TreeD w T bn bu true true n m N U) (f : Fr (fun j => j = bn) w w') (hm : MapD QT.Nd.nm vNd true w' bn n' N') : TreeD w' T bn bu true true n' m N' U :=
  ⟨f.heap h.tb h.ne.2.1, hm, h.mU.kept f (fun e => h.ne.1 e.symm), h.ne⟩
theorem TreeD.putU {w w' : World} {T bn bu n m m' : Nat} {N : List QT.Nd} {U U' : List QT.Us} (h : TreeD w T bn bu true true n m N U) (f : Fr (fun j => j = bu) w w') (hm : MapD QT.Us.id vUs true w' bu m' U') : TreeD w' T bn bu true true n m' N U' :=
  ⟨f.heap h.tb h.ne.2.2, h.mN.kept f h.ne.1, hm, h.ne⟩
set_option maxRecDepth 100000 in
set_option maxHeartbeats 8000000 in
/-- AddNode, of a node that can be added. -/
theorem addNode_any (T bn bu n m : Nat) (N N' : List QT.Nd) (U : List QT.Us) (x : QT.Nd) (w : World) (hT : TreeD w T bn bu true true n m N U) (hx : QT.fineNd x) (hnm : QT.nameP x.nm = true) (hfr : QT.fnd QT.Nd.nm N x.nm = none)
    (hpr : (QT.fnd QT.Nd.nm N x.pr).isSome = true ∨ x.pr = []) (hlen : N.length < 256) (hn : n < 1099511627776) (hf : ∀ s, QT.fnd QT.Nd.nm N' s = QT.fnd QT.Nd.nm (N ++ [x]) s) (hl : N'.length = (N ++ [x]).length) (hF : FullQ N' U) (hfit : QT.fitsB N' U = true) :
    Calls Tryz.prog 130 #[.pointer (some ⟨T, 0, none⟩), .agg #[.string (str x.nm), .string (str x.pr), .complex .f64 (FL.fB x.o1) (FL.fB x.o2), .complex .f64 (FL.fB x.b1) (FL.fB x.b2), .complex .f64 (FL.fB x.l1) (FL.fB x.l2)]] w fun e w' => e = .returned .nilIface ∧ TreeD w' T bn bu true true (n + 1) m N' U ∧ Fr (fun j => j = bn) w w' := by
  have hstc := @run_store_complex Tryz.prog
  obtain ⟨B, hB⟩ : ∃ B, B = w.heap.size := ⟨_, rfl⟩
  obtain ⟨W0, hW0⟩ : ∃ W, W = w.alloc (.cells #[.string (str x.nm), .string (str x.pr), .complex .f64 (FL.fB x.o1) (FL.fB x.o2), .complex .f64 (FL.fB x.b1) (FL.fB x.b2), .complex .f64 (FL.fB x.l1) (FL.fB x.l2)] 50) := ⟨_, rfl⟩
  have b0 : Below w.heap.size w W0 := by rw [hW0]; exact (Below.refl _ _).alloc (Nat.le_refl _) _
  have g0 : W0.heap[B]? = some (.cells #[.string (str x.nm), .string (str x.pr), .complex .f64 (FL.fB x.o1) (FL.fB x.o2), .complex .f64 (FL.fB x.b1) (FL.fB x.b2), .complex .f64 (FL.fB x.l1) (FL.fB x.l2)] 50) := by rw [hW0, hB]; exact heap_alloc_new _ _
  have hBlt : B < W0.heap.size := (Array.getElem?_eq_some_iff.1 g0).1
  have T0 := hT.below b0
  have NC : Hid (Calls Tryz.prog 49 #[.string (str x.nm)] W0 fun e w' => e = .returned (.bool true) ∧ W0 = w') := Lib.hid (by
    have := named_any (str x.nm) W0 (by rw [str_size]; have := hx.1.1; omega)
    rw [str_list, hnm] at this
    exact this)
  have HM := Lib.hid (nodeMay_any x W0 hx)
  obtain ⟨⟨z0, z1, z2, z3, z4⟩, _⟩ := cells5f g0
  obtain ⟨q, hq⟩ : ∃ q, q = (QT.fnd QT.Nd.nm N x.pr).isSome := ⟨_, rfl⟩
  obtain ⟨z, hz⟩ : ∃ z : QT.Nd, ((QT.fnd QT.Nd.nm N x.pr).map vNd).getD zNd = vNd z := by
    cases h : QT.fnd QT.Nd.nm N x.pr with
    | none => exact ⟨_, zNd_val⟩
    | some y => exact ⟨y, rfl⟩
  have hqp : q = false → x.pr = [] := fun e => by
    rcases hpr with h | h
    · rw [← hq, e] at h; cases h
    · exact h
  have base : Hid (∀ V, Below W0.heap.size W0 V → TreeD V T bn bu true true n m N U ∧ (V.cell? ⟨T, 0, none⟩ = some (.map (some bn)) ∧ V.cell? ⟨B, 0, none⟩ = some (.string (str x.nm)) ∧ V.cell? ⟨B, 1, none⟩ = some (.string (str x.pr)) ∧ V.cell? ⟨B, 2, none⟩ = some (.complex .f64 (FL.fB x.o1) (FL.fB x.o2)) ∧ V.cell? ⟨B, 3, none⟩ = some (.complex .f64 (FL.fB x.b1) (FL.fB x.b2)) ∧ V.cell? ⟨B, 4, none⟩ = some (.complex .f64 (FL.fB x.l1) (FL.fB x.l2))) ∧ (V.cell? ⟨T, 0, none⟩ = some (.map (some bn)) ∧ V.cell? ⟨B, 0, none⟩ = some (.string (str x.nm)) ∧ (Instr.lookup 118 (.map (some bn)) (.string (str x.nm)) true).run Tryz.prog V = .ok (.tuple #[.agg #[.string ⟨#[]⟩, .string ⟨#[]⟩, .complex .f64 0 0, .complex .f64 0 0, .complex .f64 0 0], .bool false]) V) ∧ (V.cell? ⟨T, 0, none⟩ = some (.map (some bn)) ∧ V.cell? ⟨B, 1, none⟩ = some (.string (str x.pr)) ∧ (Instr.lookup 118 (.map (some bn)) (.string (str x.pr)) true).run Tryz.prog V = .ok (.tuple #[.agg #[.string (str z.nm), .string (str z.pr), .complex .f64 (FL.fB z.o1) (FL.fB z.o2), .complex .f64 (FL.fB z.b1) (FL.fB z.b2), .complex .f64 (FL.fB z.l1) (FL.fB z.l2)], .bool q]) V) ∧ Below w.heap.size w V) := Lib.hid (fun V b => by
    have TV := T0.below b
    obtain ⟨⟨y0, y1, y2, y3, y4⟩, _⟩ := cells5f ((b.block B hBlt).trans g0)
    obtain ⟨t0, _⟩ := cells2 TV.tb
    have l1 := TV.mN.lookOk Tryz.underlying118 (zeroNd V) ⟨_, zNd_val⟩ x.nm (by have := hx.1.1; omega)
    have l2 := TV.mN.lookOk Tryz.underlying118 (zeroNd V) ⟨_, zNd_val⟩ x.pr (by have := hx.1.2; omega)
    rw [hfr] at l1
    rw [hz, ← hq, vNd] at l2
    exact ⟨TV, ⟨t0, y0, y1, y2, y3, y4⟩, ⟨t0, y0, l1⟩, ⟨t0, y1, l2⟩, b0.trans (b.mono b0.size)⟩)
  have Hput : Hid (∀ V, TreeD V T bn bu true true n m N U → (V.cell? ⟨T, 0, none⟩ = some (.map (some bn)) ∧ V.cell? ⟨B, 0, none⟩ = some (.string (str x.nm)) ∧ V.cell? ⟨B, 1, none⟩ = some (.string (str x.pr)) ∧ V.cell? ⟨B, 2, none⟩ = some (.complex .f64 (FL.fB x.o1) (FL.fB x.o2)) ∧ V.cell? ⟨B, 3, none⟩ = some (.complex .f64 (FL.fB x.b1) (FL.fB x.b2)) ∧ V.cell? ⟨B, 4, none⟩ = some (.complex .f64 (FL.fB x.l1) (FL.fB x.l2))) → Below w.heap.size w V → ∃ V', (Instr.mapUpdate 118 (.map (some bn)) (.string (str x.nm)) (.agg #[.string (str x.nm), .string (str x.pr), .complex .f64 (FL.fB x.o1) (FL.fB x.o2), .complex .f64 (FL.fB x.b1) (FL.fB x.b2), .complex .f64 (FL.fB x.l1) (FL.fB x.l2)])).run Tryz.prog V = .ok () V' ∧ TreeD V' T bn bu true true (n + 1) m N' U ∧ (V'.cell? ⟨T, 0, none⟩ = some (.map (some bn)) ∧ V'.cell? ⟨B, 0, none⟩ = some (.string (str x.nm)) ∧ V'.cell? ⟨B, 1, none⟩ = some (.string (str x.pr)) ∧ V'.cell? ⟨B, 2, none⟩ = some (.complex .f64 (FL.fB x.o1) (FL.fB x.o2)) ∧ V'.cell? ⟨B, 3, none⟩ = some (.complex .f64 (FL.fB x.b1) (FL.fB x.b2)) ∧ V'.cell? ⟨B, 4, none⟩ = some (.complex .f64 (FL.fB x.l1) (FL.fB x.l2))) ∧ Fr (fun j => j = bn) w V') := Lib.hid (fun V TV sm b => by
    obtain ⟨V', h1, h2, h3⟩ := TV.mN.put Tryz.underlying118 hn x (by have := hx.1.1; omega) (ok' := true) (fun _ => ⟨rfl, hfr⟩)
    have hBb : ¬ B = bn := by have := hT.mN.lt; omega
    refine ⟨V', h1, TV.putN h3 (h2.same hf hl), ⟨h3.cell sm.1 TV.ne.2.1, h3.cell sm.2.1 hBb, h3.cell sm.2.2.1 hBb, h3.cell sm.2.2.2.1 hBb, h3.cell sm.2.2.2.2.1 hBb, h3.cell sm.2.2.2.2.2 hBb⟩, (Fr.of_below b).trans h3⟩)
  have HFi := Lib.hid (fun (V : World) (h : TreeD V T bn bu true true (n + 1) m N' U) => fits_any N' U hF T bn bu (n + 1) m V h.tree)
  have h256 : ¬ (256 : Int) ≤ (N.length : Int) := by omega
  have hmx : (N.length : Int) ≤ 281474976710656 := by omega
  have Hqp := Lib.hid hqp
  have Hfit := Lib.hid hfit
  have hlen' := fun (V : World) (h : TreeD V T bn bu true true n m N U) ty => h.mN.len Tryz.underlying118 ty
  have HLen := Lib.hid hlen'
  have HW0 := Lib.hid hW0.symm
  clear hW0 b0 g0 hBlt T0 hnm hfr hpr hqp hlen hn hf hl hF hfit hlen' hT hz hq
  have HB := Lib.hid hB
  clear hB
  go_enter Tryz.func130, Tryz.ntmps130
  go_wp2_with (rw [HW0.out, ← HB.out])
  clear HW0 HB
  go_wp2_with fail
  refine NC.out.mono ?_
  rintro e v ⟨rfl, rfl⟩
  go_wp2_with fail
  refine HM.out.mono ?_
  rintro e w1 ⟨rfl, b1⟩
  have S1 := (base.out w1.drew b1.drew).2.2.1
  have bA := (b1.alloc b1.size (.cells #[.string ⟨#[]⟩, .string ⟨#[]⟩, .complex .f64 0 0, .complex .f64 0 0, .complex .f64 0 0] 50)).drew
  have SA1 := (base.out _ bA).2.2.1
  obtain ⟨w2, hw2⟩ : ∃ V, V = (w1.alloc (.cells #[.string ⟨#[]⟩, .string ⟨#[]⟩, .complex .f64 0 0, .complex .f64 0 0, .complex .f64 0 0] 50)).drew := ⟨_, rfl⟩
  rw [← hw2] at bA
  have HW2 := Lib.hid hw2.symm
  clear hw2 HM NC
  go_wp2_with fail
  refine wp_region_noPanic ?_
  refine wp_region_held_drew (S := fun V => (V.cell? ⟨T, 0, none⟩ = some (.map (some bn)) ∧ V.cell? ⟨B, 0, none⟩ = some (.string (str x.nm)) ∧ (Instr.lookup 118 (.map (some bn)) (.string (str x.nm)) true).run Tryz.prog V = .ok (.tuple #[.agg #[.string ⟨#[]⟩, .string ⟨#[]⟩, .complex .f64 0 0, .complex .f64 0 0, .complex .f64 0 0], .bool false]) V)) (by kernel_rfl) S1 (fun hHeld => ?_)
  refine rTk 0 ?_; try simp only [Act.put, rP1, rP2, rP3]
  refine rTk 1 ?_; try simp only [Act.put, rP1, rP2, rP3]
  refine rTk 2 ?_; try simp only [Act.put, rP1, rP2, rP3]
  refine rTk 3 ?_; try simp only [Act.put, rP1, rP2, rP3]
  refine rTk 4 ?_; try simp only [Act.put, rP1, rP2, rP3]
  refine rTk 5 ?_; try simp only [Act.put, rP1, rP2, rP3]
  refine rTk 6 ?_; try simp only [Act.put, rP1, rP2, rP3]
  refine rTk 7 ?_; try simp only [Act.put, rP1, rP2, rP3]
  refine rTk 8 ?_; try simp only [Act.put, rP1, rP2, rP3]
  refine rTk 9 ?_; try simp only [Act.put, rP1, rP2, rP3]
  refine rBr 10 fun K hK => ?_
  go_simp
  refine hK.out _ _ (by (try dsimp only); assumption) (fun hHeld => ?_)
  clear hK K
  try simp only [Act.put, rP1, rP2, rP3]
  refine rBr 11 fun K hK => ?_
  go_simp
  try (go_wp2_with fail)
  refine hK.out _ _ (by (try dsimp only); assumption) (fun hHeld => ?_)
  clear hK K
  try simp only [Act.put, rP1, rP2, rP3]
  refine rTk 12 ?_; try simp only [Act.put, rP1, rP2, rP3]
  refine wpAnyH_done (by kernel_rfl) ?_ _
  refine NoPanic.normal ?_
  rw [HW2.out]
  clear S1 SA1 hHeld HW2 b1
  have S2 := (base.out w2.drew bA.drew).2.2.2.1
  have SB1 := (base.out (w2.alloc (.cells #[.string ⟨#[]⟩, .string ⟨#[]⟩, .complex .f64 0 0, .complex .f64 0 0, .complex .f64 0 0] 50)).drew (bA.alloc bA.size _).drew).2.2.2.1
  have bB := (bA.alloc bA.size (.cells #[.string (str z.nm), .string (str z.pr), .complex .f64 (FL.fB z.o1) (FL.fB z.o2), .complex .f64 (FL.fB z.b1) (FL.fB z.b2), .complex .f64 (FL.fB z.l1) (FL.fB z.l2)] 50)).drew
  have SB2 := (base.out _ bB).2.2.2.1
  obtain ⟨w3, hw3⟩ : ∃ V, V = (w2.alloc (.cells #[.string (str z.nm), .string (str z.pr), .complex .f64 (FL.fB z.o1) (FL.fB z.o2), .complex .f64 (FL.fB z.b1) (FL.fB z.b2), .complex .f64 (FL.fB z.l1) (FL.fB z.l2)] 50)).drew := ⟨_, rfl⟩
  rw [← hw3] at bB
  have HW3 := Lib.hid hw3.symm
  clear hw3
  go_wp2_with fail
  refine wp_region_noPanic ?_
  refine wp_region_held_drew (S := fun V => (V.cell? ⟨T, 0, none⟩ = some (.map (some bn)) ∧ V.cell? ⟨B, 1, none⟩ = some (.string (str x.pr)) ∧ (Instr.lookup 118 (.map (some bn)) (.string (str x.pr)) true).run Tryz.prog V = .ok (.tuple #[.agg #[.string (str z.nm), .string (str z.pr), .complex .f64 (FL.fB z.o1) (FL.fB z.o2), .complex .f64 (FL.fB z.b1) (FL.fB z.b2), .complex .f64 (FL.fB z.l1) (FL.fB z.l2)], .bool q]) V)) (by kernel_rfl) S2 (fun hHeld => ?_)
  refine rTk 0 ?_; try simp only [Act.put, rP1, rP2, rP3]
  refine rTk 1 ?_; try simp only [Act.put, rP1, rP2, rP3]
  refine rTk 2 ?_; try simp only [Act.put, rP1, rP2, rP3]
  refine rTk 3 ?_; try simp only [Act.put, rP1, rP2, rP3]
  refine rTk 4 ?_; try simp only [Act.put, rP1, rP2, rP3]
  refine rTk 5 ?_; try simp only [Act.put, rP1, rP2, rP3]
  refine rTk 6 ?_; try simp only [Act.put, rP1, rP2, rP3]
  refine rTk 7 ?_; try simp only [Act.put, rP1, rP2, rP3]
  refine rTk 8 ?_; try simp only [Act.put, rP1, rP2, rP3]
  refine rTk 9 ?_; try simp only [Act.put, rP1, rP2, rP3]
  refine rBr 10 fun K hK => ?_
  go_simp
  refine hK.out _ _ (by (try dsimp only); assumption) (fun hHeld => ?_)
  clear hK K
  try simp only [Act.put, rP1, rP2, rP3]
  refine rBr 11 fun K hK => ?_
  go_simp
  try (go_wp2_with fail)
  refine hK.out _ _ (by (try dsimp only); assumption) (fun hHeld => ?_)
  clear hK K
  try simp only [Act.put, rP1, rP2, rP3]
  refine rTk 12 ?_; try simp only [Act.put, rP1, rP2, rP3]
  refine wpAnyH_done (by kernel_rfl) ?_ _
  refine NoPanic.normal ?_
  rw [HW3.out]
  clear S2 SB1 SB2 hHeld HW3 bA
  have K3 := Lib.hid (base.out w3 bB)
  obtain ⟨_, ⟨t0, y0, y1, y2, y3, y4⟩, _⟩ := base.out w3 bB
  have hl3 := HLen.out w3 K3.out.1
  obtain ⟨w6, hput, T6, S6, F6⟩ := Hput.out w3.drew (base.out w3.drew bB.drew).1 (base.out w3.drew bB.drew).2.1 (base.out w3.drew bB.drew).2.2.2.2
  have S3 := (base.out w3.drew bB.drew).2.1
  have HT6 := Lib.hid T6
  have HF6 := Lib.hid F6
  have HF7 := Lib.hid (HFi.out w6 T6)
  rw [Hfit.out] at HF7
  have Fin : Hid (∀ w7, Below w6.heap.size w6 w7 → TreeD w7 T bn bu true true (n + 1) m N' U ∧ Fr (fun j => j = bn) w w7) := Lib.hid (fun w7 b => ⟨T6.below b, F6.trans (Fr.of_below b)⟩)
  clear T6 F6 Hput HFi Hfit base K3 HLen bB HT6 HF6
  cases q with
  | true =>
    go_wp2_with fail
    refine wp_region_noPanic ?_
    refine wp_region_held_drew (S := fun V => (V.cell? ⟨T, 0, none⟩ = some (.map (some bn)) ∧ V.cell? ⟨B, 0, none⟩ = some (.string (str x.nm)) ∧ V.cell? ⟨B, 1, none⟩ = some (.string (str x.pr)) ∧ V.cell? ⟨B, 2, none⟩ = some (.complex .f64 (FL.fB x.o1) (FL.fB x.o2)) ∧ V.cell? ⟨B, 3, none⟩ = some (.complex .f64 (FL.fB x.b1) (FL.fB x.b2)) ∧ V.cell? ⟨B, 4, none⟩ = some (.complex .f64 (FL.fB x.l1) (FL.fB x.l2)))) (by kernel_rfl) S3 (fun hHeld => ?_)
    refine rTk 0 ?_; try simp only [Act.put, rP1, rP2, rP3]
    refine rTk 1 ?_; try simp only [Act.put, rP1, rP2, rP3]
    refine rTk 2 ?_; try simp only [Act.put, rP1, rP2, rP3]
    refine rTk 3 ?_; try simp only [Act.put, rP1, rP2, rP3]
    refine rTk 4 ?_; try simp only [Act.put, rP1, rP2, rP3]
    refine rTk 5 ?_; try simp only [Act.put, rP1, rP2, rP3]
    refine rTk 6 ?_; try simp only [Act.put, rP1, rP2, rP3]
    refine rBr 7 fun K hK => ?_
    go_simp
    skip
    refine hK.out _ _ (by (try dsimp only); assumption) (fun hHeld => ?_)
    clear hK K
    try simp only [Act.put, rP1, rP2, rP3]
    refine wpAnyH_done (by kernel_rfl) ?_ _
    refine NoPanic.normal ?_
    clear S3 S6 hHeld
    go_wp2_with fail
    refine HF7.out.mono ?_
    rintro e w7 ⟨rfl, b7⟩
    have F := Lib.hid (Fin.out w7 b7)
    clear b7
    go_wp2
    go_ret
    exact ⟨rfl, F.out⟩
  | false =>
    have hp := Hqp.out rfl
    have ht : (str x.pr).toList.isEmpty = true := by rw [str_toList, hp]; rfl
    clear hp
    go_wp2_with fail
    refine wp_region_noPanic ?_
    refine wp_region_held_drew (S := fun V => (V.cell? ⟨T, 0, none⟩ = some (.map (some bn)) ∧ V.cell? ⟨B, 0, none⟩ = some (.string (str x.nm)) ∧ V.cell? ⟨B, 1, none⟩ = some (.string (str x.pr)) ∧ V.cell? ⟨B, 2, none⟩ = some (.complex .f64 (FL.fB x.o1) (FL.fB x.o2)) ∧ V.cell? ⟨B, 3, none⟩ = some (.complex .f64 (FL.fB x.b1) (FL.fB x.b2)) ∧ V.cell? ⟨B, 4, none⟩ = some (.complex .f64 (FL.fB x.l1) (FL.fB x.l2)))) (by kernel_rfl) S3 (fun hHeld => ?_)
    refine rTk 0 ?_; try simp only [Act.put, rP1, rP2, rP3]
    refine rTk 1 ?_; try simp only [Act.put, rP1, rP2, rP3]
    refine rTk 2 ?_; try simp only [Act.put, rP1, rP2, rP3]
    refine rTk 3 ?_; try simp only [Act.put, rP1, rP2, rP3]
    refine rTk 4 ?_; try simp only [Act.put, rP1, rP2, rP3]
    refine rTk 5 ?_; try simp only [Act.put, rP1, rP2, rP3]
    refine rTk 6 ?_; try simp only [Act.put, rP1, rP2, rP3]
    refine rBr 7 fun K hK => ?_
    go_simp
    skip
    refine hK.out _ _ (by (try dsimp only); assumption) (fun hHeld => ?_)
    clear hK K
    try simp only [Act.put, rP1, rP2, rP3]
    refine wpAnyH_done (by kernel_rfl) ?_ _
    refine NoPanic.normal ?_
    clear S3 S6 hHeld
    go_wp2_with fail
    refine HF7.out.mono ?_
    rintro e w7 ⟨rfl, b7⟩
    have F := Lib.hid (Fin.out w7 b7)
    clear b7
    go_wp2
    go_ret
    exact ⟨rfl, F.out⟩
end Go.Proofs.YtkanjdijmdjbaaaGreatDoor
