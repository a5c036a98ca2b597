/-
  The program's rooted, by a contract.
  Conditions: the tree's maps hold the lists' (TreeQ), as the program asks (GoodQ); no two nodes of a name.
  The program's New; the closure of Decode that reads an amount.
  Conditions: the listed variables read as listed ('Env').
  The program's Uses, by a contract.
  Conditions: the tree's maps hold the lists' (TreeQ), which rise (RiseQ).
  The memory of the program's Decode of a tree; what is right so far, in plain Lean.
  Conditions: none but those that the theorems' lines name.
-/
import Derived.Test.YtkanjdijmdjbaaaGreatDoorG17
import Derived.Test.YtkanjdijmdjbaaaGreatDoorG7
import Derived.Test.YtkanjdijmdjbaaaGreatDoorTakeR
import Derived.Deep.RegionHeld3
import Derived.Test.YtkanjdijmdjbaaaGreatDoorG12
namespace Go.Proofs.YtkanjdijmdjbaaaGreatDoor
open Go Go.RowKit

theorem QT.fnd_find (N : List QT.Nd) (s : QT.Str) : QT.fnd QT.Nd.nm N s = QT.find N s := rfl
theorem MapD.atOk {w : World} {b n : Nat} {N : List QT.Nd} (h : MapD QT.Nd.nm vNd true w b n N) (s : QT.Str) (hs : s.length ≤ 1099511627776) :
    (Instr.lookup 118 (.map (some b)) (.string (str s)) true).run Tryz.prog w = .ok (.tuple #[vNd (QT.at0 N s), .bool (QT.find N s).isSome]) w := by
  rw [h.lookOk Tryz.underlying118 (zeroNd _) ⟨_, zNd_val⟩ s hs, QT.fnd_find]
  unfold QT.at0
  rw [QT.fnd_find]
  cases QT.find N s with
  | none => rw [Option.map_none, Option.getD_none, Option.getD_none, zNd_eq]
  | some y => rfl
theorem stored5 {w : World} {M : Nat} {x0 x1 x2 x3 x4 : Value} {t : TypeId} (h : w.heap[M]? = some (.cells #[x0, x1, x2, x3, x4] t)) (y0 y1 y2 y3 y4 : Value) :
    (((((w.setCell ⟨M, 0, none⟩ y0).setCell ⟨M, 1, none⟩ y1).setCell ⟨M, 2, none⟩ y2).setCell ⟨M, 3, none⟩ y3).setCell ⟨M, 4, none⟩ y4).heap[M]? = some (.cells #[y0, y1, y2, y3, y4] t) := by
  simp only [World.setCell, Array.getElem?_modify, if_true, h, Option.map_some]
  simp
theorem fr5 (w : World) (M : Nat) (y0 y1 y2 y3 y4 : Value) : Fr (fun j => j = M) w (((((w.setCell ⟨M, 0, none⟩ y0).setCell ⟨M, 1, none⟩ y1).setCell ⟨M, 2, none⟩ y2).setCell ⟨M, 3, none⟩ y3).setCell ⟨M, 4, none⟩ y4) :=
  Fr.setCell (X := fun j => j = M) (Fr.setCell (X := fun j => j = M) (Fr.setCell (X := fun j => j = M) (Fr.setCell (X := fun j => j = M) (Fr.setCell (X := fun j => j = M) (Fr.refl _ _) (fun _ => rfl) _) (fun _ => rfl) _) (fun _ => rfl) _) (fun _ => rfl) _) (fun _ => rfl) _
set_option maxRecDepth 100000 in
set_option maxHeartbeats 8000000 in
/-- rooted. -/
theorem rooted_any (N : List QT.Nd) (U : List QT.Us) (hG : GoodQ N U) (hU : QT.Uniq N) (T bn bu n m : Nat) (w : World) (hT : TreeQ w T bn bu n m N U) :
    Calls Tryz.prog 50 #[.pointer (some ⟨T, 0, none⟩)] w fun e w' => e = .returned (.bool (QT.rootedB N)) ∧ Below w.heap.size w w' := by
  have hstc := @run_store_complex Tryz.prog
  obtain ⟨t0, t1, _, _⟩ := cells2 hT.tb
  have HM := Lib.hid hT.mN
  have HTb := Lib.hid (fun (V : World) (b : Below w.heap.size w V) => hT.below b)
  have HTlt := Lib.hid (Array.getElem?_eq_some_iff.1 hT.tb).1
  have Hf := Lib.hid (fun (t : QT.Nd) (ht : t ∈ N) => hG.fnd ht)
  have Hfn := Lib.hid hG.fN
  have Hyes : Hid ((∀ x ∈ N, (QT.dp N (N.length + 2) x.pr).isSome = true) → QT.rootedB N = true) := Lib.hid (fun h => (QT.rootedB_iff N).2 ((QT.rooted_parents hU).2 h))
  have Hno : Hid (∀ x ∈ N, (QT.dp N (N.length + 2) x.pr).isSome = false → QT.rootedB N = false) := Lib.hid (fun x hx h => by
    cases hb : QT.rootedB N with
    | false => rfl
    | true =>
      have := (QT.rooted_parents hU).1 ((QT.rootedB_iff N).1 hb) x hx
      rw [h] at this; cases this)
  have hlN : (N.length : Int) ≤ 281474976710656 := by have := hG.lN; omega
  clear hT hG hU
  go_enter Tryz.func50, Tryz.ntmps50
  go_wp2_with (at_range; refine wpList_rangeG rfl _ rfl Tryz.underlying118 HM.out rfl ?_; intro w0 hrg0 hb0 hs0; have Hrg0 := Lib.hid hrg0; have Hb0 := Lib.hid hb0; clear hrg0 hb0 hs0)
  go_frame
  clear t0 t1
  go_loopw [2] (fun _ V => ∃ (left : QT.Str → Bool) (cnt : Nat), Hid (RangeG QT.Nd.nm vNd V bn w.heap.size n N left cnt) ∧ Hid (∀ x ∈ N, left x.nm = false → (QT.dp N (N.length + 2) x.pr).isSome = true) ∧ Hid (Below w.heap.size w V)) (fun _ V => V.rangeLeft bn w.heap.size)
  case atStart => exact ⟨_, _, Hrg0, Lib.hid (fun x hx h => by rw [Hf.out x hx] at h; cases h), Hb0⟩
  case round =>
    obtain ⟨left, cnt, Hrg, Hp, Hb⟩ := hrel
    clear Hrg0 Hb0
    go_wp2_with (at_next; refine wpList_nextG rfl _ rfl Hrg.out rfl ?_ ?_)
    · intro _ hl0
      have hr := Lib.hid (Hyes.out (fun x hx => Hp.out x hx (hl0 x.nm)))
      clear hl0
      go_wp2
      go_ret
      exact ⟨by rw [hr.out]; rfl, Hb.out⟩
    · intro x w1 cnt1 hx hfx hlx hrg1 hlt hg1 hs1 hen
      rw [vNd] at hen ⊢
      have hb1 : Below w.heap.size w w1 := Hb.out.trans ⟨hg1.os, hg1.tape, hg1.output, hg1.size, fun q hq => hg1.block q (Nat.lt_of_lt_of_le hq Hb.out.size) (by omega)⟩
      have Hno1 := Lib.hid (Hno.out x hx)
      have Hne := Lib.hid (fun h : (QT.dp N (N.length + 2) x.pr).isSome = true => show ∀ y ∈ N, (left y.nm && !(y.nm == x.nm)) = false → (QT.dp N (N.length + 2) y.pr).isSome = true from fun y hy e => by
        by_cases q : y.nm = x.nm
        · have h1 := Hf.out y hy
          rw [q, Hf.out x hx] at h1
          injection h1 with h1
          rw [← h1]; exact h
        · have : (y.nm == x.nm) = false := by simpa using q
          rw [this] at e
          exact Hp.out y hy (by simpa using e))
      obtain ⟨V1, hV1⟩ : ∃ V, V = w1.alloc (.cells #[.string (str x.nm), .string (str x.pr), .complex .f64 (FL.fB x.o1) (FL.fB x.o2), .complex .f64 (FL.fB x.b1) (FL.fB x.b2), .complex .f64 (FL.fB x.l1) (FL.fB x.l2)] 50) := ⟨_, rfl⟩
      have fV1 : Below w1.heap.size w1 V1 := by rw [hV1]; exact (Below.refl _ _).alloc (Nat.le_refl _) _
      have GV1 : Hid (V1.heap[w1.heap.size]? = some (.cells #[.string (str x.nm), .string (str x.pr), .complex .f64 (FL.fB x.o1) (FL.fB x.o2), .complex .f64 (FL.fB x.b1) (FL.fB x.b2), .complex .f64 (FL.fB x.l1) (FL.fB x.l2)] 50)) := by rw [hV1]; exact heap_alloc_new _ _
      have RV1 := Lib.hid (hrg1.below fV1)
      have BV1 := Lib.hid (hb1.trans (fV1.mono hb1.size))
      have Hm : Hid (∀ V, RangeG QT.Nd.nm vNd V bn w.heap.size n N (fun s => left s && !(s == x.nm)) cnt1 → V.rangeLeft bn w.heap.size < wr.rangeLeft bn w.heap.size) := Lib.hid (fun V h => by rw [h.left_eq, Hrg.out.left_eq]; exact hlt)
      have hNB : w.heap.size < w1.heap.size := by rw [hs1]; exact Hrg.out.lt.1
      have Hxf := Lib.hid (Hfn.out x hx)
      clear hrg1 hlt hg1 hs1 hfx hlx hx hb1 fV1 Hrg Hp Hb
      go_wp2_with (rw [← hV1])
      clear hV1 hen
      generalize w1.heap.size = NB at *
      go_loopw [5] (fun v5 V => ∃ (k : Nat) (y : QT.Nd), k ≤ N.length + 1 ∧ v5 = .int .i64 k ∧ Hid (QT.fineNd y) ∧ Hid ((QT.dp N (N.length + 2) x.pr).isSome = (QT.dp N (N.length + 2 - k) y.pr).isSome) ∧ Hid (RangeG QT.Nd.nm vNd V bn w.heap.size n N (fun s => left s && !(s == x.nm)) cnt1) ∧ Hid (Below w.heap.size w V) ∧ Hid (V.heap[NB]? = some (.cells #[.string (str y.nm), .string (str y.pr), .complex .f64 (FL.fB y.o1) (FL.fB y.o2), .complex .f64 (FL.fB y.b1) (FL.fB y.b2), .complex .f64 (FL.fB y.l1) (FL.fB y.l2)] 50))) (fun v _ => N.length + 1 - (intOf v).toNat)
      case atStart => exact ⟨0, x, Nat.zero_le _, rfl, Hxf, rfl, RV1, BV1, GV1⟩
      case round =>
        obtain ⟨k, y, hk, rfl, Yf, Yd, RV, BV, GV⟩ := hrel
        clear RV1 BV1 GV1 Hxf
        obtain ⟨⟨z0, z1, z2, z3, z4⟩, f0, f1, f2, f3, f4⟩ := cells5f GV.out
        by_cases hpr : y.pr = []
        · have ht : (str y.pr).toList.isEmpty = true := by rw [str_toList, hpr]; rfl
          have hd : (QT.dp N (N.length + 2) x.pr).isSome = true := by
            rw [Yd.out, hpr]
            obtain ⟨q, hq⟩ : ∃ q, N.length + 2 - k = q + 1 := ⟨N.length + 1 - k, by omega⟩
            rw [hq]; rfl
          have HN := Lib.hid (Hne.out hd)
          have HMm := Lib.hid (Hm.out wr RV.out)
          clear hpr hd Hne Hm Yd Yf
          go_wp2
          exact ⟨⟨_, cnt1, RV, HN, BV⟩, HMm.out⟩
        · have ht : (str y.pr).toList.isEmpty = false := by rw [str_toList]; simpa using hpr
          have TW := HTb.out wr BV.out
          obtain ⟨t0, t1, _, _⟩ := cells2 TW.tb
          obtain ⟨z, hz⟩ : ∃ z, z = QT.at0 N y.pr := ⟨_, rfl⟩
          obtain ⟨fd, hfd⟩ : ∃ b, b = (QT.find N y.pr).isSome := ⟨_, rfl⟩
          have hTlt := (Array.getElem?_eq_some_iff.1 TW.tb).1
          have hNlt := (Array.getElem?_eq_some_iff.1 GV.out).1
          have cont : Hid (∀ V, Below wr.heap.size wr V → (Hid (Below wr.heap.size wr V) ∧ V.cell? ⟨T, 0, none⟩ = some (.map (some bn)) ∧ V.cell? ⟨NB, 1, none⟩ = some (.string (str y.pr)) ∧ (Instr.lookup 118 (.map (some bn)) (.string (str y.pr)) true).run Tryz.prog V = .ok (.tuple #[.agg #[.string (str z.nm), .string (str z.pr), .complex .f64 (FL.fB z.o1) (FL.fB z.o2), .complex .f64 (FL.fB z.b1) (FL.fB z.b2), .complex .f64 (FL.fB z.l1) (FL.fB z.l2)], .bool fd]) V)) := Lib.hid (fun V b => by
            have hl := (TW.below b).mN.atOk y.pr (by have := Yf.out.1.2; omega)
            rw [← hz, ← hfd, vNd] at hl
            exact ⟨Lib.hid b, (World.cell?_of_block (a := ⟨T, 0, none⟩) (b.block T hTlt)).trans t0, (World.cell?_of_block (a := ⟨NB, 1, none⟩) (b.block NB hNlt)).trans z1, hl⟩)
          have S0 := cont.out wr.drew (Below.refl _ _).drew
          have SA := cont.out (wr.alloc (.cells #[.string ⟨#[]⟩, .string ⟨#[]⟩, .complex .f64 0 0, .complex .f64 0 0, .complex .f64 0 0] 50)).drew (((Below.refl _ _).alloc (Nat.le_refl _) _).drew)
          have SB := cont.out (wr.alloc (.cells #[.string (str z.nm), .string (str z.pr), .complex .f64 (FL.fB z.o1) (FL.fB z.o2), .complex .f64 (FL.fB z.b1) (FL.fB z.b2), .complex .f64 (FL.fB z.l1) (FL.fB z.l2)] 50)).drew (((Below.refl _ _).alloc (Nat.le_refl _) _).drew)
          obtain ⟨V2, hV2⟩ : ∃ V, V = (wr.alloc (.cells #[.string (str z.nm), .string (str z.pr), .complex .f64 (FL.fB z.o1) (FL.fB z.o2), .complex .f64 (FL.fB z.b1) (FL.fB z.b2), .complex .f64 (FL.fB z.l1) (FL.fB z.l2)] 50)).drew := ⟨_, rfl⟩
          have fV2 : Below wr.heap.size wr V2 := by rw [hV2]; exact ((Below.refl _ _).alloc (Nat.le_refl _) _).drew
          have gP : V2.heap[wr.heap.size]? = some (.cells #[.string (str z.nm), .string (str z.pr), .complex .f64 (FL.fB z.o1) (FL.fB z.o2), .complex .f64 (FL.fB z.b1) (FL.fB z.b2), .complex .f64 (FL.fB z.l1) (FL.fB z.l2)] 50) := by rw [hV2]; exact heap_alloc_new _ _
          have gN := (fV2.block NB hNlt).trans GV.out
          have RV2 := RV.out.below fV2
          have BV2 := BV.out.trans (fV2.mono BV.out.size)
          obtain ⟨p0, p1, p2, p3, p4⟩ := cells5 gP
          obtain ⟨⟨n0, n1, n2, n3, n4⟩, g0, g1, g2, g3, g4⟩ := cells5f gN
          obtain ⟨t2, _⟩ := cells2 (TW.below fV2).tb
          have hlen := fun ty => (TW.below fV2).mN.len Tryz.underlying118 ty
          obtain ⟨V3, hV3⟩ : ∃ V, V = (((((V2.setCell ⟨NB, 0, none⟩ (.string (str z.nm))).setCell ⟨NB, 1, none⟩ (.string (str z.pr))).setCell ⟨NB, 2, none⟩ (.complex .f64 (FL.fB z.o1) (FL.fB z.o2))).setCell ⟨NB, 3, none⟩ (.complex .f64 (FL.fB z.b1) (FL.fB z.b2))).setCell ⟨NB, 4, none⟩ (.complex .f64 (FL.fB z.l1) (FL.fB z.l2))) := ⟨_, rfl⟩
          have f3 : Fr (fun j => j = NB) V2 V3 := by rw [hV3]; exact fr5 _ _ _ _ _ _ _
          have bnlt := HM.out.lt
          have RV3 := Lib.hid (RV2.kept f3 (by omega) (by omega))
          have BV3 : Hid (Below w.heap.size w V3) := Lib.hid (BV2.trans ⟨f3.os, f3.tape, f3.output, f3.size, fun q hq => f3.block q (Nat.lt_of_lt_of_le hq BV2.size) (by omega)⟩)
          have GV3 : Hid (V3.heap[NB]? = some (.cells #[.string (str z.nm), .string (str z.pr), .complex .f64 (FL.fB z.o1) (FL.fB z.o2), .complex .f64 (FL.fB z.b1) (FL.fB z.b2), .complex .f64 (FL.fB z.l1) (FL.fB z.l2)] 50)) := Lib.hid (by rw [hV3]; exact stored5 gN _ _ _ _ _)
          have HV3 : Hid ((((((V2.setCell ⟨NB, 0, none⟩ (.string (str z.nm))).setCell ⟨NB, 1, none⟩ (.string (str z.pr))).setCell ⟨NB, 2, none⟩ (.complex .f64 (FL.fB z.o1) (FL.fB z.o2))).setCell ⟨NB, 3, none⟩ (.complex .f64 (FL.fB z.b1) (FL.fB z.b2))).setCell ⟨NB, 4, none⟩ (.complex .f64 (FL.fB z.l1) (FL.fB z.l2))) = V3) := hV3.symm
          have BB2 := Lib.hid BV2
          obtain ⟨q, hq⟩ : ∃ q, N.length + 2 - k = q + 1 := ⟨N.length + 1 - k, by omega⟩
          have hstep : (QT.dp N (N.length + 2) x.pr).isSome = (fd && (QT.dp N q z.pr).isSome) := by
            rw [Yd.out, hq, hfd, hz]
            conv => lhs; unfold QT.dp
            rw [if_neg hpr]
            unfold QT.at0
            rw [QT.fnd_find]
            cases QT.find N y.pr with
            | none => rfl
            | some u => simp
          have Hzf : Hid (fd = true → QT.fineNd z) := Lib.hid (fun e => by
            rw [hz]
            unfold QT.at0
            rw [QT.fnd_find]
            rw [hfd] at e
            obtain ⟨u, hu⟩ := Option.isSome_iff_exists.1 e
            rw [hu]
            exact Hfn.out u (QT.find_mem hu).1)
          have Hst := Lib.hid hstep
          have HqN : Hid (N.length + 2 - (k + 1) = q) := Lib.hid (by omega)
          have Hq0 : Hid (k = N.length + 1 → q = 0) := Lib.hid (by omega)
          have HV2 := Lib.hid hV2
          clear hTlt hNlt cont hz hfd fV2 gP gN RV2 BV2 hV3 f3 hq hstep hV2 hpr Yd Yf
          cases fd with
          | false =>
            have hb := Lib.hid (Hno1.out (by rw [Hst.out]; rfl))
            clear Hno1 Hst
            go_wp2_with fail
            refine wp_region_noPanic ?_
            refine wp_region_held_drew (S := fun V => (Hid (Below wr.heap.size wr V) ∧ V.cell? ⟨T, 0, none⟩ = some (.map (some bn)) ∧ V.cell? ⟨NB, 1, none⟩ = some (.string (str y.pr)) ∧ (Instr.lookup 118 (.map (some bn)) (.string (str y.pr)) true).run Tryz.prog V = .ok (.tuple #[.agg #[.string (str z.nm), .string (str z.pr), .complex .f64 (FL.fB z.o1) (FL.fB z.o2), .complex .f64 (FL.fB z.b1) (FL.fB z.b2), .complex .f64 (FL.fB z.l1) (FL.fB z.l2)], .bool false]) V)) (by kernel_rfl) S0 (fun hHeld => ?_)
            refine rTk 0 ?_; try simp only [Act.put, rP1, rP2, rP3]
            refine rTk 1 ?_; try simp only [Act.put, rP1, rP2, rP3]
            refine rTk 2 ?_; try simp only [Act.put, rP1, rP2, rP3]
            refine rTk 3 ?_; try simp only [Act.put, rP1, rP2, rP3]
            refine rTk 4 ?_; try simp only [Act.put, rP1, rP2, rP3]
            refine rTk 5 ?_; try simp only [Act.put, rP1, rP2, rP3]
            refine rTk 6 ?_; try simp only [Act.put, rP1, rP2, rP3]
            refine rTk 7 ?_; try simp only [Act.put, rP1, rP2, rP3]
            refine rTk 8 ?_; try simp only [Act.put, rP1, rP2, rP3]
            refine rTk 9 ?_; try simp only [Act.put, rP1, rP2, rP3]
            refine rBr 10 fun K hK => ?_
            go_simp
            refine hK.out _ _ (by (try dsimp only); assumption) (fun hHeld => ?_)
            clear hK K
            try simp only [Act.put, rP1, rP2, rP3]
            refine rBr 11 fun K hK => ?_
            go_simp
            try (go_wp2_with fail)
            refine hK.out _ _ (by (try dsimp only); assumption) (fun hHeld => ?_)
            clear hK K
            try simp only [Act.put, rP1, rP2, rP3]
            refine rTk 12 ?_; try simp only [Act.put, rP1, rP2, rP3]
            refine wpAnyH_done (by kernel_rfl) ?_ _
            refine NoPanic.normal ?_
            rw [← HV2.out]
            clear SA SB S0 hHeld HV3
            go_wp2
            go_ret
            exact ⟨by rw [hb.out]; rfl, BB2.out⟩
          | true =>
            by_cases hkn : k ≤ N.length
            · have h1 : ¬ ((N.length : Int) < (k : Int)) := by omega
              have Yd2 : Hid ((QT.dp N (N.length + 2) x.pr).isSome = (QT.dp N (N.length + 2 - (k + 1)) z.pr).isSome) := Lib.hid (by rw [Hst.out, HqN.out]; rfl)
              have Yf2 := Lib.hid (Hzf.out rfl)
              clear Hst HqN Hq0 Hno1
              go_wp2_with fail
              refine wp_region_noPanic ?_
              refine wp_region_held_drew (S := fun V => (Hid (Below wr.heap.size wr V) ∧ V.cell? ⟨T, 0, none⟩ = some (.map (some bn)) ∧ V.cell? ⟨NB, 1, none⟩ = some (.string (str y.pr)) ∧ (Instr.lookup 118 (.map (some bn)) (.string (str y.pr)) true).run Tryz.prog V = .ok (.tuple #[.agg #[.string (str z.nm), .string (str z.pr), .complex .f64 (FL.fB z.o1) (FL.fB z.o2), .complex .f64 (FL.fB z.b1) (FL.fB z.b2), .complex .f64 (FL.fB z.l1) (FL.fB z.l2)], .bool true]) V)) (by kernel_rfl) S0 (fun hHeld => ?_)
              refine rTk 0 ?_; try simp only [Act.put, rP1, rP2, rP3]
              refine rTk 1 ?_; try simp only [Act.put, rP1, rP2, rP3]
              refine rTk 2 ?_; try simp only [Act.put, rP1, rP2, rP3]
              refine rTk 3 ?_; try simp only [Act.put, rP1, rP2, rP3]
              refine rTk 4 ?_; try simp only [Act.put, rP1, rP2, rP3]
              refine rTk 5 ?_; try simp only [Act.put, rP1, rP2, rP3]
              refine rTk 6 ?_; try simp only [Act.put, rP1, rP2, rP3]
              refine rTk 7 ?_; try simp only [Act.put, rP1, rP2, rP3]
              refine rTk 8 ?_; try simp only [Act.put, rP1, rP2, rP3]
              refine rTk 9 ?_; try simp only [Act.put, rP1, rP2, rP3]
              refine rBr 10 fun K hK => ?_
              go_simp
              refine hK.out _ _ (by (try dsimp only); assumption) (fun hHeld => ?_)
              clear hK K
              try simp only [Act.put, rP1, rP2, rP3]
              refine rBr 11 fun K hK => ?_
              go_simp
              try (go_wp2_with fail)
              refine hK.out _ _ (by (try dsimp only); assumption) (fun hHeld => ?_)
              clear hK K
              try simp only [Act.put, rP1, rP2, rP3]
              refine rTk 12 ?_; try simp only [Act.put, rP1, rP2, rP3]
              refine wpAnyH_done (by kernel_rfl) ?_ _
              refine NoPanic.normal ?_
              rw [← HV2.out]
              clear SA SB S0 hHeld
              go_wp2_with (rw [HV3.out])
              exact ⟨⟨k + 1, z, by omega, by simp, Yf2, Yd2, RV3, BV3, GV3⟩, by simp [intOf]; omega⟩
            · have h1 : (N.length : Int) < (k : Int) := by omega
              have hb := Lib.hid (Hno1.out (by rw [Hst.out, Hq0.out (by omega)]; rfl))
              clear Hst HqN Hq0 Hno1
              go_wp2_with fail
              refine wp_region_noPanic ?_
              refine wp_region_held_drew (S := fun V => (Hid (Below wr.heap.size wr V) ∧ V.cell? ⟨T, 0, none⟩ = some (.map (some bn)) ∧ V.cell? ⟨NB, 1, none⟩ = some (.string (str y.pr)) ∧ (Instr.lookup 118 (.map (some bn)) (.string (str y.pr)) true).run Tryz.prog V = .ok (.tuple #[.agg #[.string (str z.nm), .string (str z.pr), .complex .f64 (FL.fB z.o1) (FL.fB z.o2), .complex .f64 (FL.fB z.b1) (FL.fB z.b2), .complex .f64 (FL.fB z.l1) (FL.fB z.l2)], .bool true]) V)) (by kernel_rfl) S0 (fun hHeld => ?_)
              refine rTk 0 ?_; try simp only [Act.put, rP1, rP2, rP3]
              refine rTk 1 ?_; try simp only [Act.put, rP1, rP2, rP3]
              refine rTk 2 ?_; try simp only [Act.put, rP1, rP2, rP3]
              refine rTk 3 ?_; try simp only [Act.put, rP1, rP2, rP3]
              refine rTk 4 ?_; try simp only [Act.put, rP1, rP2, rP3]
              refine rTk 5 ?_; try simp only [Act.put, rP1, rP2, rP3]
              refine rTk 6 ?_; try simp only [Act.put, rP1, rP2, rP3]
              refine rTk 7 ?_; try simp only [Act.put, rP1, rP2, rP3]
              refine rTk 8 ?_; try simp only [Act.put, rP1, rP2, rP3]
              refine rTk 9 ?_; try simp only [Act.put, rP1, rP2, rP3]
              refine rBr 10 fun K hK => ?_
              go_simp
              refine hK.out _ _ (by (try dsimp only); assumption) (fun hHeld => ?_)
              clear hK K
              try simp only [Act.put, rP1, rP2, rP3]
              refine rBr 11 fun K hK => ?_
              go_simp
              try (go_wp2_with fail)
              refine hK.out _ _ (by (try dsimp only); assumption) (fun hHeld => ?_)
              clear hK K
              try simp only [Act.put, rP1, rP2, rP3]
              refine rTk 12 ?_; try simp only [Act.put, rP1, rP2, rP3]
              refine wpAnyH_done (by kernel_rfl) ?_ _
              refine NoPanic.normal ?_
              rw [← HV2.out]
              clear SA SB S0 hHeld HV3
              go_wp2
              go_ret
              exact ⟨by rw [hb.out]; rfl, BB2.out⟩
/-- THE TREE UNDER WAY: its maps hold the lists' where all is right. -/
structure TreeD (w : World) (T bn bu : Nat) (okN okU : Bool) (n m : Nat) (N : List QT.Nd) (U : List QT.Us) : Prop where
  tb : w.heap[T]? = some (.cells #[.map (some bn), .map (some bu)] 121)
  mN : MapD QT.Nd.nm vNd okN w bn n N
  mU : MapD QT.Us.id vUs okU w bu m U
  ne : bn ≠ bu ∧ T ≠ bn ∧ T ≠ bu
theorem TreeD.kept {X : Nat → Prop} {w w' : World} {T bn bu n m : Nat} {okN okU : Bool} {N : List QT.Nd} {U : List QT.Us} (h : TreeD w T bn bu okN okU n m N U) (f : Fr X w w') (h1 : ¬ X T) (h2 : ¬ X bn) (h3 : ¬ X bu) : TreeD w' T bn bu okN okU n m N U :=
  ⟨f.heap h.tb h1, h.mN.kept f h2, h.mU.kept f h3, h.ne⟩
theorem TreeD.below {w w' : World} {T bn bu n m : Nat} {okN okU : Bool} {N : List QT.Nd} {U : List QT.Us} (h : TreeD w T bn bu okN okU n m N U) (f : Below w.heap.size w w') : TreeD w' T bn bu okN okU n m N U :=
  h.kept (X := fun _ => False) (Fr.of_below f) (fun x => x) (fun x => x) (fun x => x)
theorem TreeD.tree {w : World} {T bn bu n m : Nat} {N : List QT.Nd} {U : List QT.Us} (h : TreeD w T bn bu true true n m N U) : TreeQ w T bn bu n m N U := ⟨h.tb, h.mN, h.mU⟩
set_option maxHeartbeats 1000000 in
/-- New. -/
theorem newQ_any (w : World) :
    Calls Tryz.prog 40 #[] w fun e w' => e = .returned (.pointer (some ⟨w.heap.size + 1 + 1, 0, none⟩)) ∧ (∀ okN okU, TreeD w' (w.heap.size + 1 + 1) w.heap.size (w.heap.size + 1) okN okU 0 0 [] []) ∧ Below w.heap.size w w' := by
  obtain ⟨W, hW⟩ : ∃ W, W = ((w.alloc (.map #[] 0)).alloc (.map #[] 0)).alloc (.cells #[.map (some w.heap.size), .map (some (w.heap.size + 1))] 121) := ⟨_, rfl⟩
  have f1 : Below (w.alloc (.map #[] 0)).heap.size (w.alloc (.map #[] 0)) W := by rw [hW]; exact ((Below.refl _ _).alloc (Nat.le_refl _) _).alloc (by simp) _
  have f2 : Below ((w.alloc (.map #[] 0)).alloc (.map #[] 0)).heap.size ((w.alloc (.map #[] 0)).alloc (.map #[] 0)) W := by rw [hW]; exact (Below.refl _ _).alloc (Nat.le_refl _) _
  have fin : (∀ okN okU, TreeD W (w.heap.size + 1 + 1) w.heap.size (w.heap.size + 1) okN okU 0 0 [] []) ∧ Below w.heap.size w W := by
    refine ⟨fun okN okU => ⟨?_, (MapD.made w).below f1, ?_, by omega, by omega, by omega⟩, ?_⟩
    · rw [hW]
      have := heap_alloc_new ((w.alloc (.map #[] 0)).alloc (.map #[] 0)) (.cells #[.map (some w.heap.size), .map (some (w.heap.size + 1))] 121)
      simpa using this
    · have := (MapD.made (key := QT.Us.id) (val := vUs) (ok := okU) (w.alloc (.map #[] 0))).below f2
      simpa using this
    · rw [hW]; exact (((Below.refl _ _).alloc (Nat.le_refl _) _).alloc (by simp) _).alloc (by simp <;> omega) _
  have Fin := Lib.hid fin
  clear fin f1 f2
  have hmm := @run_makeMap Tryz.prog
  go_enter Tryz.func40, Tryz.ntmps40
  go_wp2
  go_ret
  rw [← hW]
  exact ⟨rfl, Fin.out⟩
set_option maxRecDepth 100000 in
set_option maxHeartbeats 2000000 in
/-- An amount off what is read. -/
theorem damount_any (RB M : Nat) (l : List UInt8) (k : Nat) (w : World) (hE : Env w) (h : Rd w M l k) (hc : w.cell? ⟨RB, 0, none⟩ = some (.pointer (some ⟨M, 0, none⟩))) (hne : RB ≠ M) :
    Calls Tryz.prog 47 #[.pointer (some ⟨RB, 0, none⟩)] w fun e w' => e = .returned (.complex .f64 (FL.fB (PK.uintP QT.cap l k).1) (FL.fB (PK.uintP QT.cap (PK.uintP QT.cap l k).2.1 (PK.uintP QT.cap l k).2.2).1)) ∧
      Rd w' M (PK.uintP QT.cap (PK.uintP QT.cap l k).2.1 (PK.uintP QT.cap l k).2.2).2.1 (PK.uintP QT.cap (PK.uintP QT.cap l k).2.1 (PK.uintP QT.cap l k).2.2).2.2 ∧ Fr (fun j => j = M) w w' := by
  show Calls _ _ _ _ fun e w' => e = .returned (.complex .f64 (FL.fB (PK.uintP 1099511627776 l k).1) (FL.fB (PK.uintP 1099511627776 (PK.uintP 1099511627776 l k).2.1 (PK.uintP 1099511627776 l k).2.2).1)) ∧ Rd w' M (PK.uintP 1099511627776 (PK.uintP 1099511627776 l k).2.1 (PK.uintP 1099511627776 l k).2.2).2.1 (PK.uintP 1099511627776 (PK.uintP 1099511627776 l k).2.1 (PK.uintP 1099511627776 l k).2.2).2.2 ∧ Fr (fun j => j = M) w w'
  have hg := h.glob
  have cont : Hid (∀ V, Fr (fun j => j = M) w V → (Hid (Fr (fun j => j = M) w V) ∧ V.cell? ⟨RB, 0, none⟩ = some (.pointer (some ⟨M, 0, none⟩)))) := Lib.hid (fun V f => ⟨Lib.hid f, f.cell hc hne⟩)
  have C1 : Hid (∀ V, (Hid (Fr (fun j => j = M) w V) ∧ V.cell? ⟨RB, 0, none⟩ = some (.pointer (some ⟨M, 0, none⟩))) → Hid (Rd V M l k) → Calls Tryz.prog 19 #[.pointer (some ⟨M, 0, none⟩), .int .u64 1099511627776] V fun e w' => e = .returned (.int .u64 (PK.uintP 1099511627776 l k).1) ∧ Hid (Rd w' M (PK.uintP 1099511627776 l k).2.1 (PK.uintP 1099511627776 l k).2.2) ∧ (Hid (Fr (fun j => j = M) w w') ∧ w'.cell? ⟨RB, 0, none⟩ = some (.pointer (some ⟨M, 0, none⟩)))) := Lib.hid (fun V hs hr => (uint_any M 1099511627776 l k V (hE.kept hs.1.out (fun k hk e => by omega)) hr.out).mono fun e w' ⟨q1, q2, q3⟩ => ⟨q1, Lib.hid q2, cont.out w' (hs.1.out.trans q3)⟩)
  generalize PK.uintP 1099511627776 l k = R at *
  obtain ⟨x, l1, k1⟩ := R
  simp only at C1 ⊢
  have C2 : Hid (∀ V, (Hid (Fr (fun j => j = M) w V) ∧ V.cell? ⟨RB, 0, none⟩ = some (.pointer (some ⟨M, 0, none⟩))) → Hid (Rd V M l1 k1) → Calls Tryz.prog 19 #[.pointer (some ⟨M, 0, none⟩), .int .u64 1099511627776] V fun e w' => e = .returned (.int .u64 (PK.uintP 1099511627776 l1 k1).1) ∧ Hid (Rd w' M (PK.uintP 1099511627776 l1 k1).2.1 (PK.uintP 1099511627776 l1 k1).2.2) ∧ (Hid (Fr (fun j => j = M) w w') ∧ w'.cell? ⟨RB, 0, none⟩ = some (.pointer (some ⟨M, 0, none⟩)))) := Lib.hid (fun V hs hr => (uint_any M 1099511627776 l1 k1 V (hE.kept hs.1.out (fun k hk e => by omega)) hr.out).mono fun e w' ⟨q1, q2, q3⟩ => ⟨q1, Lib.hid q2, cont.out w' (hs.1.out.trans q3)⟩)
  generalize PK.uintP 1099511627776 l1 k1 = R at *
  obtain ⟨y, l2, k2⟩ := R
  simp only at C2 ⊢
  have cx : floatOfInt .f64 (x : Int) = FL.fB x := rfl
  have cy : floatOfInt .f64 (y : Int) = FL.fB y := rfl
  have S0 := cont.out w.drew (Fr.refl _ _).drew
  have r0 : Hid (Rd w.drew M l k) := Lib.hid ⟨h.glob, h.ex⟩
  clear h hc hne hg cont hE
  go_enter Tryz.func47, Tryz.ntmps47
  go_wp2_with fail
  refine wp_region_noPanic ?_
  refine wp_region_held_drew (S := fun V => (Hid (Fr (fun j => j = M) w V) ∧ V.cell? ⟨RB, 0, none⟩ = some (.pointer (some ⟨M, 0, none⟩)))) (by kernel_rfl) S0 (fun hHeld => ?_)
  refine rTk 0 ?_; try simp only [Act.put, rP1, rP2, rP3]
  refine rTk 2 ?_; try simp only [Act.put, rP1, rP2, rP3]
  refine rBr 1 fun K hK => ?_
  go_simp
  go_at_call 19
  refine (C1.out _ ?_ r0).mono ?_
  assumption
  rintro e v1 ⟨rfl, r1, k1⟩
  clear C1 r0
  try (go_wp2_with fail)
  refine hK.out _ _ (by (try dsimp only); assumption) (fun hHeld => ?_)
  clear hK K
  try simp only [Act.put, rP1, rP2, rP3]
  refine rBr 3 fun K hK => ?_
  go_simp
  go_at_call 19
  refine (C2.out _ ?_ r1).mono ?_
  assumption
  rintro e v2 ⟨rfl, r2, k2⟩
  clear C2 r1
  try (go_wp2_with fail)
  refine hK.out _ _ (by (try dsimp only); assumption) (fun hHeld => ?_)
  clear hK K
  try simp only [Act.put, rP1, rP2, rP3]
  refine rTk 4 ?_; try simp only [Act.put, rP1, rP2, rP3]
  refine rTk 5 ?_; try simp only [Act.put, rP1, rP2, rP3]
  refine wpAnyH_done (by kernel_rfl) ?_ _
  refine NoPanic.normal ?_
  have F2 := k2.1
  clear S0 k1 k2 hHeld
  go_wp2
  go_ret
  exact ⟨rfl, r2.out, F2.out⟩
end Go.Proofs.YtkanjdijmdjbaaaGreatDoor

namespace Go.Proofs.YtkanjdijmdjbaaaGreatDoor
open Go Go.RowKit Go.Maps Go.Sort Go.Shelf

theorem TUsQ : UsT Tryz.prog 164 52 := ⟨Tryz.underlying164, by kernel_rfl⟩
theorem GoodQ.fndU {N : List QT.Nd} {U : List QT.Us} (h : GoodQ N U) {x : QT.Us} (hx : x ∈ U) : QT.fnd QT.Us.id U x.id = some x := by
  have hp := h.pU
  clear h
  unfold QT.fnd
  induction U with
  | nil => cases hx
  | cons y r ih =>
    obtain ⟨h1, h2⟩ := List.pairwise_cons.1 hp
    rw [List.find?_cons]
    rcases List.mem_cons.1 hx with e | h'
    · subst e; simp
    · have : (y.id == x.id) = false := by simpa using h1 x h'
      rw [this]
      exact ih h' h2
set_option maxRecDepth 100000 in
set_option maxHeartbeats 4000000 in
/-- Uses. -/
theorem uses_any (T bn bu n m : Nat) (N : List QT.Nd) (U : List QT.Us) (w : World) (hT : TreeQ w T bn bu n m N U) (hR : RiseQ N U) :
    Calls Tryz.prog 76 #[.pointer (some ⟨T, 0, none⟩)] w fun e w' => ∃ a c, e = .returned (.slice a U.length c) ∧ OwnUs w' (.slice a U.length c) U ∧ (∀ b, Value.ownBlock (.slice a U.length c) = some b → w.heap.size ≤ b) ∧ Below w.heap.size w w' := by
  obtain ⟨t0, t1, _, _⟩ := cells2 hT.tb
  obtain ⟨D, hown, hr⟩ := id hT.mU
  have hsz : Maps.size D ≤ 1024 := by rw [(hr rfl).2]; exact hR.lU
  have HS := Lib.hid (sortedU bu m D (heldG vUs) w hown (by simp only [maxLen]; omega) (by omega))
  have HK := Lib.hid (fun (ss : List (List UInt8)) (hp : ss.Perm (strKeys D)) => keys_sorted hown (hr rfl) hR.rU hp)
  have HTb := Lib.hid (fun (V : World) (b : Below w.heap.size w V) => hT.below b)
  have Hlk := Lib.hid (fun (V : World) (x : QT.Us) (hx : x ∈ U) (b : Below w.heap.size w V) => show (Instr.lookup 119 (.map (some bu)) (.string (str x.id)) false).run Tryz.prog V = .ok (vUs x) V from by
    have h1 := (hT.below b).mU.look Tryz.underlying119 (zeroUs V) ⟨_, zUs_val⟩ x.id (by have := (hR.fU x hx).1.1; omega)
    rw [hR.good.fndU hx] at h1
    exact h1)
  have hUl : (U.length : Int) ≤ 281474976710656 := by have := hR.lU; omega
  have HUl := Lib.hid hR.lU
  clear hT hown hr hR hsz
  go_enter Tryz.func76, Tryz.ntmps76
  go_wp2_with fail
  refine (keysU (some bu) w).mono ?_
  rintro e w1 ⟨rfl, rfl⟩
  go_wp2_with fail
  refine HS.out.mono ?_
  rintro e w2 ⟨v, ss, rfl, hp, hrow, _, hb⟩
  have hk := HK.out ss hp
  have hlen : ss.length = (U.map QT.Us.id).length := by rw [← hk, List.length_mergeSort]
  rw [hk, hlen] at hrow
  have hO := (OwnS.of_row hrow)
  have B2 := Lib.hid (((Below.refl _ w).alloc (Nat.le_refl _) (.cells #[.map (some bu)] 119)).trans (hb.mono (by simp)))
  obtain ⟨a, c, rfl, hat⟩ := hO.at
  rw [List.length_map]
  have HA := Lib.hid hat
  clear hrow hb hk hlen HS HK hp hO hat t0 t1
  go_wp2_with fail
  go_loopw [3, 15] (fun v3 v15 V => ∃ (j : Nat) (a' : Option Addr) (c' : Nat), j ≤ U.length ∧ v15 = .int .i64 j ∧ v3 = .slice a' j c' ∧ Hid (OwnUs V (.slice a' j c') (U.take j)) ∧ Hid (∀ b, Value.ownBlock (.slice a' j c') = some b → w2.heap.size ≤ b) ∧ Hid (Below w2.heap.size w2 V)) (fun _ v _ => U.length - (intOf v).toNat)
  case atStart => exact ⟨0, none, 0, Nat.zero_le _, rfl, rfl, Lib.hid (OwnUs.nil _), Lib.hid (fun b hb => by simp [Value.ownBlock] at hb), Lib.hid (Below.refl _ _)⟩
  case round =>
    obtain ⟨j, a', c', hj, rfl, rfl, OU, OB, Vj⟩ := hrel
    by_cases hlt : j < U.length
    · have h1 : (j : Int) < (U.length : Int) := by omega
      obtain ⟨x, hx⟩ : ∃ x, U[j]? = some x := ⟨_, List.getElem?_eq_getElem hlt⟩
      have hxm := List.mem_of_getElem? hx
      obtain ⟨g, ea, hc⟩ := HA.out j x.id (by rw [List.getElem?_map, hx]; rfl)
      subst ea
      have hc2 := (World.cell?_of_block (a := ⟨g, j, none⟩) (Vj.out.block g (World.block_lt_of_cell? _ _ hc))).trans hc
      have bw : Below w.heap.size w wr := B2.out.trans (Vj.out.mono B2.out.size)
      obtain ⟨_, t1, _⟩ := cells2 (HTb.out wr bw).tb
      have hlk := Hlk.out wr x hxm bw
      rw [vUs] at hlk
      have hnext : U.take (j + 1) = U.take j ++ [x] := by rw [List.take_add_one, hx]; rfl
      have Hnext := Lib.hid hnext
      have HO : Hid (∀ o, OwnUs (wr.alloc o) (.slice a' j c') (U.take j)) := Lib.hid (fun o => OU.out.below ((Below.refl _ _).alloc (Nat.le_refl _) o))
      have HL : Hid ((U.take j).length = j) := Lib.hid (by rw [List.length_take]; omega)
      have HCc : Hid (∀ i u, (valsUs x)[i]? = some u → (wr.alloc (.cells #[.string (str x.id), .string (str x.nd), .complex .f64 (FL.fB x.a1) (FL.fB x.a2)] 52)).cell? ⟨wr.heap.size, i, none⟩ = some u) := Lib.hid (fun i u hu => by
        rw [World.cell?_alloc_new, ← hu]
        simp [valsUs])
      clear hx hxm hc bw hnext
      go_wp2_with (at_builtin; refine wpList_appUs rfl (.tmp 19) (.tmp 26) rfl TUsQ (v := .slice a' j c') (n := j) HL.out rfl (HO.out _) rfl HCc.out (by have := HUl.out; omega) ?_; intro a9 c9 w9 o9 g9 b9; have fa := (Below.refl w2.heap.size wr).alloc Vj.out.size (.cells #[.string (str x.id), .string (str x.nd), .complex .f64 (FL.fB x.a1) (FL.fB x.a2)] 52); have F9 : Hid (Below w2.heap.size w2 w9) := Lib.hid (Vj.out.trans (fa.trans ⟨g9.os, g9.tape, g9.output, g9.size, fun q hq => g9.block q (by have := Vj.out.size; have := fa.size; omega) (fun e => by have := OB.out q e; omega)⟩)); have B9 : Hid (∀ b, Value.ownBlock (.slice a9 (j + 1) c9) = some b → w2.heap.size ≤ b) := Lib.hid (fun b hb => by rcases b9 with e | ⟨g', e, hg⟩; (exact OB.out b (by rw [← e]; exact hb)); (rw [e] at hb; simp [Value.ownBlock] at hb; have := Vj.out.size; have := fa.size; omega)); have O9 := Lib.hid o9; clear o9 g9 b9 fa)
      exact ⟨⟨j + 1, a9, c9, hlt, by simp, rfl, by rw [Hnext.out]; exact O9, B9, F9⟩, by simp [intOf]; omega⟩
    · obtain rfl : j = U.length := by omega
      have OE : Hid (OwnUs wr (.slice a' U.length c') U) := Lib.hid (by have := OU.out; rwa [List.take_length] at this)
      have BE := Lib.hid (B2.out.trans (Vj.out.mono B2.out.size))
      clear OU
      go_wp2
      go_ret
      exact ⟨a', c', rfl, OE.out, fun b hb => Nat.le_trans B2.out.size (OB.out b hb), BE.out⟩
end Go.Proofs.YtkanjdijmdjbaaaGreatDoor

namespace Go.Proofs.YtkanjdijmdjbaaaGreatDoor
open Go Go.RowKit

theorem QT.fnd_none {α : Type} {key : α → QT.Str} {N : List α} {s : QT.Str} (h : ∀ y ∈ N, Op.bytesLess (key y) s = true) : QT.fnd key N s = none := by
  unfold QT.fnd
  rw [List.find?_eq_none]
  intro y hy
  have := h y hy
  simp only [beq_iff_eq]
  intro e
  rw [e, QT.less_irr] at this; cases this
theorem QT.okN_fresh {N : List QT.Nd} {x : QT.Nd} (h : (QT.okN (N ++ [x])).1 = true) : (QT.okN N).1 = true ∧ QT.fnd QT.Nd.nm N x.nm = none := by
  have h1 := h
  rw [QT.okN_snoc] at h1
  unfold QT.stepO at h1
  simp only [Bool.and_eq_true] at h1
  refine ⟨h1.1.1.1, QT.fnd_none fun y hy => ?_⟩
  obtain ⟨_, _, h3⟩ := QT.rises QT.Nd.nm (fun _ => true) (N ++ [x]) true [] h
  rw [List.pairwise_append] at h3
  exact h3.2.2 y hy x (by simp)
theorem QT.okV_fresh {N : List QT.Nd} {U : List QT.Us} {x : QT.Us} (h : (QT.okV N (U ++ [x])).1 = true) : (QT.okV N U).1 = true ∧ QT.fnd QT.Us.id U x.id = none := by
  have h1 := h
  rw [QT.okV_snoc] at h1
  unfold QT.stepO at h1
  simp only [Bool.and_eq_true] at h1
  refine ⟨h1.1.1.1, QT.fnd_none fun y hy => ?_⟩
  obtain ⟨_, _, h3⟩ := QT.rises QT.Us.id (fun u => (QT.find N u.nd).isSome) (U ++ [x]) (QT.okN N).1 [] h
  rw [List.pairwise_append] at h3
  exact h3.2.2 y hy x (by simp)
theorem QT.okN_rises {N : List QT.Nd} (h : (QT.okN N).1 = true) : N.Pairwise (fun a b => Op.bytesLess a.nm b.nm = true) := (QT.rises QT.Nd.nm (fun _ => true) N true [] h).2.2
theorem Rd.kept8q {X : Nat → Prop} {w w' : World} {M : Nat} {l : List UInt8} {k : Nat} (h : Rd w M l k) (f : Fr X w w') (hM : ¬ X M) (hx : ∀ k, X k → ∀ j n, w.cell? ⟨k, j, none⟩ ≠ some (.int .u8 n)) : Rd w' M l k := by
  obtain ⟨hg, a, c, hh, hi⟩ := h
  exact ⟨hg, a, c, f.heap hh hM, hi.kept8q f hx⟩
theorem Rd.below' {w w' : World} {M : Nat} {l : List UInt8} {k : Nat} (h : Rd w M l k) (f : Below w.heap.size w w') : Rd w' M l k :=
  h.kept8q (X := fun _ => False) (Fr.of_below f) (fun x => x) (fun _ x => x.elim)
/-- DECODE's MEMORY: the reader (block RM, its variable RB), the tree under way. -/
structure DsS (w V : World) (RM RB T bn bu : Nat) (l : List UInt8) (k : Nat) (okN okU : Bool) (n m : Nat) (N : List QT.Nd) (U : List QT.Us) : Prop where
  be : Below w.heap.size w V
  rb : V.cell? ⟨RB, 0, none⟩ = some (.pointer (some ⟨RM, 0, none⟩))
  rd : Rd V RM l k
  tr : TreeD V T bn bu okN okU n m N U
  lr : l.length ≤ roomB
  d1 : RB ≠ RM ∧ T ≠ RM ∧ bn ≠ RM ∧ bu ≠ RM ∧ RB ≠ bn ∧ RB ≠ bu
  d2 : w.heap.size ≤ RM ∧ w.heap.size ≤ bn ∧ w.heap.size ≤ bu
section
variable {n' m' : Nat} {w V V' : World} {RM RB T bn bu n m : Nat} {l l' : List UInt8} {k k' : Nat} {okN okU ok' : Bool} {N N' : List QT.Nd} {U U' : List QT.Us}
theorem DsS.below (h : DsS w V RM RB T bn bu l k okN okU n m N U) (f : Below V.heap.size V V') : DsS w V' RM RB T bn bu l k okN okU n m N U :=
  ⟨h.be.trans (f.mono h.be.size), (World.cell?_of_block (a := ⟨RB, 0, none⟩) (f.block RB (World.block_lt_of_cell? _ _ h.rb))).trans h.rb, h.rd.below' f, h.tr.below f, h.lr, h.d1, h.d2⟩
theorem DsS.env (h : DsS w V RM RB T bn bu l k okN okU n m N U) (hE : Env w) : Env V := hE.wr h.be hE.big
/-- The reader turns (and new blocks). -/
theorem DsS.rdTo (h : DsS w V RM RB T bn bu l k okN okU n m N U) (f : Fr (fun j => j = RM) V V') (hr : Rd V' RM l' k') (hl : l'.length ≤ roomB) : DsS w V' RM RB T bn bu l' k' okN okU n m N U :=
  ⟨h.be.trans ⟨f.os, f.tape, f.output, f.size, fun q hq => f.block q (Nat.lt_of_lt_of_le hq h.be.size) (by have := h.d2.1; omega)⟩, f.cell h.rb h.d1.1, hr, h.tr.kept f h.d1.2.1 h.d1.2.2.1 h.d1.2.2.2.1, hl, h.d1, h.d2⟩
theorem map_noByte {w : World} {b n : Nat} {α : Type} {key : α → QT.Str} {val : α → Value} {ok : Bool} {L : List α} (h : MapD key val ok w b n L) (j : Nat) (x : Int) : w.cell? ⟨b, j, none⟩ ≠ some (.int .u8 x) := by
  obtain ⟨D, ⟨es, clock, hb, _⟩, _⟩ := h
  simp [World.cell?, hb]
/-- The map of nodes turns. -/
theorem DsS.putN (h : DsS w V RM RB T bn bu l k okN okU n m N U) (f : Fr (fun j => j = bn) V V') (hm : MapD QT.Nd.nm vNd ok' V' bn n' N') : DsS w V' RM RB T bn bu l k ok' okU n' m N' U :=
  ⟨h.be.trans ⟨f.os, f.tape, f.output, f.size, fun q hq => f.block q (Nat.lt_of_lt_of_le hq h.be.size) (by have := h.d2.2.1; omega)⟩, f.cell h.rb h.d1.2.2.2.2.1, h.rd.kept8q f (fun e => h.d1.2.2.1 e.symm) (fun q hq => by subst hq; exact map_noByte h.tr.mN),
   ⟨f.heap h.tr.tb h.tr.ne.2.1, hm, h.tr.mU.kept f (fun e => h.tr.ne.1 e.symm), h.tr.ne⟩, h.lr, h.d1, h.d2⟩
/-- The map of uses turns. -/
theorem DsS.putU (h : DsS w V RM RB T bn bu l k okN okU n m N U) (f : Fr (fun j => j = bu) V V') (hm : MapD QT.Us.id vUs ok' V' bu m' U') : DsS w V' RM RB T bn bu l k okN ok' n m' N U' :=
  ⟨h.be.trans ⟨f.os, f.tape, f.output, f.size, fun q hq => f.block q (Nat.lt_of_lt_of_le hq h.be.size) (by have := h.d2.2.2; omega)⟩, f.cell h.rb h.d1.2.2.2.2.2, h.rd.kept8q f (fun e => h.d1.2.2.2.1 e.symm) (fun q hq => by subst hq; exact map_noByte h.tr.mU),
   ⟨f.heap h.tr.tb h.tr.ne.2.2, h.tr.mN.kept f (fun e => h.tr.ne.1 e), hm, h.tr.ne⟩, h.lr, h.d1, h.d2⟩
end
end Go.Proofs.YtkanjdijmdjbaaaGreatDoor
