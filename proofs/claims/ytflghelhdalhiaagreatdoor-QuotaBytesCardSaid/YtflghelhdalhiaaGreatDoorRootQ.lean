/-
  The program's rooted, by a contract.
  Conditions: the tree's maps hold the lists' (TreeQ), as the program asks (GoodQ); no two nodes of a name.
-/
import Derived.Test.YtflghelhdalhiaaGreatDoorG19
import Derived.Test.YtflghelhdalhiaaGreatDoorG10
import Derived.Test.YtflghelhdalhiaaGreatDoorTakeR
import Derived.Deep.RegionHeld3
namespace Go.Proofs.YtflghelhdalhiaaGreatDoor
open Go Go.RowKit

theorem QT.fnd_find (N : List QT.Nd) (s : QT.Str) : QT.fnd QT.Nd.nm N s = QT.find N s := rfl
theorem MapD.atOk {w : World} {b n : Nat} {N : List QT.Nd} (h : MapD QT.Nd.nm vNd true w b n N) (s : QT.Str) (hs : s.length ≤ 1099511627776) :
    (Instr.lookup 58 (.map (some b)) (.string (str s)) true).run Tryz.prog w = .ok (.tuple #[vNd (QT.at0 N s), .bool (QT.find N s).isSome]) w := by
  rw [h.lookOk Tryz.underlying58 (zeroNd _) ⟨_, zNd_val⟩ s hs, QT.fnd_find]
  unfold QT.at0
  rw [QT.fnd_find]
  cases QT.find N s with
  | none => rw [Option.map_none, Option.getD_none, Option.getD_none, zNd_eq]
  | some y => rfl
theorem stored5 {w : World} {M : Nat} {x0 x1 x2 x3 x4 : Value} {t : TypeId} (h : w.heap[M]? = some (.cells #[x0, x1, x2, x3, x4] t)) (y0 y1 y2 y3 y4 : Value) :
    (((((w.setCell ⟨M, 0, none⟩ y0).setCell ⟨M, 1, none⟩ y1).setCell ⟨M, 2, none⟩ y2).setCell ⟨M, 3, none⟩ y3).setCell ⟨M, 4, none⟩ y4).heap[M]? = some (.cells #[y0, y1, y2, y3, y4] t) := by
  simp only [World.setCell, Array.getElem?_modify, if_true, h, Option.map_some]
  simp
theorem fr5 (w : World) (M : Nat) (y0 y1 y2 y3 y4 : Value) : Fr (fun j => j = M) w (((((w.setCell ⟨M, 0, none⟩ y0).setCell ⟨M, 1, none⟩ y1).setCell ⟨M, 2, none⟩ y2).setCell ⟨M, 3, none⟩ y3).setCell ⟨M, 4, none⟩ y4) :=
  Fr.setCell (X := fun j => j = M) (Fr.setCell (X := fun j => j = M) (Fr.setCell (X := fun j => j = M) (Fr.setCell (X := fun j => j = M) (Fr.setCell (X := fun j => j = M) (Fr.refl _ _) (fun _ => rfl) _) (fun _ => rfl) _) (fun _ => rfl) _) (fun _ => rfl) _) (fun _ => rfl) _
set_option maxRecDepth 100000 in
set_option maxHeartbeats 8000000 in
/-- rooted. -/
theorem rooted_any (N : List QT.Nd) (U : List QT.Us) (hG : GoodQ N U) (hU : QT.Uniq N) (T bn bu n m : Nat) (w : World) (hT : TreeQ w T bn bu n m N U) :
    Calls Tryz.prog 21 #[.pointer (some ⟨T, 0, none⟩)] w fun e w' => e = .returned (.bool (QT.rootedB N)) ∧ Below w.heap.size w w' := by
  have hstc := @run_store_complex Tryz.prog
  obtain ⟨t0, t1, _, _⟩ := cells2 hT.tb
  have HM := Lib.hid hT.mN
  have HTb := Lib.hid (fun (V : World) (b : Below w.heap.size w V) => hT.below b)
  have HTlt := Lib.hid (Array.getElem?_eq_some_iff.1 hT.tb).1
  have Hf := Lib.hid (fun (t : QT.Nd) (ht : t ∈ N) => hG.fnd ht)
  have Hfn := Lib.hid hG.fN
  have Hyes : Hid ((∀ x ∈ N, (QT.dp N (N.length + 2) x.pr).isSome = true) → QT.rootedB N = true) := Lib.hid (fun h => (QT.rootedB_iff N).2 ((QT.rooted_parents hU).2 h))
  have Hno : Hid (∀ x ∈ N, (QT.dp N (N.length + 2) x.pr).isSome = false → QT.rootedB N = false) := Lib.hid (fun x hx h => by
    cases hb : QT.rootedB N with
    | false => rfl
    | true =>
      have := (QT.rooted_parents hU).1 ((QT.rootedB_iff N).1 hb) x hx
      rw [h] at this; cases this)
  have hlN : (N.length : Int) ≤ 281474976710656 := by have := hG.lN; omega
  clear hT hG hU
  go_enter Tryz.func21, Tryz.ntmps21
  go_wp2_with (at_range; refine wpList_rangeG rfl _ rfl Tryz.underlying58 HM.out rfl ?_; intro w0 hrg0 hb0 hs0; have Hrg0 := Lib.hid hrg0; have Hb0 := Lib.hid hb0; clear hrg0 hb0 hs0)
  go_frame
  clear t0 t1
  go_loopw [2] (fun _ V => ∃ (left : QT.Str → Bool) (cnt : Nat), Hid (RangeG QT.Nd.nm vNd V bn w.heap.size n N left cnt) ∧ Hid (∀ x ∈ N, left x.nm = false → (QT.dp N (N.length + 2) x.pr).isSome = true) ∧ Hid (Below w.heap.size w V)) (fun _ V => V.rangeLeft bn w.heap.size)
  case atStart => exact ⟨_, _, Hrg0, Lib.hid (fun x hx h => by rw [Hf.out x hx] at h; cases h), Hb0⟩
  case round =>
    obtain ⟨left, cnt, Hrg, Hp, Hb⟩ := hrel
    clear Hrg0 Hb0
    go_wp2_with (at_next; refine wpList_nextG rfl _ rfl Hrg.out rfl ?_ ?_)
    · intro _ hl0
      have hr := Lib.hid (Hyes.out (fun x hx => Hp.out x hx (hl0 x.nm)))
      clear hl0
      go_wp2
      go_ret
      exact ⟨by rw [hr.out]; rfl, Hb.out⟩
    · intro x w1 cnt1 hx hfx hlx hrg1 hlt hg1 hs1 hen
      rw [vNd] at hen ⊢
      have hb1 : Below w.heap.size w w1 := Hb.out.trans ⟨hg1.os, hg1.tape, hg1.output, hg1.size, fun q hq => hg1.block q (Nat.lt_of_lt_of_le hq Hb.out.size) (by omega)⟩
      have Hno1 := Lib.hid (Hno.out x hx)
      have Hne := Lib.hid (fun h : (QT.dp N (N.length + 2) x.pr).isSome = true => show ∀ y ∈ N, (left y.nm && !(y.nm == x.nm)) = false → (QT.dp N (N.length + 2) y.pr).isSome = true from fun y hy e => by
        by_cases q : y.nm = x.nm
        · have h1 := Hf.out y hy
          rw [q, Hf.out x hx] at h1
          injection h1 with h1
          rw [← h1]; exact h
        · have : (y.nm == x.nm) = false := by simpa using q
          rw [this] at e
          exact Hp.out y hy (by simpa using e))
      obtain ⟨V1, hV1⟩ : ∃ V, V = w1.alloc (.cells #[.string (str x.nm), .string (str x.pr), .complex .f64 (FL.fB x.o1) (FL.fB x.o2), .complex .f64 (FL.fB x.b1) (FL.fB x.b2), .complex .f64 (FL.fB x.l1) (FL.fB x.l2)] 43) := ⟨_, rfl⟩
      have fV1 : Below w1.heap.size w1 V1 := by rw [hV1]; exact (Below.refl _ _).alloc (Nat.le_refl _) _
      have GV1 : Hid (V1.heap[w1.heap.size]? = some (.cells #[.string (str x.nm), .string (str x.pr), .complex .f64 (FL.fB x.o1) (FL.fB x.o2), .complex .f64 (FL.fB x.b1) (FL.fB x.b2), .complex .f64 (FL.fB x.l1) (FL.fB x.l2)] 43)) := by rw [hV1]; exact heap_alloc_new _ _
      have RV1 := Lib.hid (hrg1.below fV1)
      have BV1 := Lib.hid (hb1.trans (fV1.mono hb1.size))
      have Hm : Hid (∀ V, RangeG QT.Nd.nm vNd V bn w.heap.size n N (fun s => left s && !(s == x.nm)) cnt1 → V.rangeLeft bn w.heap.size < wr.rangeLeft bn w.heap.size) := Lib.hid (fun V h => by rw [h.left_eq, Hrg.out.left_eq]; exact hlt)
      have hNB : w.heap.size < w1.heap.size := by rw [hs1]; exact Hrg.out.lt.1
      have Hxf := Lib.hid (Hfn.out x hx)
      clear hrg1 hlt hg1 hs1 hfx hlx hx hb1 fV1 Hrg Hp Hb
      go_wp2_with (rw [← hV1])
      clear hV1 hen
      generalize w1.heap.size = NB at *
      go_loopw [5] (fun v5 V => ∃ (k : Nat) (y : QT.Nd), k ≤ N.length + 1 ∧ v5 = .int .i64 k ∧ Hid (QT.fineNd y) ∧ Hid ((QT.dp N (N.length + 2) x.pr).isSome = (QT.dp N (N.length + 2 - k) y.pr).isSome) ∧ Hid (RangeG QT.Nd.nm vNd V bn w.heap.size n N (fun s => left s && !(s == x.nm)) cnt1) ∧ Hid (Below w.heap.size w V) ∧ Hid (V.heap[NB]? = some (.cells #[.string (str y.nm), .string (str y.pr), .complex .f64 (FL.fB y.o1) (FL.fB y.o2), .complex .f64 (FL.fB y.b1) (FL.fB y.b2), .complex .f64 (FL.fB y.l1) (FL.fB y.l2)] 43))) (fun v _ => N.length + 1 - (intOf v).toNat)
      case atStart => exact ⟨0, x, Nat.zero_le _, rfl, Hxf, rfl, RV1, BV1, GV1⟩
      case round =>
        obtain ⟨k, y, hk, rfl, Yf, Yd, RV, BV, GV⟩ := hrel
        clear RV1 BV1 GV1 Hxf
        obtain ⟨⟨z0, z1, z2, z3, z4⟩, f0, f1, f2, f3, f4⟩ := cells5f GV.out
        by_cases hpr : y.pr = []
        · have ht : (str y.pr).toList.isEmpty = true := by rw [str_toList, hpr]; rfl
          have hd : (QT.dp N (N.length + 2) x.pr).isSome = true := by
            rw [Yd.out, hpr]
            obtain ⟨q, hq⟩ : ∃ q, N.length + 2 - k = q + 1 := ⟨N.length + 1 - k, by omega⟩
            rw [hq]; rfl
          have HN := Lib.hid (Hne.out hd)
          have HMm := Lib.hid (Hm.out wr RV.out)
          clear hpr hd Hne Hm Yd Yf
          go_wp2
          exact ⟨⟨_, cnt1, RV, HN, BV⟩, HMm.out⟩
        · have ht : (str y.pr).toList.isEmpty = false := by rw [str_toList]; simpa using hpr
          have TW := HTb.out wr BV.out
          obtain ⟨t0, t1, _, _⟩ := cells2 TW.tb
          obtain ⟨z, hz⟩ : ∃ z, z = QT.at0 N y.pr := ⟨_, rfl⟩
          obtain ⟨fd, hfd⟩ : ∃ b, b = (QT.find N y.pr).isSome := ⟨_, rfl⟩
          have hTlt := (Array.getElem?_eq_some_iff.1 TW.tb).1
          have hNlt := (Array.getElem?_eq_some_iff.1 GV.out).1
          have cont : Hid (∀ V, Below wr.heap.size wr V → (Hid (Below wr.heap.size wr V) ∧ V.cell? ⟨T, 0, none⟩ = some (.map (some bn)) ∧ V.cell? ⟨NB, 1, none⟩ = some (.string (str y.pr)) ∧ (Instr.lookup 58 (.map (some bn)) (.string (str y.pr)) true).run Tryz.prog V = .ok (.tuple #[.agg #[.string (str z.nm), .string (str z.pr), .complex .f64 (FL.fB z.o1) (FL.fB z.o2), .complex .f64 (FL.fB z.b1) (FL.fB z.b2), .complex .f64 (FL.fB z.l1) (FL.fB z.l2)], .bool fd]) V)) := Lib.hid (fun V b => by
            have hl := (TW.below b).mN.atOk y.pr (by have := Yf.out.1.2; omega)
            rw [← hz, ← hfd, vNd] at hl
            exact ⟨Lib.hid b, (World.cell?_of_block (a := ⟨T, 0, none⟩) (b.block T hTlt)).trans t0, (World.cell?_of_block (a := ⟨NB, 1, none⟩) (b.block NB hNlt)).trans z1, hl⟩)
          have S0 := cont.out wr.drew (Below.refl _ _).drew
          have SA := cont.out (wr.alloc (.cells #[.string ⟨#[]⟩, .string ⟨#[]⟩, .complex .f64 0 0, .complex .f64 0 0, .complex .f64 0 0] 43)).drew (((Below.refl _ _).alloc (Nat.le_refl _) _).drew)
          have SB := cont.out (wr.alloc (.cells #[.string (str z.nm), .string (str z.pr), .complex .f64 (FL.fB z.o1) (FL.fB z.o2), .complex .f64 (FL.fB z.b1) (FL.fB z.b2), .complex .f64 (FL.fB z.l1) (FL.fB z.l2)] 43)).drew (((Below.refl _ _).alloc (Nat.le_refl _) _).drew)
          obtain ⟨V2, hV2⟩ : ∃ V, V = (wr.alloc (.cells #[.string (str z.nm), .string (str z.pr), .complex .f64 (FL.fB z.o1) (FL.fB z.o2), .complex .f64 (FL.fB z.b1) (FL.fB z.b2), .complex .f64 (FL.fB z.l1) (FL.fB z.l2)] 43)).drew := ⟨_, rfl⟩
          have fV2 : Below wr.heap.size wr V2 := by rw [hV2]; exact ((Below.refl _ _).alloc (Nat.le_refl _) _).drew
          have gP : V2.heap[wr.heap.size]? = some (.cells #[.string (str z.nm), .string (str z.pr), .complex .f64 (FL.fB z.o1) (FL.fB z.o2), .complex .f64 (FL.fB z.b1) (FL.fB z.b2), .complex .f64 (FL.fB z.l1) (FL.fB z.l2)] 43) := by rw [hV2]; exact heap_alloc_new _ _
          have gN := (fV2.block NB hNlt).trans GV.out
          have RV2 := RV.out.below fV2
          have BV2 := BV.out.trans (fV2.mono BV.out.size)
          obtain ⟨p0, p1, p2, p3, p4⟩ := cells5 gP
          obtain ⟨⟨n0, n1, n2, n3, n4⟩, g0, g1, g2, g3, g4⟩ := cells5f gN
          obtain ⟨t2, _⟩ := cells2 (TW.below fV2).tb
          have hlen := fun ty => (TW.below fV2).mN.len Tryz.underlying58 ty
          obtain ⟨V3, hV3⟩ : ∃ V, V = (((((V2.setCell ⟨NB, 0, none⟩ (.string (str z.nm))).setCell ⟨NB, 1, none⟩ (.string (str z.pr))).setCell ⟨NB, 2, none⟩ (.complex .f64 (FL.fB z.o1) (FL.fB z.o2))).setCell ⟨NB, 3, none⟩ (.complex .f64 (FL.fB z.b1) (FL.fB z.b2))).setCell ⟨NB, 4, none⟩ (.complex .f64 (FL.fB z.l1) (FL.fB z.l2))) := ⟨_, rfl⟩
          have f3 : Fr (fun j => j = NB) V2 V3 := by rw [hV3]; exact fr5 _ _ _ _ _ _ _
          have bnlt := HM.out.lt
          have RV3 := Lib.hid (RV2.kept f3 (by omega) (by omega))
          have BV3 : Hid (Below w.heap.size w V3) := Lib.hid (BV2.trans ⟨f3.os, f3.tape, f3.output, f3.size, fun q hq => f3.block q (Nat.lt_of_lt_of_le hq BV2.size) (by omega)⟩)
          have GV3 : Hid (V3.heap[NB]? = some (.cells #[.string (str z.nm), .string (str z.pr), .complex .f64 (FL.fB z.o1) (FL.fB z.o2), .complex .f64 (FL.fB z.b1) (FL.fB z.b2), .complex .f64 (FL.fB z.l1) (FL.fB z.l2)] 43)) := Lib.hid (by rw [hV3]; exact stored5 gN _ _ _ _ _)
          have HV3 : Hid ((((((V2.setCell ⟨NB, 0, none⟩ (.string (str z.nm))).setCell ⟨NB, 1, none⟩ (.string (str z.pr))).setCell ⟨NB, 2, none⟩ (.complex .f64 (FL.fB z.o1) (FL.fB z.o2))).setCell ⟨NB, 3, none⟩ (.complex .f64 (FL.fB z.b1) (FL.fB z.b2))).setCell ⟨NB, 4, none⟩ (.complex .f64 (FL.fB z.l1) (FL.fB z.l2))) = V3) := hV3.symm
          have BB2 := Lib.hid BV2
          obtain ⟨q, hq⟩ : ∃ q, N.length + 2 - k = q + 1 := ⟨N.length + 1 - k, by omega⟩
          have hstep : (QT.dp N (N.length + 2) x.pr).isSome = (fd && (QT.dp N q z.pr).isSome) := by
            rw [Yd.out, hq, hfd, hz]
            conv => lhs; unfold QT.dp
            rw [if_neg hpr]
            unfold QT.at0
            rw [QT.fnd_find]
            cases QT.find N y.pr with
            | none => rfl
            | some u => simp
          have Hzf : Hid (fd = true → QT.fineNd z) := Lib.hid (fun e => by
            rw [hz]
            unfold QT.at0
            rw [QT.fnd_find]
            rw [hfd] at e
            obtain ⟨u, hu⟩ := Option.isSome_iff_exists.1 e
            rw [hu]
            exact Hfn.out u (QT.find_mem hu).1)
          have Hst := Lib.hid hstep
          have HqN : Hid (N.length + 2 - (k + 1) = q) := Lib.hid (by omega)
          have Hq0 : Hid (k = N.length + 1 → q = 0) := Lib.hid (by omega)
          have HV2 := Lib.hid hV2
          clear hTlt hNlt cont hz hfd fV2 gP gN RV2 BV2 hV3 f3 hq hstep hV2 hpr Yd Yf
          cases fd with
          | false =>
            have hb := Lib.hid (Hno1.out (by rw [Hst.out]; rfl))
            clear Hno1 Hst
            go_wp2_with fail
            refine wp_region_noPanic ?_
            refine wp_region_held_drew (S := fun V => (Hid (Below wr.heap.size wr V) ∧ V.cell? ⟨T, 0, none⟩ = some (.map (some bn)) ∧ V.cell? ⟨NB, 1, none⟩ = some (.string (str y.pr)) ∧ (Instr.lookup 58 (.map (some bn)) (.string (str y.pr)) true).run Tryz.prog V = .ok (.tuple #[.agg #[.string (str z.nm), .string (str z.pr), .complex .f64 (FL.fB z.o1) (FL.fB z.o2), .complex .f64 (FL.fB z.b1) (FL.fB z.b2), .complex .f64 (FL.fB z.l1) (FL.fB z.l2)], .bool false]) V)) (by kernel_rfl) S0 (fun hHeld => ?_)
            refine wpAnyH_take (i := 0) (v := ?hva0) (List.getElem?_toArray.trans rfl) (by kernel_rfl) (by kernel_rfl) (by kernel_rfl) (fun _ _ _ h => h) (Or.inl ⟨by rfl, ?hya0⟩) (by assumption) ?hra0
            case hya0 => (intro wt hSw; (try dsimp only at hSw); go_simp; try (with_reducible rfl))
            try simp only [Act.put, List.setIfInBounds_toArray, List.set_cons_zero, List.set_cons_succ]
            refine wpAnyH_take (i := 1) (v := ?hva1) (List.getElem?_toArray.trans rfl) (by kernel_rfl) (by kernel_rfl) (by kernel_rfl) (fun _ _ _ h => h) (Or.inl ⟨by rfl, ?hya1⟩) (by assumption) ?hra1
            case hya1 => (intro wt hSw; (try dsimp only at hSw); go_simp; try (with_reducible rfl))
            try simp only [Act.put, List.setIfInBounds_toArray, List.set_cons_zero, List.set_cons_succ]
            refine wpAnyH_take (i := 2) (v := ?hva2) (List.getElem?_toArray.trans rfl) (by kernel_rfl) (by kernel_rfl) (by kernel_rfl) (fun _ _ _ h => h) (Or.inl ⟨by rfl, ?hya2⟩) (by assumption) ?hra2
            case hya2 => (intro wt hSw; (try dsimp only at hSw); go_simp; try (with_reducible rfl))
            try simp only [Act.put, List.setIfInBounds_toArray, List.set_cons_zero, List.set_cons_succ]
            refine wpAnyH_take (i := 3) (v := ?hva3) (List.getElem?_toArray.trans rfl) (by kernel_rfl) (by kernel_rfl) (by kernel_rfl) (fun _ _ _ h => h) (Or.inl ⟨by rfl, ?hya3⟩) (by assumption) ?hra3
            case hya3 => (intro wt hSw; (try dsimp only at hSw); go_simp; try (with_reducible rfl))
            try simp only [Act.put, List.setIfInBounds_toArray, List.set_cons_zero, List.set_cons_succ]
            refine wpAnyH_take (i := 4) (v := ?hva4) (List.getElem?_toArray.trans rfl) (by kernel_rfl) (by kernel_rfl) (by kernel_rfl) (fun _ _ _ h => h) (Or.inl ⟨by rfl, ?hya4⟩) (by assumption) ?hra4
            case hya4 => (intro wt hSw; (try dsimp only at hSw); go_simp; try (with_reducible rfl))
            try simp only [Act.put, List.setIfInBounds_toArray, List.set_cons_zero, List.set_cons_succ]
            refine wpAnyH_take (i := 5) (v := ?hva5) (List.getElem?_toArray.trans rfl) (by kernel_rfl) (by kernel_rfl) (by kernel_rfl) (fun _ _ _ h => h) (Or.inl ⟨by rfl, ?hya5⟩) (by assumption) ?hra5
            case hya5 => (intro wt hSw; (try dsimp only at hSw); go_simp; try (with_reducible rfl))
            try simp only [Act.put, List.setIfInBounds_toArray, List.set_cons_zero, List.set_cons_succ]
            refine wpAnyH_take (i := 6) (v := ?hva6) (List.getElem?_toArray.trans rfl) (by kernel_rfl) (by kernel_rfl) (by kernel_rfl) (fun _ _ _ h => h) (Or.inl ⟨by rfl, ?hya6⟩) (by assumption) ?hra6
            case hya6 => (intro wt hSw; (try dsimp only at hSw); go_simp; try (with_reducible rfl))
            try simp only [Act.put, List.setIfInBounds_toArray, List.set_cons_zero, List.set_cons_succ]
            refine wpAnyH_take (i := 7) (v := ?hva7) (List.getElem?_toArray.trans rfl) (by kernel_rfl) (by kernel_rfl) (by kernel_rfl) (fun _ _ _ h => h) (Or.inl ⟨by rfl, ?hya7⟩) (by assumption) ?hra7
            case hya7 => (intro wt hSw; (try dsimp only at hSw); go_simp; try (with_reducible rfl))
            try simp only [Act.put, List.setIfInBounds_toArray, List.set_cons_zero, List.set_cons_succ]
            refine wpAnyH_take (i := 8) (v := ?hva8) (List.getElem?_toArray.trans rfl) (by kernel_rfl) (by kernel_rfl) (by kernel_rfl) (fun _ _ _ h => h) (Or.inl ⟨by rfl, ?hya8⟩) (by assumption) ?hra8
            case hya8 => (intro wt hSw; (try dsimp only at hSw); go_simp; try (with_reducible rfl))
            try simp only [Act.put, List.setIfInBounds_toArray, List.set_cons_zero, List.set_cons_succ]
            refine wpAnyH_take (i := 9) (v := ?hva9) (List.getElem?_toArray.trans rfl) (by kernel_rfl) (by kernel_rfl) (by kernel_rfl) (fun _ _ _ h => h) (Or.inl ⟨by rfl, ?hya9⟩) (by assumption) ?hra9
            case hya9 => (intro wt hSw; (try dsimp only at hSw); go_simp; try (with_reducible rfl))
            try simp only [Act.put, List.setIfInBounds_toArray, List.set_cons_zero, List.set_cons_succ]
            refine wpAnyH_ready (rs := [10]) (by kernel_rfl) (by simp) ?_
            refine AllReadyH.cons (List.getElem?_toArray.trans rfl) (fun K hK => ?_) AllReadyH.nil
            go_simp
            refine hK.out _ _ ?_ (fun hHeld => ?_)
            · (try dsimp only)
              assumption
            clear hK K
            try simp only [Act.put, List.setIfInBounds_toArray, List.set_cons_zero, List.set_cons_succ]
            refine wpAnyH_ready (rs := [11]) (by kernel_rfl) (by simp) ?_
            refine AllReadyH.cons (List.getElem?_toArray.trans rfl) (fun K hK => ?_) AllReadyH.nil
            go_simp
            try (go_wp2_with fail)
            refine hK.out _ _ ?_ (fun hHeld => ?_)
            · (try dsimp only)
              assumption
            clear hK K
            try simp only [Act.put, List.setIfInBounds_toArray, List.set_cons_zero, List.set_cons_succ]
            refine wpAnyH_take (i := 12) (v := ?hva12) (List.getElem?_toArray.trans rfl) (by kernel_rfl) (by kernel_rfl) (by kernel_rfl) (fun _ _ _ h => h) (Or.inl ⟨by rfl, ?hya12⟩) (by assumption) ?hra12
            case hya12 => (intro wt hSw; (try dsimp only at hSw); go_simp; try (with_reducible rfl))
            try simp only [Act.put, List.setIfInBounds_toArray, List.set_cons_zero, List.set_cons_succ]
            refine wpAnyH_done (by kernel_rfl) ?_ _
            refine NoPanic.normal ?_
            rw [← HV2.out]
            clear SA SB S0 hHeld HV3
            go_wp2
            go_ret
            exact ⟨by rw [hb.out]; rfl, BB2.out⟩
          | true =>
            by_cases hkn : k ≤ N.length
            · have h1 : ¬ ((N.length : Int) < (k : Int)) := by omega
              have Yd2 : Hid ((QT.dp N (N.length + 2) x.pr).isSome = (QT.dp N (N.length + 2 - (k + 1)) z.pr).isSome) := Lib.hid (by rw [Hst.out, HqN.out]; rfl)
              have Yf2 := Lib.hid (Hzf.out rfl)
              clear Hst HqN Hq0 Hno1
              go_wp2_with fail
              refine wp_region_noPanic ?_
              refine wp_region_held_drew (S := fun V => (Hid (Below wr.heap.size wr V) ∧ V.cell? ⟨T, 0, none⟩ = some (.map (some bn)) ∧ V.cell? ⟨NB, 1, none⟩ = some (.string (str y.pr)) ∧ (Instr.lookup 58 (.map (some bn)) (.string (str y.pr)) true).run Tryz.prog V = .ok (.tuple #[.agg #[.string (str z.nm), .string (str z.pr), .complex .f64 (FL.fB z.o1) (FL.fB z.o2), .complex .f64 (FL.fB z.b1) (FL.fB z.b2), .complex .f64 (FL.fB z.l1) (FL.fB z.l2)], .bool true]) V)) (by kernel_rfl) S0 (fun hHeld => ?_)
              refine wpAnyH_take (i := 0) (v := ?hvb0) (List.getElem?_toArray.trans rfl) (by kernel_rfl) (by kernel_rfl) (by kernel_rfl) (fun _ _ _ h => h) (Or.inl ⟨by rfl, ?hyb0⟩) (by assumption) ?hrb0
              case hyb0 => (intro wt hSw; (try dsimp only at hSw); go_simp; try (with_reducible rfl))
              try simp only [Act.put, List.setIfInBounds_toArray, List.set_cons_zero, List.set_cons_succ]
              refine wpAnyH_take (i := 1) (v := ?hvb1) (List.getElem?_toArray.trans rfl) (by kernel_rfl) (by kernel_rfl) (by kernel_rfl) (fun _ _ _ h => h) (Or.inl ⟨by rfl, ?hyb1⟩) (by assumption) ?hrb1
              case hyb1 => (intro wt hSw; (try dsimp only at hSw); go_simp; try (with_reducible rfl))
              try simp only [Act.put, List.setIfInBounds_toArray, List.set_cons_zero, List.set_cons_succ]
              refine wpAnyH_take (i := 2) (v := ?hvb2) (List.getElem?_toArray.trans rfl) (by kernel_rfl) (by kernel_rfl) (by kernel_rfl) (fun _ _ _ h => h) (Or.inl ⟨by rfl, ?hyb2⟩) (by assumption) ?hrb2
              case hyb2 => (intro wt hSw; (try dsimp only at hSw); go_simp; try (with_reducible rfl))
              try simp only [Act.put, List.setIfInBounds_toArray, List.set_cons_zero, List.set_cons_succ]
              refine wpAnyH_take (i := 3) (v := ?hvb3) (List.getElem?_toArray.trans rfl) (by kernel_rfl) (by kernel_rfl) (by kernel_rfl) (fun _ _ _ h => h) (Or.inl ⟨by rfl, ?hyb3⟩) (by assumption) ?hrb3
              case hyb3 => (intro wt hSw; (try dsimp only at hSw); go_simp; try (with_reducible rfl))
              try simp only [Act.put, List.setIfInBounds_toArray, List.set_cons_zero, List.set_cons_succ]
              refine wpAnyH_take (i := 4) (v := ?hvb4) (List.getElem?_toArray.trans rfl) (by kernel_rfl) (by kernel_rfl) (by kernel_rfl) (fun _ _ _ h => h) (Or.inl ⟨by rfl, ?hyb4⟩) (by assumption) ?hrb4
              case hyb4 => (intro wt hSw; (try dsimp only at hSw); go_simp; try (with_reducible rfl))
              try simp only [Act.put, List.setIfInBounds_toArray, List.set_cons_zero, List.set_cons_succ]
              refine wpAnyH_take (i := 5) (v := ?hvb5) (List.getElem?_toArray.trans rfl) (by kernel_rfl) (by kernel_rfl) (by kernel_rfl) (fun _ _ _ h => h) (Or.inl ⟨by rfl, ?hyb5⟩) (by assumption) ?hrb5
              case hyb5 => (intro wt hSw; (try dsimp only at hSw); go_simp; try (with_reducible rfl))
              try simp only [Act.put, List.setIfInBounds_toArray, List.set_cons_zero, List.set_cons_succ]
              refine wpAnyH_take (i := 6) (v := ?hvb6) (List.getElem?_toArray.trans rfl) (by kernel_rfl) (by kernel_rfl) (by kernel_rfl) (fun _ _ _ h => h) (Or.inl ⟨by rfl, ?hyb6⟩) (by assumption) ?hrb6
              case hyb6 => (intro wt hSw; (try dsimp only at hSw); go_simp; try (with_reducible rfl))
              try simp only [Act.put, List.setIfInBounds_toArray, List.set_cons_zero, List.set_cons_succ]
              refine wpAnyH_take (i := 7) (v := ?hvb7) (List.getElem?_toArray.trans rfl) (by kernel_rfl) (by kernel_rfl) (by kernel_rfl) (fun _ _ _ h => h) (Or.inl ⟨by rfl, ?hyb7⟩) (by assumption) ?hrb7
              case hyb7 => (intro wt hSw; (try dsimp only at hSw); go_simp; try (with_reducible rfl))
              try simp only [Act.put, List.setIfInBounds_toArray, List.set_cons_zero, List.set_cons_succ]
              refine wpAnyH_take (i := 8) (v := ?hvb8) (List.getElem?_toArray.trans rfl) (by kernel_rfl) (by kernel_rfl) (by kernel_rfl) (fun _ _ _ h => h) (Or.inl ⟨by rfl, ?hyb8⟩) (by assumption) ?hrb8
              case hyb8 => (intro wt hSw; (try dsimp only at hSw); go_simp; try (with_reducible rfl))
              try simp only [Act.put, List.setIfInBounds_toArray, List.set_cons_zero, List.set_cons_succ]
              refine wpAnyH_take (i := 9) (v := ?hvb9) (List.getElem?_toArray.trans rfl) (by kernel_rfl) (by kernel_rfl) (by kernel_rfl) (fun _ _ _ h => h) (Or.inl ⟨by rfl, ?hyb9⟩) (by assumption) ?hrb9
              case hyb9 => (intro wt hSw; (try dsimp only at hSw); go_simp; try (with_reducible rfl))
              try simp only [Act.put, List.setIfInBounds_toArray, List.set_cons_zero, List.set_cons_succ]
              refine wpAnyH_ready (rs := [10]) (by kernel_rfl) (by simp) ?_
              refine AllReadyH.cons (List.getElem?_toArray.trans rfl) (fun K hK => ?_) AllReadyH.nil
              go_simp
              refine hK.out _ _ ?_ (fun hHeld => ?_)
              · (try dsimp only)
                assumption
              clear hK K
              try simp only [Act.put, List.setIfInBounds_toArray, List.set_cons_zero, List.set_cons_succ]
              refine wpAnyH_ready (rs := [11]) (by kernel_rfl) (by simp) ?_
              refine AllReadyH.cons (List.getElem?_toArray.trans rfl) (fun K hK => ?_) AllReadyH.nil
              go_simp
              try (go_wp2_with fail)
              refine hK.out _ _ ?_ (fun hHeld => ?_)
              · (try dsimp only)
                assumption
              clear hK K
              try simp only [Act.put, List.setIfInBounds_toArray, List.set_cons_zero, List.set_cons_succ]
              refine wpAnyH_take (i := 12) (v := ?hvb12) (List.getElem?_toArray.trans rfl) (by kernel_rfl) (by kernel_rfl) (by kernel_rfl) (fun _ _ _ h => h) (Or.inl ⟨by rfl, ?hyb12⟩) (by assumption) ?hrb12
              case hyb12 => (intro wt hSw; (try dsimp only at hSw); go_simp; try (with_reducible rfl))
              try simp only [Act.put, List.setIfInBounds_toArray, List.set_cons_zero, List.set_cons_succ]
              refine wpAnyH_done (by kernel_rfl) ?_ _
              refine NoPanic.normal ?_
              rw [← HV2.out]
              clear SA SB S0 hHeld
              go_wp2_with (rw [HV3.out])
              exact ⟨⟨k + 1, z, by omega, by simp, Yf2, Yd2, RV3, BV3, GV3⟩, by simp [intOf]; omega⟩
            · have h1 : (N.length : Int) < (k : Int) := by omega
              have hb := Lib.hid (Hno1.out (by rw [Hst.out, Hq0.out (by omega)]; rfl))
              clear Hst HqN Hq0 Hno1
              go_wp2_with fail
              refine wp_region_noPanic ?_
              refine wp_region_held_drew (S := fun V => (Hid (Below wr.heap.size wr V) ∧ V.cell? ⟨T, 0, none⟩ = some (.map (some bn)) ∧ V.cell? ⟨NB, 1, none⟩ = some (.string (str y.pr)) ∧ (Instr.lookup 58 (.map (some bn)) (.string (str y.pr)) true).run Tryz.prog V = .ok (.tuple #[.agg #[.string (str z.nm), .string (str z.pr), .complex .f64 (FL.fB z.o1) (FL.fB z.o2), .complex .f64 (FL.fB z.b1) (FL.fB z.b2), .complex .f64 (FL.fB z.l1) (FL.fB z.l2)], .bool true]) V)) (by kernel_rfl) S0 (fun hHeld => ?_)
              refine wpAnyH_take (i := 0) (v := ?hvc0) (List.getElem?_toArray.trans rfl) (by kernel_rfl) (by kernel_rfl) (by kernel_rfl) (fun _ _ _ h => h) (Or.inl ⟨by rfl, ?hyc0⟩) (by assumption) ?hrc0
              case hyc0 => (intro wt hSw; (try dsimp only at hSw); go_simp; try (with_reducible rfl))
              try simp only [Act.put, List.setIfInBounds_toArray, List.set_cons_zero, List.set_cons_succ]
              refine wpAnyH_take (i := 1) (v := ?hvc1) (List.getElem?_toArray.trans rfl) (by kernel_rfl) (by kernel_rfl) (by kernel_rfl) (fun _ _ _ h => h) (Or.inl ⟨by rfl, ?hyc1⟩) (by assumption) ?hrc1
              case hyc1 => (intro wt hSw; (try dsimp only at hSw); go_simp; try (with_reducible rfl))
              try simp only [Act.put, List.setIfInBounds_toArray, List.set_cons_zero, List.set_cons_succ]
              refine wpAnyH_take (i := 2) (v := ?hvc2) (List.getElem?_toArray.trans rfl) (by kernel_rfl) (by kernel_rfl) (by kernel_rfl) (fun _ _ _ h => h) (Or.inl ⟨by rfl, ?hyc2⟩) (by assumption) ?hrc2
              case hyc2 => (intro wt hSw; (try dsimp only at hSw); go_simp; try (with_reducible rfl))
              try simp only [Act.put, List.setIfInBounds_toArray, List.set_cons_zero, List.set_cons_succ]
              refine wpAnyH_take (i := 3) (v := ?hvc3) (List.getElem?_toArray.trans rfl) (by kernel_rfl) (by kernel_rfl) (by kernel_rfl) (fun _ _ _ h => h) (Or.inl ⟨by rfl, ?hyc3⟩) (by assumption) ?hrc3
              case hyc3 => (intro wt hSw; (try dsimp only at hSw); go_simp; try (with_reducible rfl))
              try simp only [Act.put, List.setIfInBounds_toArray, List.set_cons_zero, List.set_cons_succ]
              refine wpAnyH_take (i := 4) (v := ?hvc4) (List.getElem?_toArray.trans rfl) (by kernel_rfl) (by kernel_rfl) (by kernel_rfl) (fun _ _ _ h => h) (Or.inl ⟨by rfl, ?hyc4⟩) (by assumption) ?hrc4
              case hyc4 => (intro wt hSw; (try dsimp only at hSw); go_simp; try (with_reducible rfl))
              try simp only [Act.put, List.setIfInBounds_toArray, List.set_cons_zero, List.set_cons_succ]
              refine wpAnyH_take (i := 5) (v := ?hvc5) (List.getElem?_toArray.trans rfl) (by kernel_rfl) (by kernel_rfl) (by kernel_rfl) (fun _ _ _ h => h) (Or.inl ⟨by rfl, ?hyc5⟩) (by assumption) ?hrc5
              case hyc5 => (intro wt hSw; (try dsimp only at hSw); go_simp; try (with_reducible rfl))
              try simp only [Act.put, List.setIfInBounds_toArray, List.set_cons_zero, List.set_cons_succ]
              refine wpAnyH_take (i := 6) (v := ?hvc6) (List.getElem?_toArray.trans rfl) (by kernel_rfl) (by kernel_rfl) (by kernel_rfl) (fun _ _ _ h => h) (Or.inl ⟨by rfl, ?hyc6⟩) (by assumption) ?hrc6
              case hyc6 => (intro wt hSw; (try dsimp only at hSw); go_simp; try (with_reducible rfl))
              try simp only [Act.put, List.setIfInBounds_toArray, List.set_cons_zero, List.set_cons_succ]
              refine wpAnyH_take (i := 7) (v := ?hvc7) (List.getElem?_toArray.trans rfl) (by kernel_rfl) (by kernel_rfl) (by kernel_rfl) (fun _ _ _ h => h) (Or.inl ⟨by rfl, ?hyc7⟩) (by assumption) ?hrc7
              case hyc7 => (intro wt hSw; (try dsimp only at hSw); go_simp; try (with_reducible rfl))
              try simp only [Act.put, List.setIfInBounds_toArray, List.set_cons_zero, List.set_cons_succ]
              refine wpAnyH_take (i := 8) (v := ?hvc8) (List.getElem?_toArray.trans rfl) (by kernel_rfl) (by kernel_rfl) (by kernel_rfl) (fun _ _ _ h => h) (Or.inl ⟨by rfl, ?hyc8⟩) (by assumption) ?hrc8
              case hyc8 => (intro wt hSw; (try dsimp only at hSw); go_simp; try (with_reducible rfl))
              try simp only [Act.put, List.setIfInBounds_toArray, List.set_cons_zero, List.set_cons_succ]
              refine wpAnyH_take (i := 9) (v := ?hvc9) (List.getElem?_toArray.trans rfl) (by kernel_rfl) (by kernel_rfl) (by kernel_rfl) (fun _ _ _ h => h) (Or.inl ⟨by rfl, ?hyc9⟩) (by assumption) ?hrc9
              case hyc9 => (intro wt hSw; (try dsimp only at hSw); go_simp; try (with_reducible rfl))
              try simp only [Act.put, List.setIfInBounds_toArray, List.set_cons_zero, List.set_cons_succ]
              refine wpAnyH_ready (rs := [10]) (by kernel_rfl) (by simp) ?_
              refine AllReadyH.cons (List.getElem?_toArray.trans rfl) (fun K hK => ?_) AllReadyH.nil
              go_simp
              refine hK.out _ _ ?_ (fun hHeld => ?_)
              · (try dsimp only)
                assumption
              clear hK K
              try simp only [Act.put, List.setIfInBounds_toArray, List.set_cons_zero, List.set_cons_succ]
              refine wpAnyH_ready (rs := [11]) (by kernel_rfl) (by simp) ?_
              refine AllReadyH.cons (List.getElem?_toArray.trans rfl) (fun K hK => ?_) AllReadyH.nil
              go_simp
              try (go_wp2_with fail)
              refine hK.out _ _ ?_ (fun hHeld => ?_)
              · (try dsimp only)
                assumption
              clear hK K
              try simp only [Act.put, List.setIfInBounds_toArray, List.set_cons_zero, List.set_cons_succ]
              refine wpAnyH_take (i := 12) (v := ?hvc12) (List.getElem?_toArray.trans rfl) (by kernel_rfl) (by kernel_rfl) (by kernel_rfl) (fun _ _ _ h => h) (Or.inl ⟨by rfl, ?hyc12⟩) (by assumption) ?hrc12
              case hyc12 => (intro wt hSw; (try dsimp only at hSw); go_simp; try (with_reducible rfl))
              try simp only [Act.put, List.setIfInBounds_toArray, List.set_cons_zero, List.set_cons_succ]
              refine wpAnyH_done (by kernel_rfl) ?_ _
              refine NoPanic.normal ?_
              rw [← HV2.out]
              clear SA SB S0 hHeld HV3
              go_wp2
              go_ret
              exact ⟨by rw [hb.out]; rfl, BB2.out⟩
end Go.Proofs.YtflghelhdalhiaaGreatDoor
