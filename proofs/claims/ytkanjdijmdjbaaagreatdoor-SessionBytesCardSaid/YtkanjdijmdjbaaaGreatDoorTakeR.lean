/-
  The document's Take of a tree, by a contract.
  Conditions: what the reader holds reads as bytes and is at most 2^47 bytes long.
-/
import Derived.Test.YtkanjdijmdjbaaaGreatDoorTakeS
import Derived.Test.YtkanjdijmdjbaaaGreatDoorG4
namespace Go.Proofs.YtkanjdijmdjbaaaGreatDoor
open Go Go.RowKit

/-- What Take hands back. -/
def RTk (w w' : World) (v : Ending) (l : List UInt8) (k : Nat) : Prop :=
  (∃ (a : Option Addr) (n c : Nat) (l' : List UInt8) (k' : Nat) (vN : Value) (N : List QT.Nd) (vU : Value) (U : List QT.Us) (ok : Bool), v = .returned (.tuple #[.agg #[.slice a n c, .int .i64 (k' : Nat)], .agg #[vN, vU], .bool ok]) ∧ l'.length = n ∧
    RdsNd w' vN N ∧ RdsUs w' vU U ∧ (k' = 0 ↔ (QT.takeT l k).2.2.2 = 0) ∧ (k' = 0 → QT.takeT l k = (N, U, l', 0) ∧ ok = (QT.okV N U).1)) ∧ Below w.heap.size w w'
theorem TkS.init (w : World) (a : Option Addr) (n c : Nat) (l : List UInt8) (k : Nat) (hv : IsB w (.slice a n c) l) (hn : l.length = n) (hl : l.length ≤ roomB) :
    TkS w ((((w.alloc (.cells #[.slice a n c, .int .i64 k] 80)).alloc (.cells #[.slice none 0 0, .int .i64 0] 80)).alloc (.cells #[.slice none 0 0, .slice none 0 0] 32)).alloc (.cells #[.slice none 0 0, .slice none 0 0] 32)) a n c l k (.slice none 0 0) [] (.slice none 0 0) [] := by
  refine ⟨((((Below.refl _ _).alloc (Nat.le_refl _) _).alloc (by simp) _).alloc (by simp <;> omega) _).alloc (by simp <;> omega) _, ?_, ?_, ?_, ?_, (((hv.alloc _).alloc _).alloc _).alloc _, hn, hl, .nil _, .nil _, ?_, ?_, ?_⟩
  · rw [Below.heap_alloc _ _ _ (by simp <;> omega), Below.heap_alloc _ _ _ (by simp <;> omega), Below.heap_alloc _ _ _ (by simp)]
    exact heap_alloc_new _ _
  · rw [Below.heap_alloc _ _ _ (by simp <;> omega), Below.heap_alloc _ _ _ (by simp)]
    have := heap_alloc_new (w.alloc (.cells #[.slice a n c, .int .i64 k] 80)) (.cells #[.slice none 0 0, .int .i64 0] 80)
    simpa using this
  · rw [Below.heap_alloc _ _ _ (by simp)]
    have := heap_alloc_new ((w.alloc (.cells #[.slice a n c, .int .i64 k] 80)).alloc (.cells #[.slice none 0 0, .int .i64 0] 80)) (.cells #[.slice none 0 0, .slice none 0 0] 32)
    simpa using this
  · have := heap_alloc_new (((w.alloc (.cells #[.slice a n c, .int .i64 k] 80)).alloc (.cells #[.slice none 0 0, .int .i64 0] 80)).alloc (.cells #[.slice none 0 0, .slice none 0 0] 32)) (.cells #[.slice none 0 0, .slice none 0 0] 32)
    simpa using this
  · intro b hb; simp [Value.ownBlock] at hb
  · intro b hb; simp [Value.ownBlock] at hb
  · intro b hb; simp [Value.ownBlock] at hb
theorem OwnNd.form {w : World} {v : Value} {xs : List QT.Nd} (h : OwnNd w v xs) : ∃ a c, v = .slice a xs.length c := by
  rcases h with ⟨rfl, rfl⟩ | ⟨g, cap, rfl, _⟩
  · exact ⟨none, 0, rfl⟩
  · exact ⟨_, _, rfl⟩
theorem OwnUs.form {w : World} {v : Value} {xs : List QT.Us} (h : OwnUs w v xs) : ∃ a c, v = .slice a xs.length c := by
  rcases h with ⟨rfl, rfl⟩ | ⟨g, cap, rfl, _⟩
  · exact ⟨none, 0, rfl⟩
  · exact ⟨_, _, rfl⟩
theorem cells5f {W : World} {B : Nat} {x0 x1 x2 x3 x4 : Value} {t : TypeId} (h : W.heap[B]? = some (.cells #[x0, x1, x2, x3, x4] t)) :
    (W.cell? ⟨B, 0, none⟩ = some x0 ∧ W.cell? ⟨B, 1, none⟩ = some x1 ∧ W.cell? ⟨B, 2, none⟩ = some x2 ∧ W.cell? ⟨B, 3, none⟩ = some x3 ∧ W.cell? ⟨B, 4, none⟩ = some x4) ∧
    W.frozen? ⟨B, 0, none⟩ = false ∧ W.frozen? ⟨B, 1, none⟩ = false ∧ W.frozen? ⟨B, 2, none⟩ = false ∧ W.frozen? ⟨B, 3, none⟩ = false ∧ W.frozen? ⟨B, 4, none⟩ = false := by simp [World.cell?, World.frozen?, h]
theorem cells3f {W : World} {B : Nat} {x0 x1 x2 : Value} {t : TypeId} (h : W.heap[B]? = some (.cells #[x0, x1, x2] t)) :
    (W.cell? ⟨B, 0, none⟩ = some x0 ∧ W.cell? ⟨B, 1, none⟩ = some x1 ∧ W.cell? ⟨B, 2, none⟩ = some x2) ∧ W.frozen? ⟨B, 0, none⟩ = false ∧ W.frozen? ⟨B, 1, none⟩ = false ∧ W.frozen? ⟨B, 2, none⟩ = false := by simp [World.cell?, World.frozen?, h]
set_option maxRecDepth 100000 in
set_option maxHeartbeats 32000000 in
/-- Take. -/
theorem rtakeT_any (a : Option Addr) (n c : Nat) (l : List UInt8) (k : Nat) (w : World) (hn : l.length = n) (hv : IsB w (.slice a n c) l) (hl47 : l.length ≤ roomB) :
    Calls Tryz.prog 59 #[.agg #[.slice a n c, .int .i64 (k : Nat)]] w fun v w' => RTk w w' v l k := by
  subst hn
  have hstc := @run_store_complex Tryz.prog
  obtain ⟨cn, la, ka, hp0⟩ : ∃ v l' k', PK.countP 256 l k = (v, l', k') := ⟨_, _, _, rfl⟩
  have hcn : cn ≤ 256 := by have := QT.count_cap 256 l k; rw [show ((256 : Nat) : Int) = 256 from rfl, hp0] at this; exact this
  have hcn' : (cn : Int) ≤ 281474976710656 := by omega
  have hlra : la.length ≤ roomB := by have := QT.count_rest 256 l k; rw [hp0] at this; exact Nat.le_trans this hl47
  have T0 := TkS.init w a l.length c l k hv rfl hl47
  have HC1 := Lib.hid (rreadCount_any256 a c k l _ T0.is)
  rw [hp0] at HC1
  have HT0 := Lib.hid T0
  have HP0 := Lib.hid hp0
  have HCn := Lib.hid hcn
  clear T0 hv hl47 hp0 hcn
  go_enter Tryz.func59, Tryz.ntmps59
  go_wp2_with fail
  refine HC1.out.mono ?_
  rintro e w1 ⟨⟨a1, c1, rfl, i1⟩, b1⟩

  have T1 := HT0.out.below b1
  have T2 := T1.putR (k' := ka) i1 rfl hlra
  obtain ⟨s0, s1, s2, s3⟩ := cells2 T1.rd
  obtain ⟨V2, hV2⟩ : ∃ V, V = put2q w1 w.heap.size a1 la.length c1 ka := ⟨_, rfl⟩
  rw [← hV2] at T2
  have HV2 : Hid ((w1.setCell ⟨w.heap.size, 0, none⟩ (.slice a1 la.length c1)).setCell ⟨w.heap.size, 1, none⟩ (.int .i64 ka) = V2) := hV2.symm
  have HT2 := Lib.hid T2
  clear HC1 HT0 b1 T1 T2 i1 hV2
  go_wp2_with (rw [HV2.out])
  clear HV2 s0 s1 s2 s3
  go_loopw [6, 7, 9] (fun v6 v7 v9 V => ∃ (i : Nat) (a' : Option Addr) (n' c' : Nat) (l' : List UInt8) (k' : Nat) (vN : Value) (N : List QT.Nd), i ≤ cn ∧ v9 = .int .i64 i ∧ v6 = .bool (QT.okN N).1 ∧ v7 = .string (str (QT.okN N).2) ∧ Hid (QT.readL QT.readNd i la ka = (N, l', k')) ∧ Hid (TkS w V a' n' c' l' k' vN N (.slice none 0 0) [])) (fun _ _ v _ => cn - (intOf v).toNat)
  case atStart => exact ⟨0, a1, la.length, c1, la, ka, .slice none 0 0, [], Nat.zero_le _, rfl, rfl, rfl, Lib.hid rfl, HT2⟩
  case round =>
    obtain ⟨i, a0, n0, c0, l0, k0, vN, N, hi, rfl, rfl, rfl, Q, S⟩ := hrel
    clear HT2
    obtain ⟨t0, t1, t2, t3⟩ := cells2 S.out.rd
    by_cases hlt : i < cn
    · have h1 : (i : Int) < (cn : Int) := by omega
      by_cases hk : k0 = 0
      · subst hk
        have hlen : N.length = i := by have := QT.readL_length QT.readNd i la ka; rw [Q.out] at this; exact this
        obtain ⟨aN, cN, eN⟩ := S.out.oN.form
        rw [hlen] at eN
        subst eN
        have hBlt : w.heap.size < wr.heap.size := by have := S.out.lt; omega
        have e0 : ∀ o, (wr.alloc o).cell? ⟨w.heap.size, 0, none⟩ = some (.slice a0 n0 c0) := fun o => (World.cell?_of_block (a := ⟨w.heap.size, 0, none⟩) (Below.heap_alloc _ _ _ hBlt)).trans t0
        have e1 : ∀ o, (wr.alloc o).cell? ⟨w.heap.size, 1, none⟩ = some (.int .i64 (0 : Nat)) := fun o => (World.cell?_of_block (a := ⟨w.heap.size, 1, none⟩) (Below.heap_alloc _ _ _ hBlt)).trans t1
        go_wp2_with fail
        generalize hV0 : wr.alloc _ = V0
        have X0 : TkX w V0 wr.heap.size #[.string (str []), .string (str []), .complex .f64 0 0, .complex .f64 0 0, .complex .f64 0 0] 176 a0 n0 c0 l0 0 (.slice aN i cN) N (.slice none 0 0) [] := by
          rw [← hV0]
          exact TkX.new S.out (fun j n e => by rcases j with _ | _ | _ | _ | _ | j <;> simp at e)
        generalize wr.heap.size = XB at *
        clear t0 t1 t2 t3 h1 e0 e1 hBlt
        obtain ⟨d1, l1, k1, hp1⟩ : ∃ v l' k', PK.runP 116 32 l0 0 = (v, l', k') := ⟨_, _, _, rfl⟩
        have hr1 : l1.length ≤ roomB := by have := QT.run_rest l0 0; rw [hp1] at this; exact Nat.le_trans this X0.s.lr
        have HR1 := Lib.hid (rtext_any a0 n0 c0 0 l0 32 V0 X0.s.hn X0.s.is (by omega) (by omega) X0.s.lr)
        rw [hp1] at HR1
        refine HR1.out.mono ?_
        rintro e w1 ⟨⟨a1, n1, c1, rfl, hn1, i1⟩, b1⟩
        simp only at hn1 i1
        have Y1 := X0.below b1
        have P1 := Y1.putR (k' := k1) i1 hn1 hr1
        obtain ⟨s0, s1, s2, s3⟩ := cells2 Y1.s.rd
        obtain ⟨V1, hV1⟩ : ∃ V, V = put2q w1 w.heap.size a1 n1 c1 k1 := ⟨_, rfl⟩
        have X1 := P1
        rw [← hV1] at X1
        have HV1 : Hid ((w1.setCell ⟨w.heap.size, 0, none⟩ (.slice a1 n1 c1)).setCell ⟨w.heap.size, 1, none⟩ (.int .i64 k1) = V1) := hV1.symm
        obtain ⟨t0, t1, t2, t3⟩ := cells2 X1.s.rd
        clear HR1 b1 Y1 P1 i1 hn1 hr1 hV1 X0
        go_wp2_with (rw [HV1.out])
        clear s0 s1 s2 s3 t0 t1 t2 t3 HV1
        obtain ⟨d2, l2, k2, hp2⟩ : ∃ v l' k', PK.runP 116 32 l1 k1 = (v, l', k') := ⟨_, _, _, rfl⟩
        have hr2 : l2.length ≤ roomB := by have := QT.run_rest l1 k1; rw [hp2] at this; exact Nat.le_trans this X1.s.lr
        have HR2 := Lib.hid (rtext_any a1 n1 c1 k1 l1 32 V1 X1.s.hn X1.s.is (by omega) (by omega) X1.s.lr)
        rw [hp2] at HR2
        refine HR2.out.mono ?_
        rintro e w2 ⟨⟨a2, n2, c2, rfl, hn2, i2⟩, b2⟩
        simp only at hn2 i2
        have Y2 := X1.below b2
        have P2 := Y2.putR (k' := k2) i2 hn2 hr2
        obtain ⟨s0, s1, s2, s3⟩ := cells2 Y2.s.rd
        obtain ⟨V2, hV2⟩ : ∃ V, V = put2q w2 w.heap.size a2 n2 c2 k2 := ⟨_, rfl⟩
        have X2 := P2
        rw [← hV2] at X2
        have HV2 : Hid ((w2.setCell ⟨w.heap.size, 0, none⟩ (.slice a2 n2 c2)).setCell ⟨w.heap.size, 1, none⟩ (.int .i64 k2) = V2) := hV2.symm
        obtain ⟨t0, t1, t2, t3⟩ := cells2 X2.s.rd
        obtain ⟨⟨z0, z1, z2, z3, z4⟩, f0, f1, f2, f3, f4⟩ := cells5f X2.xb
        have P3 := (X2.putX 0 (.string (str d1)) (by simp) rfl).putX 1 (.string (str d2)) (by simp) rfl
        simp only [List.setIfInBounds_toArray, List.set_cons_zero, List.set_cons_succ] at P3
        obtain ⟨V3, hV3⟩ : ∃ V, V = (V2.setCell ⟨XB, 0, none⟩ (.string (str d1))).setCell ⟨XB, 1, none⟩ (.string (str d2)) := ⟨_, rfl⟩
        rw [← hV3] at P3
        have X3 := P3
        obtain ⟨y0, y1, _, _⟩ := cells2 X3.s.rd
        have HV3 : Hid ((V2.setCell ⟨XB, 0, none⟩ (.string (str d1))).setCell ⟨XB, 1, none⟩ (.string (str d2)) = V3) := hV3.symm
        clear HR2 b2 Y2 P2 i2 hn2 hr2 hV2 X1
        clear hV3
        go_wp2_with (first | rw [HV2.out] | rw [HV3.out])
        clear s0 s1 s2 s3 t0 t1 t2 t3 HV2
        clear HV3 y0 y1 z0 z1 z2 z3 z4 f0 f1 f2 f3 f4 P3
        obtain ⟨t0, t1, _, _⟩ := cells2 X3.s.rd
        obtain ⟨o1, m4, j4, hq4⟩ : ∃ v l' k', PK.uintP QT.cap l2 k2 = (v, l', k') := ⟨_, _, _, rfl⟩
        obtain ⟨o2, l4, k4, hp4⟩ : ∃ v l' k', PK.uintP QT.cap m4 j4 = (v, l', k') := ⟨_, _, _, rfl⟩
        have hr4 : l4.length ≤ roomB := by have h1 := QT.uint_rest QT.cap l2 k2; rw [hq4] at h1; have h2 := QT.uint_rest QT.cap m4 j4; rw [hp4] at h2; exact Nat.le_trans h2 (Nat.le_trans h1 X3.s.lr)
        have HR4 := Lib.hid (rtakeA_any a2 n2 c2 k2 l2 V3 X3.s.hn X3.s.is)
        rw [hq4] at HR4
        simp only at HR4
        rw [hp4] at HR4
        refine HR4.out.mono ?_
        rintro e w4 ⟨⟨a4, n4, c4, rfl, hn4, i4⟩, b4⟩
        simp only at hn4 i4
        have Y4 := X3.below b4
        have P4 := Y4.putR (k' := k4) i4 hn4 hr4
        obtain ⟨s0, s1, s2, s3⟩ := cells2 Y4.s.rd
        obtain ⟨⟨z0, z1, z2, z3, z4⟩, g0, g1, g2, g3, g4⟩ := cells5f Y4.xb
        have X4 := P4.putX 2 (.complex .f64 (FL.fB o1) (FL.fB o2)) (by simp) rfl
        simp only [List.setIfInBounds_toArray, List.set_cons_zero, List.set_cons_succ] at X4
        obtain ⟨V4, hV4⟩ : ∃ V, V = (put2q w4 w.heap.size a4 n4 c4 k4).setCell ⟨XB, 2, none⟩ (.complex .f64 (FL.fB o1) (FL.fB o2)) := ⟨_, rfl⟩
        rw [← hV4] at X4
        have HV4 : Hid (((w4.setCell ⟨w.heap.size, 0, none⟩ (.slice a4 n4 c4)).setCell ⟨w.heap.size, 1, none⟩ (.int .i64 k4)).setCell ⟨XB, 2, none⟩ (.complex .f64 (FL.fB o1) (FL.fB o2)) = V4) := hV4.symm
        clear HR4 b4 Y4 P4 i4 hn4 hr4 hV4 X3 t0 t1
        obtain ⟨t0, t1, _, _⟩ := cells2 X4.s.rd
        go_wp2_with (rw [HV4.out])
        obtain ⟨e1, m5, j5, hq5⟩ : ∃ v l' k', PK.uintP QT.cap l4 k4 = (v, l', k') := ⟨_, _, _, rfl⟩
        obtain ⟨e2, l5, k5, hp5⟩ : ∃ v l' k', PK.uintP QT.cap m5 j5 = (v, l', k') := ⟨_, _, _, rfl⟩
        have hr5 : l5.length ≤ roomB := by have h1 := QT.uint_rest QT.cap l4 k4; rw [hq5] at h1; have h2 := QT.uint_rest QT.cap m5 j5; rw [hp5] at h2; exact Nat.le_trans h2 (Nat.le_trans h1 X4.s.lr)
        have HR5 := Lib.hid (rtakeA_any a4 n4 c4 k4 l4 V4 X4.s.hn X4.s.is)
        rw [hq5] at HR5
        simp only at HR5
        rw [hp5] at HR5
        refine HR5.out.mono ?_
        rintro e w5 ⟨⟨a5, n5, c5, rfl, hn5, i5⟩, b5⟩
        simp only at hn5 i5
        have Y5 := X4.below b5
        have P5 := Y5.putR (k' := k5) i5 hn5 hr5
        obtain ⟨s0, s1, s2, s3⟩ := cells2 Y5.s.rd
        obtain ⟨⟨z0, z1, z2, z3, z4⟩, g0, g1, g2, g3, g4⟩ := cells5f Y5.xb
        have X5 := P5.putX 3 (.complex .f64 (FL.fB e1) (FL.fB e2)) (by simp) rfl
        simp only [List.setIfInBounds_toArray, List.set_cons_zero, List.set_cons_succ] at X5
        obtain ⟨V5, hV5⟩ : ∃ V, V = (put2q w5 w.heap.size a5 n5 c5 k5).setCell ⟨XB, 3, none⟩ (.complex .f64 (FL.fB e1) (FL.fB e2)) := ⟨_, rfl⟩
        rw [← hV5] at X5
        have HV5 : Hid (((w5.setCell ⟨w.heap.size, 0, none⟩ (.slice a5 n5 c5)).setCell ⟨w.heap.size, 1, none⟩ (.int .i64 k5)).setCell ⟨XB, 3, none⟩ (.complex .f64 (FL.fB e1) (FL.fB e2)) = V5) := hV5.symm
        clear HR5 b5 Y5 P5 i5 hn5 hr5 hV5 X4 t0 t1
        obtain ⟨t0, t1, _, _⟩ := cells2 X5.s.rd
        go_wp2_with (rw [HV5.out])
        obtain ⟨f1, m6, j6, hq6⟩ : ∃ v l' k', PK.uintP QT.cap l5 k5 = (v, l', k') := ⟨_, _, _, rfl⟩
        obtain ⟨f2, l6, k6, hp6⟩ : ∃ v l' k', PK.uintP QT.cap m6 j6 = (v, l', k') := ⟨_, _, _, rfl⟩
        have hr6 : l6.length ≤ roomB := by have h1 := QT.uint_rest QT.cap l5 k5; rw [hq6] at h1; have h2 := QT.uint_rest QT.cap m6 j6; rw [hp6] at h2; exact Nat.le_trans h2 (Nat.le_trans h1 X5.s.lr)
        have HR6 := Lib.hid (rtakeA_any a5 n5 c5 k5 l5 V5 X5.s.hn X5.s.is)
        rw [hq6] at HR6
        simp only at HR6
        rw [hp6] at HR6
        refine HR6.out.mono ?_
        rintro e w6 ⟨⟨a6, n6, c6, rfl, hn6, i6⟩, b6⟩
        simp only at hn6 i6
        have Y6 := X5.below b6
        have P6 := Y6.putR (k' := k6) i6 hn6 hr6
        obtain ⟨s0, s1, s2, s3⟩ := cells2 Y6.s.rd
        obtain ⟨⟨z0, z1, z2, z3, z4⟩, g0, g1, g2, g3, g4⟩ := cells5f Y6.xb
        have X6 := P6.putX 4 (.complex .f64 (FL.fB f1) (FL.fB f2)) (by simp) rfl
        simp only [List.setIfInBounds_toArray, List.set_cons_zero, List.set_cons_succ] at X6
        obtain ⟨V6, hV6⟩ : ∃ V, V = (put2q w6 w.heap.size a6 n6 c6 k6).setCell ⟨XB, 4, none⟩ (.complex .f64 (FL.fB f1) (FL.fB f2)) := ⟨_, rfl⟩
        rw [← hV6] at X6
        have HV6 : Hid (((w6.setCell ⟨w.heap.size, 0, none⟩ (.slice a6 n6 c6)).setCell ⟨w.heap.size, 1, none⟩ (.int .i64 k6)).setCell ⟨XB, 4, none⟩ (.complex .f64 (FL.fB f1) (FL.fB f2)) = V6) := hV6.symm
        clear HR6 b6 Y6 P6 i6 hn6 hr6 hV6 X5 t0 t1
        obtain ⟨t0, t1, _, _⟩ := cells2 X6.s.rd
        obtain ⟨⟨y0, y1, y2, y3, y4⟩, _⟩ := cells5f X6.xb
        obtain ⟨ob, lst, hst⟩ : ∃ b s, QT.okN N = (b, s) := ⟨_, _, rfl⟩
        obtain ⟨u0, u1, u2, u3⟩ := cells2 X6.s.tb
        obtain ⟨x, hx⟩ : ∃ x : QT.Nd, x = ⟨d1, d2, o1, o2, e1, e2, f1, f2⟩ := ⟨_, rfl⟩
        have HQ : Hid (QT.readL QT.readNd (i + 1) la ka = (N ++ [x], l6, k6)) := Lib.hid (by rw [QT.readL_snoc, Q.out]; simp only [QT.readNd, hp1, hp2, hq4, hp4, hq5, hp5, hq6, hp6, hx])
        have HS : Hid ((QT.okN (N ++ [x])).1 = (ob && QT.nameP d1 && QT.gtS d1 lst) ∧ (QT.okN (N ++ [x])).2 = d1) := Lib.hid (by rw [QT.okN_snoc, hst, hx]; simp [QT.stepO])
        have hd1 : d1.length ≤ 32 := by have := QT.run32_len l0 0; rw [hp1] at this; exact this
        have HX := Lib.hid X6
        have HO : Hid (∀ o, OwnNd (V6.alloc o) (.slice aN i cN) N) := Lib.hid (fun o => (X6.s.below ((Below.refl _ _).alloc (Nat.le_refl _) o)).oN)
        have HL := Lib.hid hlen
        have HC : Hid (∀ j u, (valsNd x)[j]? = some u → (V6.alloc (.cells #[.string (str d1), .string (str d2), .complex .f64 (FL.fB o1) (FL.fB o2), .complex .f64 (FL.fB e1) (FL.fB e2), .complex .f64 (FL.fB f1) (FL.fB f2)] 176)).cell? ⟨V6.heap.size, j, none⟩ = some u) := Lib.hid (fun j u hu => by
          rw [World.cell?_alloc_new]
          subst hx
          rw [← hu]
          simp [valsNd])
        have HNm := Lib.hid (rnamed_any (str d1) V6 (by rw [str_size]; omega))
        rw [show (str d1).data.toList = d1 from rfl] at HNm
        rw [hst]
        clear X6 Q S hp1 hp2 hq4 hp4 hq5 hp5 hq6 hp6 hlen hst hd1
        simp only
        cases ob with
        | false =>
          have hgt : Hid ((false && QT.nameP d1 && QT.gtS d1 lst) = false) := rfl
          clear HNm
          go_wp2_with (first | rw [HV6.out] | (at_builtin; refine wpList_appNd rfl (.tmp 81) (.tmp 83) rfl TNd (v := .slice aN i cN) (n := i) HL.out rfl (HO.out _) rfl HC.out (by have := HCn.out; omega) ?_; intro a9 c9 w9 o9 g9 b9; have tb9 := g9.heap (HX.out.s.below ((Below.refl _ _).alloc (Nat.le_refl _) _)).tb (fun e => by have := HX.out.s.bN _ e; omega); obtain ⟨p0, p1, p2, p3⟩ := cells2 tb9; have S9 := Lib.hid (HX.out.putN _ rfl g9 o9 b9); clear o9 g9 b9 tb9))
          exact ⟨⟨i + 1, a6, n6, c6, l6, k6, .slice a9 (i + 1) c9, N ++ [x], by omega, by simp, by rw [HS.out.1, hgt.out], by rw [HS.out.2], HQ, S9⟩, by simp [intOf]; omega⟩
        | true =>
          cases hnm : QT.nameP d1 with
          | false =>
            rw [hnm] at HNm
            have hgt : Hid ((true && QT.nameP d1 && QT.gtS d1 lst) = false) := Lib.hid (by rw [hnm]; rfl)
            clear hnm
            go_wp2_with (rw [HV6.out])
            refine HNm.out.mono ?_
            rintro e w7 ⟨rfl, rfl⟩
            clear HNm
            go_wp2_with (at_builtin; refine wpList_appNd rfl (.tmp 81) (.tmp 83) rfl TNd (v := .slice aN i cN) (n := i) HL.out rfl (HO.out _) rfl HC.out (by have := HCn.out; omega) ?_; intro a9 c9 w9 o9 g9 b9; have tb9 := g9.heap (HX.out.s.below ((Below.refl _ _).alloc (Nat.le_refl _) _)).tb (fun e => by have := HX.out.s.bN _ e; omega); obtain ⟨p0, p1, p2, p3⟩ := cells2 tb9; have S9 := Lib.hid (HX.out.putN _ rfl g9 o9 b9); clear o9 g9 b9 tb9)
            exact ⟨⟨i + 1, a6, n6, c6, l6, k6, .slice a9 (i + 1) c9, N ++ [x], by omega, by simp, by rw [HS.out.1, hgt.out], by rw [HS.out.2], HQ, S9⟩, by simp [intOf]; omega⟩
          | true =>
            rw [hnm] at HNm
            obtain ⟨gt, hgq⟩ : ∃ b, b = QT.gtS d1 lst := ⟨_, rfl⟩
            have hgt : Hid ((true && QT.nameP d1 && QT.gtS d1 lst) = gt) := Lib.hid (by rw [hnm, hgq]; rfl)
            have hcmp : (!Op.bytesLess (str d1).toList (str lst).toList && !(str d1).toList == (str lst).toList) = gt := by rw [hgq, str_toList, str_toList, QT.gtS, Bool.not_or]
            clear hnm hgq
            go_wp2_with (rw [HV6.out])
            refine HNm.out.mono ?_
            rintro e w7 ⟨rfl, rfl⟩
            clear HNm
            go_wp2_with (at_builtin; refine wpList_appNd rfl (.tmp 81) (.tmp 83) rfl TNd (v := .slice aN i cN) (n := i) HL.out rfl (HO.out _) rfl HC.out (by have := HCn.out; omega) ?_; intro a9 c9 w9 o9 g9 b9; have tb9 := g9.heap (HX.out.s.below ((Below.refl _ _).alloc (Nat.le_refl _) _)).tb (fun e => by have := HX.out.s.bN _ e; omega); obtain ⟨p0, p1, p2, p3⟩ := cells2 tb9; have S9 := Lib.hid (HX.out.putN _ rfl g9 o9 b9); clear o9 g9 b9 tb9)
            exact ⟨⟨i + 1, a6, n6, c6, l6, k6, .slice a9 (i + 1) c9, N ++ [x], by omega, by simp, by rw [HS.out.1, hgt.out], by rw [HS.out.2], HQ, S9⟩, by simp [intOf]; omega⟩
      · have h2 : ¬ (k0 : Int) = 0 := by omega
        have hlen : N.length = i := by have := QT.readL_length QT.readNd i la ka; rw [Q.out] at this; exact this
        obtain ⟨aN, cN, eN⟩ := S.out.oN.form
        rw [hlen] at eN
        subst eN
        have hn0 := S.out.hn
        subst hn0
        obtain ⟨c2, lb, kb, hp2⟩ : ∃ v l' k', PK.countP 1024 l0 k0 = (v, l', k') := ⟨_, _, _, rfl⟩
        have hc2 : c2 ≤ 1024 := by have := QT.count_cap 1024 l0 k0; rw [show ((1024 : Nat) : Int) = 1024 from rfl, hp2] at this; exact this
        have hc2' : (c2 : Int) ≤ 281474976710656 := by omega
        have hlrb : lb.length ≤ roomB := by have := QT.count_rest 1024 l0 k0; rw [hp2] at this; exact Nat.le_trans this S.out.lr
        have HC3 := Lib.hid (rreadCount_any1024 a0 c0 k0 l0 wr S.out.is)
        rw [hp2] at HC3
        have HP2 := Lib.hid hp2
        have HC2 := Lib.hid hc2
        have QN := Q
        have HX1 : Hid (k0 = 0 → i = cn) := Lib.hid (fun e => absurd e hk)
        have hiH := Lib.hid hi
        clear hi hlen hp2 hc2 Q
        have hi := hiH
        clear hiH
        go_wp2_with fail
        refine HC3.out.mono ?_
        rintro e w3 ⟨⟨a3, c3, rfl, i3⟩, b3⟩
        have T3 := S.out.below b3
        have T4 := T3.putR (k' := kb) i3 rfl hlrb
        obtain ⟨s0, s1, s2, s3⟩ := cells2 T3.rd
        obtain ⟨V4, hV4⟩ : ∃ V, V = put2q w3 w.heap.size a3 lb.length c3 kb := ⟨_, rfl⟩
        rw [← hV4] at T4
        have HV4 : Hid ((w3.setCell ⟨w.heap.size, 0, none⟩ (.slice a3 lb.length c3)).setCell ⟨w.heap.size, 1, none⟩ (.int .i64 kb) = V4) := hV4.symm
        have HT4 := Lib.hid T4
        clear HC3 S b3 T3 T4 i3 hV4 t0 t1 t2 t3
        go_wp2_with (rw [HV4.out])
        clear HV4 s0 s1 s2 s3
        go_loopw [6, 7, 13] (fun v6 v7 v9 V => ∃ (j : Nat) (a' : Option Addr) (n' c' : Nat) (l' : List UInt8) (k' : Nat) (vU : Value) (U : List QT.Us), j ≤ c2 ∧ v9 = .int .i64 j ∧ v6 = .bool (QT.okV N U).1 ∧ v7 = .string (str (QT.okV N U).2) ∧ Hid (QT.readL QT.readUs j lb kb = (U, l', k')) ∧ Hid (TkS w V a' n' c' l' k' (.slice aN i cN) N vU U)) (fun _ _ v _ => c2 - (intOf v).toNat)
        case atStart => exact ⟨0, a3, lb.length, c3, lb, kb, .slice none 0 0, [], Nat.zero_le _, rfl, rfl, rfl, Lib.hid rfl, HT4⟩
        case round =>
          have hkq : Hid (k0 = 0 → i = cn) := HX1
          rename_i k0q _
          obtain ⟨j, a0, n0, c0, l0, k0, vU, U, hj, rfl, rfl, rfl, QU, S⟩ := hrel
          clear HT4 hkq
          have hlenU : U.length = j := by have := QT.readL_length QT.readUs j lb kb; rw [QU.out] at this; exact this
          obtain ⟨aU, cU, eU⟩ := S.out.oU.form
          rw [hlenU] at eU
          subst eU
          clear hlenU
          obtain ⟨t0, t1, t2, t3⟩ := cells2 S.out.rd
          by_cases hlt : j < c2
          · have h1 : (j : Int) < (c2 : Int) := by omega
            by_cases hk : k0 = 0
            · subst hk
              have hlen : U.length = j := by have := QT.readL_length QT.readUs j lb kb; rw [QU.out] at this; exact this
              have hBlt : w.heap.size < wr.heap.size := by have := S.out.lt; omega
              have e0 : ∀ o, (wr.alloc o).cell? ⟨w.heap.size, 0, none⟩ = some (.slice a0 n0 c0) := fun o => (World.cell?_of_block (a := ⟨w.heap.size, 0, none⟩) (Below.heap_alloc _ _ _ hBlt)).trans t0
              have e1 : ∀ o, (wr.alloc o).cell? ⟨w.heap.size, 1, none⟩ = some (.int .i64 (0 : Nat)) := fun o => (World.cell?_of_block (a := ⟨w.heap.size, 1, none⟩) (Below.heap_alloc _ _ _ hBlt)).trans t1
              go_wp2_with fail
              generalize hV0 : wr.alloc _ = V0
              have X0 : TkX w V0 wr.heap.size #[.string (str []), .string (str []), .complex .f64 0 0] 178 a0 n0 c0 l0 0 (.slice aN i cN) N (.slice aU j cU) U := by
                rw [← hV0]
                exact TkX.new S.out (fun j n e => by rcases j with _ | _ | _ | j <;> simp at e)
              generalize wr.heap.size = XB at *
              clear t0 t1 t2 t3 h1 e0 e1 hBlt
              obtain ⟨d1, l1, k1, hp1⟩ : ∃ v l' k', PK.runP 116 32 l0 0 = (v, l', k') := ⟨_, _, _, rfl⟩
              have hr1 : l1.length ≤ roomB := by have := QT.run_rest l0 0; rw [hp1] at this; exact Nat.le_trans this X0.s.lr
              have HR1 := Lib.hid (rtext_any a0 n0 c0 0 l0 32 V0 X0.s.hn X0.s.is (by omega) (by omega) X0.s.lr)
              rw [hp1] at HR1
              refine HR1.out.mono ?_
              rintro e w1 ⟨⟨a1, n1, c1, rfl, hn1, i1⟩, b1⟩
              simp only at hn1 i1
              have Y1 := X0.below b1
              have P1 := Y1.putR (k' := k1) i1 hn1 hr1
              obtain ⟨s0, s1, s2, s3⟩ := cells2 Y1.s.rd
              obtain ⟨V1, hV1⟩ : ∃ V, V = put2q w1 w.heap.size a1 n1 c1 k1 := ⟨_, rfl⟩
              have X1 := P1
              rw [← hV1] at X1
              have HV1 : Hid ((w1.setCell ⟨w.heap.size, 0, none⟩ (.slice a1 n1 c1)).setCell ⟨w.heap.size, 1, none⟩ (.int .i64 k1) = V1) := hV1.symm
              obtain ⟨t0, t1, t2, t3⟩ := cells2 X1.s.rd
              clear HR1 b1 Y1 P1 i1 hn1 hr1 hV1 X0
              go_wp2_with (rw [HV1.out])
              clear s0 s1 s2 s3 t0 t1 t2 t3 HV1
              obtain ⟨d2, l2, k2, hp2⟩ : ∃ v l' k', PK.runP 116 32 l1 k1 = (v, l', k') := ⟨_, _, _, rfl⟩
              have hr2 : l2.length ≤ roomB := by have := QT.run_rest l1 k1; rw [hp2] at this; exact Nat.le_trans this X1.s.lr
              have HR2 := Lib.hid (rtext_any a1 n1 c1 k1 l1 32 V1 X1.s.hn X1.s.is (by omega) (by omega) X1.s.lr)
              rw [hp2] at HR2
              refine HR2.out.mono ?_
              rintro e w2 ⟨⟨a2, n2, c2, rfl, hn2, i2⟩, b2⟩
              simp only at hn2 i2
              have Y2 := X1.below b2
              have P2 := Y2.putR (k' := k2) i2 hn2 hr2
              obtain ⟨s0, s1, s2, s3⟩ := cells2 Y2.s.rd
              obtain ⟨V2, hV2⟩ : ∃ V, V = put2q w2 w.heap.size a2 n2 c2 k2 := ⟨_, rfl⟩
              have X2 := P2
              rw [← hV2] at X2
              have HV2 : Hid ((w2.setCell ⟨w.heap.size, 0, none⟩ (.slice a2 n2 c2)).setCell ⟨w.heap.size, 1, none⟩ (.int .i64 k2) = V2) := hV2.symm
              obtain ⟨t0, t1, t2, t3⟩ := cells2 X2.s.rd
              obtain ⟨⟨z0, z1, z2⟩, f0, f1, f2⟩ := cells3f X2.xb
              have P3 := (X2.putX 0 (.string (str d1)) (by simp) rfl).putX 1 (.string (str d2)) (by simp) rfl
              simp only [List.setIfInBounds_toArray, List.set_cons_zero, List.set_cons_succ] at P3
              obtain ⟨V3, hV3⟩ : ∃ V, V = (V2.setCell ⟨XB, 0, none⟩ (.string (str d1))).setCell ⟨XB, 1, none⟩ (.string (str d2)) := ⟨_, rfl⟩
              rw [← hV3] at P3
              have X3 := P3
              obtain ⟨y0, y1, _, _⟩ := cells2 X3.s.rd
              have HV3 : Hid ((V2.setCell ⟨XB, 0, none⟩ (.string (str d1))).setCell ⟨XB, 1, none⟩ (.string (str d2)) = V3) := hV3.symm
              clear HR2 b2 Y2 P2 i2 hn2 hr2 hV2 X1
              clear hV3
              go_wp2_with (first | rw [HV2.out] | rw [HV3.out])
              clear s0 s1 s2 s3 t0 t1 t2 t3 HV2
              clear HV3 y0 y1 z0 z1 z2 f0 f1 f2 P3
              obtain ⟨t0, t1, _, _⟩ := cells2 X3.s.rd
              obtain ⟨o1, m4, j4, hq4⟩ : ∃ v l' k', PK.uintP QT.cap l2 k2 = (v, l', k') := ⟨_, _, _, rfl⟩
              obtain ⟨o2, l4, k4, hp4⟩ : ∃ v l' k', PK.uintP QT.cap m4 j4 = (v, l', k') := ⟨_, _, _, rfl⟩
              have hr4 : l4.length ≤ roomB := by have h1 := QT.uint_rest QT.cap l2 k2; rw [hq4] at h1; have h2 := QT.uint_rest QT.cap m4 j4; rw [hp4] at h2; exact Nat.le_trans h2 (Nat.le_trans h1 X3.s.lr)
              have HR4 := Lib.hid (rtakeA_any a2 n2 c2 k2 l2 V3 X3.s.hn X3.s.is)
              rw [hq4] at HR4
              simp only at HR4
              rw [hp4] at HR4
              refine HR4.out.mono ?_
              rintro e w4 ⟨⟨a4, n4, c4, rfl, hn4, i4⟩, b4⟩
              simp only at hn4 i4
              have Y4 := X3.below b4
              have P4 := Y4.putR (k' := k4) i4 hn4 hr4
              obtain ⟨s0, s1, s2, s3⟩ := cells2 Y4.s.rd
              obtain ⟨⟨z0, z1, z2⟩, g0, g1, g2⟩ := cells3f Y4.xb
              have X4 := P4.putX 2 (.complex .f64 (FL.fB o1) (FL.fB o2)) (by simp) rfl
              simp only [List.setIfInBounds_toArray, List.set_cons_zero, List.set_cons_succ] at X4
              obtain ⟨V4, hV4⟩ : ∃ V, V = (put2q w4 w.heap.size a4 n4 c4 k4).setCell ⟨XB, 2, none⟩ (.complex .f64 (FL.fB o1) (FL.fB o2)) := ⟨_, rfl⟩
              rw [← hV4] at X4
              have HV4 : Hid (((w4.setCell ⟨w.heap.size, 0, none⟩ (.slice a4 n4 c4)).setCell ⟨w.heap.size, 1, none⟩ (.int .i64 k4)).setCell ⟨XB, 2, none⟩ (.complex .f64 (FL.fB o1) (FL.fB o2)) = V4) := hV4.symm
              clear HR4 b4 Y4 P4 i4 hn4 hr4 hV4 X3 t0 t1
              obtain ⟨t0, t1, _, _⟩ := cells2 X4.s.rd
              obtain ⟨⟨y0, y1, y2⟩, _⟩ := cells3f X4.xb
              obtain ⟨ob, lst, hst⟩ : ∃ b s, QT.okV N U = (b, s) := ⟨_, _, rfl⟩
              obtain ⟨u0, u1, u2, u3⟩ := cells2 X4.s.tb
              obtain ⟨x, hx⟩ : ∃ x : QT.Us, x = ⟨d1, d2, o1, o2⟩ := ⟨_, rfl⟩
              have HQ : Hid (QT.readL QT.readUs (j + 1) lb kb = (U ++ [x], l4, k4)) := Lib.hid (by rw [QT.readL_snoc, QU.out]; simp only [QT.readUs, hp1, hp2, hq4, hp4, hx])
              have HS : Hid ((QT.okV N (U ++ [x])).1 = (ob && QT.nameP d1 && QT.gtS d1 lst && (QT.find N d2).isSome) ∧ (QT.okV N (U ++ [x])).2 = d1) := Lib.hid (by rw [QT.okV_snoc, hst, hx]; simp [QT.stepO])
              have hd1 : d1.length ≤ 32 := by have := QT.run32_len l0 0; rw [hp1] at this; exact this
              have HX := Lib.hid X4
              have HL := Lib.hid hlen
              have HNm := Lib.hid (rnamed_any (str d1) V4 (by rw [str_size]; omega))
              rw [show (str d1).data.toList = d1 from rfl] at HNm
              have HFd := Lib.hid (rfind_any aN i cN (.slice aU j cU) N d2 V4 X4.s.oN.rds)
              have gen : Hid (∀ V, Below V4.heap.size V4 V → (∀ o, OwnUs (V.alloc o) (.slice aU j cU) U) ∧ TkX w V XB _ _ a4 n4 c4 l4 k4 (.slice aN i cN) N (.slice aU j cU) U ∧ ∀ j u, (valsUs x)[j]? = some u → (V.alloc (.cells #[.string (str d1), .string (str d2), .complex .f64 (FL.fB o1) (FL.fB o2)] 178)).cell? ⟨V.heap.size, j, none⟩ = some u) := Lib.hid (fun V f => ⟨fun o => ((X4.below f).s.below ((Below.refl _ _).alloc (Nat.le_refl _) o)).oU, X4.below f, fun j u hu => by
                rw [World.cell?_alloc_new]
                subst hx
                rw [← hu]
                simp [valsUs]⟩)
              rw [hst]
              clear X4 QU S hp1 hp2 hq4 hp4 hlen hst hd1
              simp only
              cases ob with
              | false =>
                have hgt : Hid ((false && QT.nameP d1 && QT.gtS d1 lst && (QT.find N d2).isSome) = false) := rfl
                have GG := Lib.hid (gen.out V4 (Below.refl _ _))
                clear HNm HFd gen
                go_wp2_with (first | rw [HV4.out] | (at_builtin; refine wpList_appUs rfl (.tmp 144) (.tmp 146) rfl TUs (v := .slice aU j cU) (n := j) HL.out rfl (GG.out.1 _) rfl GG.out.2.2 (by have := HC2.out; omega) ?_; intro a9 c9 w9 o9 g9 b9; have tb9 := g9.heap (GG.out.2.1.s.below ((Below.refl _ _).alloc (Nat.le_refl _) _)).tb (fun e => by have := GG.out.2.1.s.bU _ e; omega); obtain ⟨p0, p1, p2, p3⟩ := cells2 tb9; have S9 := Lib.hid (GG.out.2.1.putU _ rfl g9 o9 b9); clear o9 g9 b9 tb9))
                exact ⟨⟨j + 1, a4, n4, c4, l4, k4, .slice a9 (j + 1) c9, U ++ [x], by omega, by simp, by rw [HS.out.1, hgt.out], by rw [HS.out.2], HQ, S9⟩, by simp [intOf]; omega⟩
              | true =>
                cases hnm : QT.nameP d1 with
                | false =>
                  rw [hnm] at HNm
                  have hgt : Hid ((true && QT.nameP d1 && QT.gtS d1 lst && (QT.find N d2).isSome) = false) := Lib.hid (by rw [hnm]; rfl)
                  have GG := Lib.hid (gen.out V4 (Below.refl _ _))
                  clear hnm HFd gen
                  go_wp2_with (rw [HV4.out])
                  refine HNm.out.mono ?_
                  rintro e w7 ⟨rfl, rfl⟩
                  clear HNm
                  go_wp2_with (at_builtin; refine wpList_appUs rfl (.tmp 144) (.tmp 146) rfl TUs (v := .slice aU j cU) (n := j) HL.out rfl (GG.out.1 _) rfl GG.out.2.2 (by have := HC2.out; omega) ?_; intro a9 c9 w9 o9 g9 b9; have tb9 := g9.heap (GG.out.2.1.s.below ((Below.refl _ _).alloc (Nat.le_refl _) _)).tb (fun e => by have := GG.out.2.1.s.bU _ e; omega); obtain ⟨p0, p1, p2, p3⟩ := cells2 tb9; have S9 := Lib.hid (GG.out.2.1.putU _ rfl g9 o9 b9); clear o9 g9 b9 tb9)
                  exact ⟨⟨j + 1, a4, n4, c4, l4, k4, .slice a9 (j + 1) c9, U ++ [x], by omega, by simp, by rw [HS.out.1, hgt.out], by rw [HS.out.2], HQ, S9⟩, by simp [intOf]; omega⟩
                | true =>
                  rw [hnm] at HNm
                  cases hgq : QT.gtS d1 lst with
                  | false =>
                    have hgt : Hid ((true && QT.nameP d1 && QT.gtS d1 lst && (QT.find N d2).isSome) = false) := Lib.hid (by rw [hnm, hgq]; rfl)
                    have hcmp : (!Op.bytesLess (str d1).toList (str lst).toList && !(str d1).toList == (str lst).toList) = false := by rw [← hgq, str_toList, str_toList, QT.gtS, Bool.not_or]
                    have GG := Lib.hid (gen.out V4 (Below.refl _ _))
                    clear hnm HFd gen hgq
                    go_wp2_with (rw [HV4.out])
                    refine HNm.out.mono ?_
                    rintro e w7 ⟨rfl, rfl⟩
                    clear HNm
                    go_wp2_with (at_builtin; refine wpList_appUs rfl (.tmp 144) (.tmp 146) rfl TUs (v := .slice aU j cU) (n := j) HL.out rfl (GG.out.1 _) rfl GG.out.2.2 (by have := HC2.out; omega) ?_; intro a9 c9 w9 o9 g9 b9; have tb9 := g9.heap (GG.out.2.1.s.below ((Below.refl _ _).alloc (Nat.le_refl _) _)).tb (fun e => by have := GG.out.2.1.s.bU _ e; omega); obtain ⟨p0, p1, p2, p3⟩ := cells2 tb9; have S9 := Lib.hid (GG.out.2.1.putU _ rfl g9 o9 b9); clear o9 g9 b9 tb9)
                    exact ⟨⟨j + 1, a4, n4, c4, l4, k4, .slice a9 (j + 1) c9, U ++ [x], by omega, by simp, by rw [HS.out.1, hgt.out], by rw [HS.out.2], HQ, S9⟩, by simp [intOf]; omega⟩
                  | true =>
                    have hcmp : (!Op.bytesLess (str d1).toList (str lst).toList && !(str d1).toList == (str lst).toList) = true := by rw [← hgq, str_toList, str_toList, QT.gtS, Bool.not_or]
                    obtain ⟨fd, hfd⟩ : ∃ b, b = (QT.find N d2).isSome := ⟨_, rfl⟩
                    obtain ⟨at_, hat⟩ : ∃ z, z = QT.at N d2 := ⟨_, rfl⟩
                    have hge : decide ((0 : Int) ≤ at_) = fd := by
                      rcases QT.at_cases N d2 with ⟨h1, h2⟩ | ⟨q, y, h1, _, h2⟩
                      · rw [hat, hfd, h1, h2]; rfl
                      · rw [hat, hfd, h1, h2, decide_eq_true (by omega)]; rfl
                    have hgt : Hid ((true && QT.nameP d1 && QT.gtS d1 lst && (QT.find N d2).isSome) = fd) := Lib.hid (by rw [hnm, hgq, hfd]; rfl)
                    rw [← hat] at HFd
                    clear hnm hgq hat hfd
                    go_wp2_with (rw [HV4.out])
                    refine HNm.out.mono ?_
                    rintro e w7 ⟨rfl, rfl⟩
                    clear HNm
                    go_wp2_with fail
                    refine HFd.out.mono ?_
                    rintro e w8 ⟨rfl, b8⟩
                    have GG := Lib.hid (gen.out w8 b8)
                    obtain ⟨t0, t1, _, _⟩ := cells2 GG.out.2.1.s.rd
                    obtain ⟨⟨y0, y1, y2⟩, _⟩ := cells3f GG.out.2.1.xb
                    obtain ⟨u0, u1, u2, u3⟩ := cells2 GG.out.2.1.s.tb
                    clear HFd gen b8
                    go_wp2_with (at_builtin; refine wpList_appUs rfl (.tmp 144) (.tmp 146) rfl TUs (v := .slice aU j cU) (n := j) HL.out rfl (GG.out.1 _) rfl GG.out.2.2 (by have := HC2.out; omega) ?_; intro a9 c9 w9 o9 g9 b9; have tb9 := g9.heap (GG.out.2.1.s.below ((Below.refl _ _).alloc (Nat.le_refl _) _)).tb (fun e => by have := GG.out.2.1.s.bU _ e; omega); obtain ⟨p0, p1, p2, p3⟩ := cells2 tb9; have S9 := Lib.hid (GG.out.2.1.putU _ rfl g9 o9 b9); clear o9 g9 b9 tb9)
                    exact ⟨⟨j + 1, a4, n4, c4, l4, k4, .slice a9 (j + 1) c9, U ++ [x], by omega, by simp, by rw [HS.out.1, hgt.out], by rw [HS.out.2], HQ, S9⟩, by simp [intOf]; omega⟩
            · have h2 : ¬ (k0 : Int) = 0 := by omega
              have hfin := QT.take_fin HP0.out QN.out hi.out HX1.out HP2.out QU.out hj (fun e => absurd e hk)
              have hlt4 := S.out.lt
              have hS := S.out
              obtain ⟨r0, r1, r2, r3⟩ := cells2 hS.rd
              obtain ⟨t0, t1, t2, t3⟩ := cells2 hS.tb
              have cont : Hid (∀ V, Fr (fun j => j = w.heap.size + 1 ∨ j = w.heap.size + 1 + 1) wr V → (Hid (Fr (fun j => j = w.heap.size + 1 ∨ j = w.heap.size + 1 + 1) wr V) ∧ V.cell? ⟨w.heap.size, 0, none⟩ = some (.slice a0 n0 c0) ∧ V.cell? ⟨w.heap.size, 1, none⟩ = some (.int .i64 k0) ∧ V.cell? ⟨w.heap.size + 1 + 1 + 1, 0, none⟩ = some (.slice aN i cN) ∧ V.cell? ⟨w.heap.size + 1 + 1 + 1, 1, none⟩ = some (.slice aU j cU))) := fun V f => ⟨Lib.hid f, (World.cell?_of_block (a := ⟨w.heap.size, 0, none⟩) (f.block w.heap.size (by omega) (by omega))).trans r0, (World.cell?_of_block (a := ⟨w.heap.size, 1, none⟩) (f.block w.heap.size (by omega) (by omega))).trans r1, (World.cell?_of_block (a := ⟨w.heap.size + 1 + 1 + 1, 0, none⟩) (f.block (w.heap.size + 1 + 1 + 1) (by omega) (by omega))).trans t0, (World.cell?_of_block (a := ⟨w.heap.size + 1 + 1 + 1, 1, none⟩) (f.block (w.heap.size + 1 + 1 + 1) (by omega) (by omega))).trans t1⟩
              have S0 := cont.out wr.drew (Fr.refl _ _).drew
              have f1 : Fr (fun j => j = w.heap.size + 1 ∨ j = w.heap.size + 1 + 1) wr ((wr.setCell ⟨w.heap.size + 1, 0, none⟩ (.slice a0 n0 c0)).setCell ⟨w.heap.size + 1, 1, none⟩ (.int .i64 k0)) := put2q_fr _ wr _ (.inl rfl) a0 n0 c0 k0
              have f2 : Fr (fun j => j = w.heap.size + 1 ∨ j = w.heap.size + 1 + 1) wr ((((wr.setCell ⟨w.heap.size + 1, 0, none⟩ (.slice a0 n0 c0)).setCell ⟨w.heap.size + 1, 1, none⟩ (.int .i64 k0)).setCell ⟨w.heap.size + 1 + 1, 0, none⟩ (.slice aN i cN)).setCell ⟨w.heap.size + 1 + 1, 1, none⟩ (.slice aU j cU)) := Fr.setCell (X := fun j => j = w.heap.size + 1 ∨ j = w.heap.size + 1 + 1) (Fr.setCell (X := fun j => j = w.heap.size + 1 ∨ j = w.heap.size + 1 + 1) f1 (fun _ => .inr rfl) _) (fun _ => .inr rfl) _
              have TW1 := cont.out ((wr.setCell ⟨w.heap.size + 1, 0, none⟩ (.slice a0 n0 c0)).setCell ⟨w.heap.size + 1, 1, none⟩ (.int .i64 k0)).drew f1.drew
              have TW2 := cont.out ((((wr.setCell ⟨w.heap.size + 1, 0, none⟩ (.slice a0 n0 c0)).setCell ⟨w.heap.size + 1, 1, none⟩ (.int .i64 k0)).setCell ⟨w.heap.size + 1 + 1, 0, none⟩ (.slice aN i cN)).setCell ⟨w.heap.size + 1 + 1, 1, none⟩ (.slice aU j cU)).drew f2.drew
              have g1 := (show ((((wr.setCell ⟨w.heap.size + 1, 0, none⟩ (.slice a0 n0 c0)).setCell ⟨w.heap.size + 1, 1, none⟩ (.int .i64 k0)).setCell ⟨w.heap.size + 1 + 1, 0, none⟩ (.slice aN i cN)).setCell ⟨w.heap.size + 1 + 1, 1, none⟩ (.slice aU j cU)).drew.heap[w.heap.size + 1]? = ((wr.setCell ⟨w.heap.size + 1, 0, none⟩ (.slice a0 n0 c0)).setCell ⟨w.heap.size + 1, 1, none⟩ (.int .i64 k0)).heap[w.heap.size + 1]? from stored2_other _ _ (by omega)).trans (stored2 hS.r1 _ _)
              have g2 : ((((wr.setCell ⟨w.heap.size + 1, 0, none⟩ (.slice a0 n0 c0)).setCell ⟨w.heap.size + 1, 1, none⟩ (.int .i64 k0)).setCell ⟨w.heap.size + 1 + 1, 0, none⟩ (.slice aN i cN)).setCell ⟨w.heap.size + 1 + 1, 1, none⟩ (.slice aU j cU)).drew.heap[w.heap.size + 1 + 1]? = _ := stored2 ((stored2_other _ _ (by omega)).trans hS.r2) _ _
              have BW : Hid (Below w.heap.size w ((((wr.setCell ⟨w.heap.size + 1, 0, none⟩ (.slice a0 n0 c0)).setCell ⟨w.heap.size + 1, 1, none⟩ (.int .i64 k0)).setCell ⟨w.heap.size + 1 + 1, 0, none⟩ (.slice aN i cN)).setCell ⟨w.heap.size + 1 + 1, 1, none⟩ (.slice aU j cU)).drew) := hS.be.trans ⟨f2.os, f2.tape, f2.output, f2.size, fun q hq => f2.block q (Nat.lt_of_lt_of_le hq hS.be.size) (by omega)⟩
              have RN : Hid (RdsNd ((((wr.setCell ⟨w.heap.size + 1, 0, none⟩ (.slice a0 n0 c0)).setCell ⟨w.heap.size + 1, 1, none⟩ (.int .i64 k0)).setCell ⟨w.heap.size + 1 + 1, 0, none⟩ (.slice aN i cN)).setCell ⟨w.heap.size + 1 + 1, 1, none⟩ (.slice aU j cU)).drew (.slice aN i cN) N) := (hS.oN.kept f2.drew (fun b hb e => by have := hS.bN b hb; omega)).rds
              have RU : Hid (RdsUs ((((wr.setCell ⟨w.heap.size + 1, 0, none⟩ (.slice a0 n0 c0)).setCell ⟨w.heap.size + 1, 1, none⟩ (.int .i64 k0)).setCell ⟨w.heap.size + 1 + 1, 0, none⟩ (.slice aN i cN)).setCell ⟨w.heap.size + 1 + 1, 1, none⟩ (.slice aU j cU)).drew (.slice aU j cU) U) := (hS.oU.kept f2.drew (fun b hb e => by have := hS.bU b hb; omega)).rds
              obtain ⟨W, hW⟩ : ∃ W, W = ((((wr.setCell ⟨w.heap.size + 1, 0, none⟩ (.slice a0 n0 c0)).setCell ⟨w.heap.size + 1, 1, none⟩ (.int .i64 k0)).setCell ⟨w.heap.size + 1 + 1, 0, none⟩ (.slice aN i cN)).setCell ⟨w.heap.size + 1 + 1, 1, none⟩ (.slice aU j cU)).drew := ⟨_, rfl⟩
              rw [← hW] at g1 g2 BW RN RU
              have Fin : Hid (RTk w W (.returned (.tuple #[.agg #[.slice a0 n0 c0, .int .i64 k0], .agg #[.slice aN i cN, .slice aU j cU], .bool (QT.okV N U).1])) l k) := ⟨⟨a0, n0, c0, l0, k0, _, N, _, U, _, rfl, hS.hn, RN, RU, hfin.1, fun e => ⟨hfin.2 e, rfl⟩⟩, BW⟩
              have EW := Lib.hid (And.intro (cells2 g1) (cells2 g2))
              have HWs : Hid (((((wr.setCell ⟨w.heap.size + 1, 0, none⟩ (.slice a0 n0 c0)).setCell ⟨w.heap.size + 1, 1, none⟩ (.int .i64 k0)).setCell ⟨w.heap.size + 1 + 1, 0, none⟩ (.slice aN i cN)).setCell ⟨w.heap.size + 1 + 1, 1, none⟩ (.slice aU j cU)).drew = W) := hW.symm
              obtain ⟨p0, p1, p2, p3⟩ := cells2 hS.r1
              obtain ⟨q0, q1, q2, q3⟩ := cells2 hS.r2
              clear hfin hlt4 f1 f2 g1 g2 BW RN RU hW cont hS S
              go_wp2_with fail
              refine wp_region_noPanic ?_
              refine wp_region_held_drew (S := fun V => (Hid (Fr (fun j => j = w.heap.size + 1 ∨ j = w.heap.size + 1 + 1) wr V) ∧ V.cell? ⟨w.heap.size, 0, none⟩ = some (.slice a0 n0 c0) ∧ V.cell? ⟨w.heap.size, 1, none⟩ = some (.int .i64 k0) ∧ V.cell? ⟨w.heap.size + 1 + 1 + 1, 0, none⟩ = some (.slice aN i cN) ∧ V.cell? ⟨w.heap.size + 1 + 1 + 1, 1, none⟩ = some (.slice aU j cU))) (by kernel_rfl) S0 (fun hHeld => ?_)
              refine rTk 0 ?_; try simp only [Act.put, rP1, rP2, rP3]
              refine rTk 1 ?_; try simp only [Act.put, rP1, rP2, rP3]
              refine rTk 2 ?_; try simp only [Act.put, rP1, rP2, rP3]
              refine rBr 3 fun K hK => ?_
              go_simp
              try (go_wp2_with fail)
              refine hK.out _ _ (by (try dsimp only); assumption) (fun hHeld => ?_)
              clear hK K
              try simp only [Act.put, rP1, rP2, rP3]
              refine rBr 4 fun K hK => ?_
              go_simp
              try (go_wp2_with fail)
              refine hK.out _ _ (by (try dsimp only); assumption) (fun hHeld => ?_)
              clear hK K
              try simp only [Act.put, rP1, rP2, rP3]
              refine rTk 5 ?_; try simp only [Act.put, rP1, rP2, rP3]
              refine wpAnyH_done (by kernel_rfl) ?_ _
              refine NoPanic.normal ?_
              go_wp2_with (rw [HWs.out]; obtain ⟨⟨e0, e1, _⟩, e2, e3, _⟩ := EW.out; refine bodyPost_ret (v := .tuple #[.agg #[.slice a0 n0 c0, .int .i64 k0], .agg #[.slice aN i cN, .slice aU j cU], .bool (QT.okV N U).1]) (by simp [results, Tryz.results59, go_sem, e0, e1, e2, e3]) rfl ?_; exact Fin.out)
          · have h1 : ¬ (j : Int) < (c2 : Int) := by omega
            have hfin := QT.take_fin HP0.out QN.out hi.out HX1.out HP2.out QU.out hj (fun _ => by omega)
            have hlt4 := S.out.lt
            have hS := S.out
            obtain ⟨r0, r1, r2, r3⟩ := cells2 hS.rd
            obtain ⟨t0, t1, t2, t3⟩ := cells2 hS.tb
            have cont : Hid (∀ V, Fr (fun j => j = w.heap.size + 1 ∨ j = w.heap.size + 1 + 1) wr V → (Hid (Fr (fun j => j = w.heap.size + 1 ∨ j = w.heap.size + 1 + 1) wr V) ∧ V.cell? ⟨w.heap.size, 0, none⟩ = some (.slice a0 n0 c0) ∧ V.cell? ⟨w.heap.size, 1, none⟩ = some (.int .i64 k0) ∧ V.cell? ⟨w.heap.size + 1 + 1 + 1, 0, none⟩ = some (.slice aN i cN) ∧ V.cell? ⟨w.heap.size + 1 + 1 + 1, 1, none⟩ = some (.slice aU j cU))) := fun V f => ⟨Lib.hid f, (World.cell?_of_block (a := ⟨w.heap.size, 0, none⟩) (f.block w.heap.size (by omega) (by omega))).trans r0, (World.cell?_of_block (a := ⟨w.heap.size, 1, none⟩) (f.block w.heap.size (by omega) (by omega))).trans r1, (World.cell?_of_block (a := ⟨w.heap.size + 1 + 1 + 1, 0, none⟩) (f.block (w.heap.size + 1 + 1 + 1) (by omega) (by omega))).trans t0, (World.cell?_of_block (a := ⟨w.heap.size + 1 + 1 + 1, 1, none⟩) (f.block (w.heap.size + 1 + 1 + 1) (by omega) (by omega))).trans t1⟩
            have S0 := cont.out wr.drew (Fr.refl _ _).drew
            have f1 : Fr (fun j => j = w.heap.size + 1 ∨ j = w.heap.size + 1 + 1) wr ((wr.setCell ⟨w.heap.size + 1, 0, none⟩ (.slice a0 n0 c0)).setCell ⟨w.heap.size + 1, 1, none⟩ (.int .i64 k0)) := put2q_fr _ wr _ (.inl rfl) a0 n0 c0 k0
            have f2 : Fr (fun j => j = w.heap.size + 1 ∨ j = w.heap.size + 1 + 1) wr ((((wr.setCell ⟨w.heap.size + 1, 0, none⟩ (.slice a0 n0 c0)).setCell ⟨w.heap.size + 1, 1, none⟩ (.int .i64 k0)).setCell ⟨w.heap.size + 1 + 1, 0, none⟩ (.slice aN i cN)).setCell ⟨w.heap.size + 1 + 1, 1, none⟩ (.slice aU j cU)) := Fr.setCell (X := fun j => j = w.heap.size + 1 ∨ j = w.heap.size + 1 + 1) (Fr.setCell (X := fun j => j = w.heap.size + 1 ∨ j = w.heap.size + 1 + 1) f1 (fun _ => .inr rfl) _) (fun _ => .inr rfl) _
            have TW1 := cont.out ((wr.setCell ⟨w.heap.size + 1, 0, none⟩ (.slice a0 n0 c0)).setCell ⟨w.heap.size + 1, 1, none⟩ (.int .i64 k0)).drew f1.drew
            have TW2 := cont.out ((((wr.setCell ⟨w.heap.size + 1, 0, none⟩ (.slice a0 n0 c0)).setCell ⟨w.heap.size + 1, 1, none⟩ (.int .i64 k0)).setCell ⟨w.heap.size + 1 + 1, 0, none⟩ (.slice aN i cN)).setCell ⟨w.heap.size + 1 + 1, 1, none⟩ (.slice aU j cU)).drew f2.drew
            have g1 := (show ((((wr.setCell ⟨w.heap.size + 1, 0, none⟩ (.slice a0 n0 c0)).setCell ⟨w.heap.size + 1, 1, none⟩ (.int .i64 k0)).setCell ⟨w.heap.size + 1 + 1, 0, none⟩ (.slice aN i cN)).setCell ⟨w.heap.size + 1 + 1, 1, none⟩ (.slice aU j cU)).drew.heap[w.heap.size + 1]? = ((wr.setCell ⟨w.heap.size + 1, 0, none⟩ (.slice a0 n0 c0)).setCell ⟨w.heap.size + 1, 1, none⟩ (.int .i64 k0)).heap[w.heap.size + 1]? from stored2_other _ _ (by omega)).trans (stored2 hS.r1 _ _)
            have g2 : ((((wr.setCell ⟨w.heap.size + 1, 0, none⟩ (.slice a0 n0 c0)).setCell ⟨w.heap.size + 1, 1, none⟩ (.int .i64 k0)).setCell ⟨w.heap.size + 1 + 1, 0, none⟩ (.slice aN i cN)).setCell ⟨w.heap.size + 1 + 1, 1, none⟩ (.slice aU j cU)).drew.heap[w.heap.size + 1 + 1]? = _ := stored2 ((stored2_other _ _ (by omega)).trans hS.r2) _ _
            have BW : Hid (Below w.heap.size w ((((wr.setCell ⟨w.heap.size + 1, 0, none⟩ (.slice a0 n0 c0)).setCell ⟨w.heap.size + 1, 1, none⟩ (.int .i64 k0)).setCell ⟨w.heap.size + 1 + 1, 0, none⟩ (.slice aN i cN)).setCell ⟨w.heap.size + 1 + 1, 1, none⟩ (.slice aU j cU)).drew) := hS.be.trans ⟨f2.os, f2.tape, f2.output, f2.size, fun q hq => f2.block q (Nat.lt_of_lt_of_le hq hS.be.size) (by omega)⟩
            have RN : Hid (RdsNd ((((wr.setCell ⟨w.heap.size + 1, 0, none⟩ (.slice a0 n0 c0)).setCell ⟨w.heap.size + 1, 1, none⟩ (.int .i64 k0)).setCell ⟨w.heap.size + 1 + 1, 0, none⟩ (.slice aN i cN)).setCell ⟨w.heap.size + 1 + 1, 1, none⟩ (.slice aU j cU)).drew (.slice aN i cN) N) := (hS.oN.kept f2.drew (fun b hb e => by have := hS.bN b hb; omega)).rds
            have RU : Hid (RdsUs ((((wr.setCell ⟨w.heap.size + 1, 0, none⟩ (.slice a0 n0 c0)).setCell ⟨w.heap.size + 1, 1, none⟩ (.int .i64 k0)).setCell ⟨w.heap.size + 1 + 1, 0, none⟩ (.slice aN i cN)).setCell ⟨w.heap.size + 1 + 1, 1, none⟩ (.slice aU j cU)).drew (.slice aU j cU) U) := (hS.oU.kept f2.drew (fun b hb e => by have := hS.bU b hb; omega)).rds
            obtain ⟨W, hW⟩ : ∃ W, W = ((((wr.setCell ⟨w.heap.size + 1, 0, none⟩ (.slice a0 n0 c0)).setCell ⟨w.heap.size + 1, 1, none⟩ (.int .i64 k0)).setCell ⟨w.heap.size + 1 + 1, 0, none⟩ (.slice aN i cN)).setCell ⟨w.heap.size + 1 + 1, 1, none⟩ (.slice aU j cU)).drew := ⟨_, rfl⟩
            rw [← hW] at g1 g2 BW RN RU
            have Fin : Hid (RTk w W (.returned (.tuple #[.agg #[.slice a0 n0 c0, .int .i64 k0], .agg #[.slice aN i cN, .slice aU j cU], .bool (QT.okV N U).1])) l k) := ⟨⟨a0, n0, c0, l0, k0, _, N, _, U, _, rfl, hS.hn, RN, RU, hfin.1, fun e => ⟨hfin.2 e, rfl⟩⟩, BW⟩
            have EW := Lib.hid (And.intro (cells2 g1) (cells2 g2))
            have HWs : Hid (((((wr.setCell ⟨w.heap.size + 1, 0, none⟩ (.slice a0 n0 c0)).setCell ⟨w.heap.size + 1, 1, none⟩ (.int .i64 k0)).setCell ⟨w.heap.size + 1 + 1, 0, none⟩ (.slice aN i cN)).setCell ⟨w.heap.size + 1 + 1, 1, none⟩ (.slice aU j cU)).drew = W) := hW.symm
            obtain ⟨p0, p1, p2, p3⟩ := cells2 hS.r1
            obtain ⟨q0, q1, q2, q3⟩ := cells2 hS.r2
            clear hfin hlt4 f1 f2 g1 g2 BW RN RU hW cont hS S
            go_wp2_with fail
            refine wp_region_noPanic ?_
            refine wp_region_held_drew (S := fun V => (Hid (Fr (fun j => j = w.heap.size + 1 ∨ j = w.heap.size + 1 + 1) wr V) ∧ V.cell? ⟨w.heap.size, 0, none⟩ = some (.slice a0 n0 c0) ∧ V.cell? ⟨w.heap.size, 1, none⟩ = some (.int .i64 k0) ∧ V.cell? ⟨w.heap.size + 1 + 1 + 1, 0, none⟩ = some (.slice aN i cN) ∧ V.cell? ⟨w.heap.size + 1 + 1 + 1, 1, none⟩ = some (.slice aU j cU))) (by kernel_rfl) S0 (fun hHeld => ?_)
            refine rTk 0 ?_; try simp only [Act.put, rP1, rP2, rP3]
            refine rTk 1 ?_; try simp only [Act.put, rP1, rP2, rP3]
            refine rTk 2 ?_; try simp only [Act.put, rP1, rP2, rP3]
            refine rBr 3 fun K hK => ?_
            go_simp
            try (go_wp2_with fail)
            refine hK.out _ _ (by (try dsimp only); assumption) (fun hHeld => ?_)
            clear hK K
            try simp only [Act.put, rP1, rP2, rP3]
            refine rBr 4 fun K hK => ?_
            go_simp
            try (go_wp2_with fail)
            refine hK.out _ _ (by (try dsimp only); assumption) (fun hHeld => ?_)
            clear hK K
            try simp only [Act.put, rP1, rP2, rP3]
            refine rTk 5 ?_; try simp only [Act.put, rP1, rP2, rP3]
            refine wpAnyH_done (by kernel_rfl) ?_ _
            refine NoPanic.normal ?_
            go_wp2_with (rw [HWs.out]; obtain ⟨⟨e0, e1, _⟩, e2, e3, _⟩ := EW.out; refine bodyPost_ret (v := .tuple #[.agg #[.slice a0 n0 c0, .int .i64 k0], .agg #[.slice aN i cN, .slice aU j cU], .bool (QT.okV N U).1]) (by simp [results, Tryz.results59, go_sem, e0, e1, e2, e3]) rfl ?_; exact Fin.out)
    · have h1 : ¬ (i : Int) < (cn : Int) := by omega
      have hlen : N.length = i := by have := QT.readL_length QT.readNd i la ka; rw [Q.out] at this; exact this
      obtain ⟨aN, cN, eN⟩ := S.out.oN.form
      rw [hlen] at eN
      subst eN
      have hn0 := S.out.hn
      subst hn0
      obtain ⟨c2, lb, kb, hp2⟩ : ∃ v l' k', PK.countP 1024 l0 k0 = (v, l', k') := ⟨_, _, _, rfl⟩
      have hc2 : c2 ≤ 1024 := by have := QT.count_cap 1024 l0 k0; rw [show ((1024 : Nat) : Int) = 1024 from rfl, hp2] at this; exact this
      have hc2' : (c2 : Int) ≤ 281474976710656 := by omega
      have hlrb : lb.length ≤ roomB := by have := QT.count_rest 1024 l0 k0; rw [hp2] at this; exact Nat.le_trans this S.out.lr
      have HC3 := Lib.hid (rreadCount_any1024 a0 c0 k0 l0 wr S.out.is)
      rw [hp2] at HC3
      have HP2 := Lib.hid hp2
      have HC2 := Lib.hid hc2
      have QN := Q
      have HX1 : Hid (k0 = 0 → i = cn) := Lib.hid (fun _ => by omega)
      have hiH := Lib.hid hi
      clear hi hlen hp2 hc2 Q
      have hi := hiH
      clear hiH
      go_wp2_with fail
      refine HC3.out.mono ?_
      rintro e w3 ⟨⟨a3, c3, rfl, i3⟩, b3⟩
      have T3 := S.out.below b3
      have T4 := T3.putR (k' := kb) i3 rfl hlrb
      obtain ⟨s0, s1, s2, s3⟩ := cells2 T3.rd
      obtain ⟨V4, hV4⟩ : ∃ V, V = put2q w3 w.heap.size a3 lb.length c3 kb := ⟨_, rfl⟩
      rw [← hV4] at T4
      have HV4 : Hid ((w3.setCell ⟨w.heap.size, 0, none⟩ (.slice a3 lb.length c3)).setCell ⟨w.heap.size, 1, none⟩ (.int .i64 kb) = V4) := hV4.symm
      have HT4 := Lib.hid T4
      clear HC3 S b3 T3 T4 i3 hV4 t0 t1 t2 t3
      go_wp2_with (rw [HV4.out])
      clear HV4 s0 s1 s2 s3
      go_loopw [6, 7, 13] (fun v6 v7 v9 V => ∃ (j : Nat) (a' : Option Addr) (n' c' : Nat) (l' : List UInt8) (k' : Nat) (vU : Value) (U : List QT.Us), j ≤ c2 ∧ v9 = .int .i64 j ∧ v6 = .bool (QT.okV N U).1 ∧ v7 = .string (str (QT.okV N U).2) ∧ Hid (QT.readL QT.readUs j lb kb = (U, l', k')) ∧ Hid (TkS w V a' n' c' l' k' (.slice aN i cN) N vU U)) (fun _ _ v _ => c2 - (intOf v).toNat)
      case atStart => exact ⟨0, a3, lb.length, c3, lb, kb, .slice none 0 0, [], Nat.zero_le _, rfl, rfl, rfl, Lib.hid rfl, HT4⟩
      case round =>
        have hkq : Hid (k0 = 0 → i = cn) := HX1
        rename_i k0q _
        obtain ⟨j, a0, n0, c0, l0, k0, vU, U, hj, rfl, rfl, rfl, QU, S⟩ := hrel
        clear HT4 hkq
        have hlenU : U.length = j := by have := QT.readL_length QT.readUs j lb kb; rw [QU.out] at this; exact this
        obtain ⟨aU, cU, eU⟩ := S.out.oU.form
        rw [hlenU] at eU
        subst eU
        clear hlenU
        obtain ⟨t0, t1, t2, t3⟩ := cells2 S.out.rd
        by_cases hlt : j < c2
        · have h1 : (j : Int) < (c2 : Int) := by omega
          by_cases hk : k0 = 0
          · subst hk
            have hlen : U.length = j := by have := QT.readL_length QT.readUs j lb kb; rw [QU.out] at this; exact this
            have hBlt : w.heap.size < wr.heap.size := by have := S.out.lt; omega
            have e0 : ∀ o, (wr.alloc o).cell? ⟨w.heap.size, 0, none⟩ = some (.slice a0 n0 c0) := fun o => (World.cell?_of_block (a := ⟨w.heap.size, 0, none⟩) (Below.heap_alloc _ _ _ hBlt)).trans t0
            have e1 : ∀ o, (wr.alloc o).cell? ⟨w.heap.size, 1, none⟩ = some (.int .i64 (0 : Nat)) := fun o => (World.cell?_of_block (a := ⟨w.heap.size, 1, none⟩) (Below.heap_alloc _ _ _ hBlt)).trans t1
            go_wp2_with fail
            generalize hV0 : wr.alloc _ = V0
            have X0 : TkX w V0 wr.heap.size #[.string (str []), .string (str []), .complex .f64 0 0] 178 a0 n0 c0 l0 0 (.slice aN i cN) N (.slice aU j cU) U := by
              rw [← hV0]
              exact TkX.new S.out (fun j n e => by rcases j with _ | _ | _ | j <;> simp at e)
            generalize wr.heap.size = XB at *
            clear t0 t1 t2 t3 h1 e0 e1 hBlt
            obtain ⟨d1, l1, k1, hp1⟩ : ∃ v l' k', PK.runP 116 32 l0 0 = (v, l', k') := ⟨_, _, _, rfl⟩
            have hr1 : l1.length ≤ roomB := by have := QT.run_rest l0 0; rw [hp1] at this; exact Nat.le_trans this X0.s.lr
            have HR1 := Lib.hid (rtext_any a0 n0 c0 0 l0 32 V0 X0.s.hn X0.s.is (by omega) (by omega) X0.s.lr)
            rw [hp1] at HR1
            refine HR1.out.mono ?_
            rintro e w1 ⟨⟨a1, n1, c1, rfl, hn1, i1⟩, b1⟩
            simp only at hn1 i1
            have Y1 := X0.below b1
            have P1 := Y1.putR (k' := k1) i1 hn1 hr1
            obtain ⟨s0, s1, s2, s3⟩ := cells2 Y1.s.rd
            obtain ⟨V1, hV1⟩ : ∃ V, V = put2q w1 w.heap.size a1 n1 c1 k1 := ⟨_, rfl⟩
            have X1 := P1
            rw [← hV1] at X1
            have HV1 : Hid ((w1.setCell ⟨w.heap.size, 0, none⟩ (.slice a1 n1 c1)).setCell ⟨w.heap.size, 1, none⟩ (.int .i64 k1) = V1) := hV1.symm
            obtain ⟨t0, t1, t2, t3⟩ := cells2 X1.s.rd
            clear HR1 b1 Y1 P1 i1 hn1 hr1 hV1 X0
            go_wp2_with (rw [HV1.out])
            clear s0 s1 s2 s3 t0 t1 t2 t3 HV1
            obtain ⟨d2, l2, k2, hp2⟩ : ∃ v l' k', PK.runP 116 32 l1 k1 = (v, l', k') := ⟨_, _, _, rfl⟩
            have hr2 : l2.length ≤ roomB := by have := QT.run_rest l1 k1; rw [hp2] at this; exact Nat.le_trans this X1.s.lr
            have HR2 := Lib.hid (rtext_any a1 n1 c1 k1 l1 32 V1 X1.s.hn X1.s.is (by omega) (by omega) X1.s.lr)
            rw [hp2] at HR2
            refine HR2.out.mono ?_
            rintro e w2 ⟨⟨a2, n2, c2, rfl, hn2, i2⟩, b2⟩
            simp only at hn2 i2
            have Y2 := X1.below b2
            have P2 := Y2.putR (k' := k2) i2 hn2 hr2
            obtain ⟨s0, s1, s2, s3⟩ := cells2 Y2.s.rd
            obtain ⟨V2, hV2⟩ : ∃ V, V = put2q w2 w.heap.size a2 n2 c2 k2 := ⟨_, rfl⟩
            have X2 := P2
            rw [← hV2] at X2
            have HV2 : Hid ((w2.setCell ⟨w.heap.size, 0, none⟩ (.slice a2 n2 c2)).setCell ⟨w.heap.size, 1, none⟩ (.int .i64 k2) = V2) := hV2.symm
            obtain ⟨t0, t1, t2, t3⟩ := cells2 X2.s.rd
            obtain ⟨⟨z0, z1, z2⟩, f0, f1, f2⟩ := cells3f X2.xb
            have P3 := (X2.putX 0 (.string (str d1)) (by simp) rfl).putX 1 (.string (str d2)) (by simp) rfl
            simp only [List.setIfInBounds_toArray, List.set_cons_zero, List.set_cons_succ] at P3
            obtain ⟨V3, hV3⟩ : ∃ V, V = (V2.setCell ⟨XB, 0, none⟩ (.string (str d1))).setCell ⟨XB, 1, none⟩ (.string (str d2)) := ⟨_, rfl⟩
            rw [← hV3] at P3
            have X3 := P3
            obtain ⟨y0, y1, _, _⟩ := cells2 X3.s.rd
            have HV3 : Hid ((V2.setCell ⟨XB, 0, none⟩ (.string (str d1))).setCell ⟨XB, 1, none⟩ (.string (str d2)) = V3) := hV3.symm
            clear HR2 b2 Y2 P2 i2 hn2 hr2 hV2 X1
            clear hV3
            go_wp2_with (first | rw [HV2.out] | rw [HV3.out])
            clear s0 s1 s2 s3 t0 t1 t2 t3 HV2
            clear HV3 y0 y1 z0 z1 z2 f0 f1 f2 P3
            obtain ⟨t0, t1, _, _⟩ := cells2 X3.s.rd
            obtain ⟨o1, m4, j4, hq4⟩ : ∃ v l' k', PK.uintP QT.cap l2 k2 = (v, l', k') := ⟨_, _, _, rfl⟩
            obtain ⟨o2, l4, k4, hp4⟩ : ∃ v l' k', PK.uintP QT.cap m4 j4 = (v, l', k') := ⟨_, _, _, rfl⟩
            have hr4 : l4.length ≤ roomB := by have h1 := QT.uint_rest QT.cap l2 k2; rw [hq4] at h1; have h2 := QT.uint_rest QT.cap m4 j4; rw [hp4] at h2; exact Nat.le_trans h2 (Nat.le_trans h1 X3.s.lr)
            have HR4 := Lib.hid (rtakeA_any a2 n2 c2 k2 l2 V3 X3.s.hn X3.s.is)
            rw [hq4] at HR4
            simp only at HR4
            rw [hp4] at HR4
            refine HR4.out.mono ?_
            rintro e w4 ⟨⟨a4, n4, c4, rfl, hn4, i4⟩, b4⟩
            simp only at hn4 i4
            have Y4 := X3.below b4
            have P4 := Y4.putR (k' := k4) i4 hn4 hr4
            obtain ⟨s0, s1, s2, s3⟩ := cells2 Y4.s.rd
            obtain ⟨⟨z0, z1, z2⟩, g0, g1, g2⟩ := cells3f Y4.xb
            have X4 := P4.putX 2 (.complex .f64 (FL.fB o1) (FL.fB o2)) (by simp) rfl
            simp only [List.setIfInBounds_toArray, List.set_cons_zero, List.set_cons_succ] at X4
            obtain ⟨V4, hV4⟩ : ∃ V, V = (put2q w4 w.heap.size a4 n4 c4 k4).setCell ⟨XB, 2, none⟩ (.complex .f64 (FL.fB o1) (FL.fB o2)) := ⟨_, rfl⟩
            rw [← hV4] at X4
            have HV4 : Hid (((w4.setCell ⟨w.heap.size, 0, none⟩ (.slice a4 n4 c4)).setCell ⟨w.heap.size, 1, none⟩ (.int .i64 k4)).setCell ⟨XB, 2, none⟩ (.complex .f64 (FL.fB o1) (FL.fB o2)) = V4) := hV4.symm
            clear HR4 b4 Y4 P4 i4 hn4 hr4 hV4 X3 t0 t1
            obtain ⟨t0, t1, _, _⟩ := cells2 X4.s.rd
            obtain ⟨⟨y0, y1, y2⟩, _⟩ := cells3f X4.xb
            obtain ⟨ob, lst, hst⟩ : ∃ b s, QT.okV N U = (b, s) := ⟨_, _, rfl⟩
            obtain ⟨u0, u1, u2, u3⟩ := cells2 X4.s.tb
            obtain ⟨x, hx⟩ : ∃ x : QT.Us, x = ⟨d1, d2, o1, o2⟩ := ⟨_, rfl⟩
            have HQ : Hid (QT.readL QT.readUs (j + 1) lb kb = (U ++ [x], l4, k4)) := Lib.hid (by rw [QT.readL_snoc, QU.out]; simp only [QT.readUs, hp1, hp2, hq4, hp4, hx])
            have HS : Hid ((QT.okV N (U ++ [x])).1 = (ob && QT.nameP d1 && QT.gtS d1 lst && (QT.find N d2).isSome) ∧ (QT.okV N (U ++ [x])).2 = d1) := Lib.hid (by rw [QT.okV_snoc, hst, hx]; simp [QT.stepO])
            have hd1 : d1.length ≤ 32 := by have := QT.run32_len l0 0; rw [hp1] at this; exact this
            have HX := Lib.hid X4
            have HL := Lib.hid hlen
            have HNm := Lib.hid (rnamed_any (str d1) V4 (by rw [str_size]; omega))
            rw [show (str d1).data.toList = d1 from rfl] at HNm
            have HFd := Lib.hid (rfind_any aN i cN (.slice aU j cU) N d2 V4 X4.s.oN.rds)
            have gen : Hid (∀ V, Below V4.heap.size V4 V → (∀ o, OwnUs (V.alloc o) (.slice aU j cU) U) ∧ TkX w V XB _ _ a4 n4 c4 l4 k4 (.slice aN i cN) N (.slice aU j cU) U ∧ ∀ j u, (valsUs x)[j]? = some u → (V.alloc (.cells #[.string (str d1), .string (str d2), .complex .f64 (FL.fB o1) (FL.fB o2)] 178)).cell? ⟨V.heap.size, j, none⟩ = some u) := Lib.hid (fun V f => ⟨fun o => ((X4.below f).s.below ((Below.refl _ _).alloc (Nat.le_refl _) o)).oU, X4.below f, fun j u hu => by
              rw [World.cell?_alloc_new]
              subst hx
              rw [← hu]
              simp [valsUs]⟩)
            rw [hst]
            clear X4 QU S hp1 hp2 hq4 hp4 hlen hst hd1
            simp only
            cases ob with
            | false =>
              have hgt : Hid ((false && QT.nameP d1 && QT.gtS d1 lst && (QT.find N d2).isSome) = false) := rfl
              have GG := Lib.hid (gen.out V4 (Below.refl _ _))
              clear HNm HFd gen
              go_wp2_with (first | rw [HV4.out] | (at_builtin; refine wpList_appUs rfl (.tmp 144) (.tmp 146) rfl TUs (v := .slice aU j cU) (n := j) HL.out rfl (GG.out.1 _) rfl GG.out.2.2 (by have := HC2.out; omega) ?_; intro a9 c9 w9 o9 g9 b9; have tb9 := g9.heap (GG.out.2.1.s.below ((Below.refl _ _).alloc (Nat.le_refl _) _)).tb (fun e => by have := GG.out.2.1.s.bU _ e; omega); obtain ⟨p0, p1, p2, p3⟩ := cells2 tb9; have S9 := Lib.hid (GG.out.2.1.putU _ rfl g9 o9 b9); clear o9 g9 b9 tb9))
              exact ⟨⟨j + 1, a4, n4, c4, l4, k4, .slice a9 (j + 1) c9, U ++ [x], by omega, by simp, by rw [HS.out.1, hgt.out], by rw [HS.out.2], HQ, S9⟩, by simp [intOf]; omega⟩
            | true =>
              cases hnm : QT.nameP d1 with
              | false =>
                rw [hnm] at HNm
                have hgt : Hid ((true && QT.nameP d1 && QT.gtS d1 lst && (QT.find N d2).isSome) = false) := Lib.hid (by rw [hnm]; rfl)
                have GG := Lib.hid (gen.out V4 (Below.refl _ _))
                clear hnm HFd gen
                go_wp2_with (rw [HV4.out])
                refine HNm.out.mono ?_
                rintro e w7 ⟨rfl, rfl⟩
                clear HNm
                go_wp2_with (at_builtin; refine wpList_appUs rfl (.tmp 144) (.tmp 146) rfl TUs (v := .slice aU j cU) (n := j) HL.out rfl (GG.out.1 _) rfl GG.out.2.2 (by have := HC2.out; omega) ?_; intro a9 c9 w9 o9 g9 b9; have tb9 := g9.heap (GG.out.2.1.s.below ((Below.refl _ _).alloc (Nat.le_refl _) _)).tb (fun e => by have := GG.out.2.1.s.bU _ e; omega); obtain ⟨p0, p1, p2, p3⟩ := cells2 tb9; have S9 := Lib.hid (GG.out.2.1.putU _ rfl g9 o9 b9); clear o9 g9 b9 tb9)
                exact ⟨⟨j + 1, a4, n4, c4, l4, k4, .slice a9 (j + 1) c9, U ++ [x], by omega, by simp, by rw [HS.out.1, hgt.out], by rw [HS.out.2], HQ, S9⟩, by simp [intOf]; omega⟩
              | true =>
                rw [hnm] at HNm
                cases hgq : QT.gtS d1 lst with
                | false =>
                  have hgt : Hid ((true && QT.nameP d1 && QT.gtS d1 lst && (QT.find N d2).isSome) = false) := Lib.hid (by rw [hnm, hgq]; rfl)
                  have hcmp : (!Op.bytesLess (str d1).toList (str lst).toList && !(str d1).toList == (str lst).toList) = false := by rw [← hgq, str_toList, str_toList, QT.gtS, Bool.not_or]
                  have GG := Lib.hid (gen.out V4 (Below.refl _ _))
                  clear hnm HFd gen hgq
                  go_wp2_with (rw [HV4.out])
                  refine HNm.out.mono ?_
                  rintro e w7 ⟨rfl, rfl⟩
                  clear HNm
                  go_wp2_with (at_builtin; refine wpList_appUs rfl (.tmp 144) (.tmp 146) rfl TUs (v := .slice aU j cU) (n := j) HL.out rfl (GG.out.1 _) rfl GG.out.2.2 (by have := HC2.out; omega) ?_; intro a9 c9 w9 o9 g9 b9; have tb9 := g9.heap (GG.out.2.1.s.below ((Below.refl _ _).alloc (Nat.le_refl _) _)).tb (fun e => by have := GG.out.2.1.s.bU _ e; omega); obtain ⟨p0, p1, p2, p3⟩ := cells2 tb9; have S9 := Lib.hid (GG.out.2.1.putU _ rfl g9 o9 b9); clear o9 g9 b9 tb9)
                  exact ⟨⟨j + 1, a4, n4, c4, l4, k4, .slice a9 (j + 1) c9, U ++ [x], by omega, by simp, by rw [HS.out.1, hgt.out], by rw [HS.out.2], HQ, S9⟩, by simp [intOf]; omega⟩
                | true =>
                  have hcmp : (!Op.bytesLess (str d1).toList (str lst).toList && !(str d1).toList == (str lst).toList) = true := by rw [← hgq, str_toList, str_toList, QT.gtS, Bool.not_or]
                  obtain ⟨fd, hfd⟩ : ∃ b, b = (QT.find N d2).isSome := ⟨_, rfl⟩
                  obtain ⟨at_, hat⟩ : ∃ z, z = QT.at N d2 := ⟨_, rfl⟩
                  have hge : decide ((0 : Int) ≤ at_) = fd := by
                    rcases QT.at_cases N d2 with ⟨h1, h2⟩ | ⟨q, y, h1, _, h2⟩
                    · rw [hat, hfd, h1, h2]; rfl
                    · rw [hat, hfd, h1, h2, decide_eq_true (by omega)]; rfl
                  have hgt : Hid ((true && QT.nameP d1 && QT.gtS d1 lst && (QT.find N d2).isSome) = fd) := Lib.hid (by rw [hnm, hgq, hfd]; rfl)
                  rw [← hat] at HFd
                  clear hnm hgq hat hfd
                  go_wp2_with (rw [HV4.out])
                  refine HNm.out.mono ?_
                  rintro e w7 ⟨rfl, rfl⟩
                  clear HNm
                  go_wp2_with fail
                  refine HFd.out.mono ?_
                  rintro e w8 ⟨rfl, b8⟩
                  have GG := Lib.hid (gen.out w8 b8)
                  obtain ⟨t0, t1, _, _⟩ := cells2 GG.out.2.1.s.rd
                  obtain ⟨⟨y0, y1, y2⟩, _⟩ := cells3f GG.out.2.1.xb
                  obtain ⟨u0, u1, u2, u3⟩ := cells2 GG.out.2.1.s.tb
                  clear HFd gen b8
                  go_wp2_with (at_builtin; refine wpList_appUs rfl (.tmp 144) (.tmp 146) rfl TUs (v := .slice aU j cU) (n := j) HL.out rfl (GG.out.1 _) rfl GG.out.2.2 (by have := HC2.out; omega) ?_; intro a9 c9 w9 o9 g9 b9; have tb9 := g9.heap (GG.out.2.1.s.below ((Below.refl _ _).alloc (Nat.le_refl _) _)).tb (fun e => by have := GG.out.2.1.s.bU _ e; omega); obtain ⟨p0, p1, p2, p3⟩ := cells2 tb9; have S9 := Lib.hid (GG.out.2.1.putU _ rfl g9 o9 b9); clear o9 g9 b9 tb9)
                  exact ⟨⟨j + 1, a4, n4, c4, l4, k4, .slice a9 (j + 1) c9, U ++ [x], by omega, by simp, by rw [HS.out.1, hgt.out], by rw [HS.out.2], HQ, S9⟩, by simp [intOf]; omega⟩
          · have h2 : ¬ (k0 : Int) = 0 := by omega
            have hfin := QT.take_fin HP0.out QN.out hi.out HX1.out HP2.out QU.out hj (fun e => absurd e hk)
            have hlt4 := S.out.lt
            have hS := S.out
            obtain ⟨r0, r1, r2, r3⟩ := cells2 hS.rd
            obtain ⟨t0, t1, t2, t3⟩ := cells2 hS.tb
            have cont : Hid (∀ V, Fr (fun j => j = w.heap.size + 1 ∨ j = w.heap.size + 1 + 1) wr V → (Hid (Fr (fun j => j = w.heap.size + 1 ∨ j = w.heap.size + 1 + 1) wr V) ∧ V.cell? ⟨w.heap.size, 0, none⟩ = some (.slice a0 n0 c0) ∧ V.cell? ⟨w.heap.size, 1, none⟩ = some (.int .i64 k0) ∧ V.cell? ⟨w.heap.size + 1 + 1 + 1, 0, none⟩ = some (.slice aN i cN) ∧ V.cell? ⟨w.heap.size + 1 + 1 + 1, 1, none⟩ = some (.slice aU j cU))) := fun V f => ⟨Lib.hid f, (World.cell?_of_block (a := ⟨w.heap.size, 0, none⟩) (f.block w.heap.size (by omega) (by omega))).trans r0, (World.cell?_of_block (a := ⟨w.heap.size, 1, none⟩) (f.block w.heap.size (by omega) (by omega))).trans r1, (World.cell?_of_block (a := ⟨w.heap.size + 1 + 1 + 1, 0, none⟩) (f.block (w.heap.size + 1 + 1 + 1) (by omega) (by omega))).trans t0, (World.cell?_of_block (a := ⟨w.heap.size + 1 + 1 + 1, 1, none⟩) (f.block (w.heap.size + 1 + 1 + 1) (by omega) (by omega))).trans t1⟩
            have S0 := cont.out wr.drew (Fr.refl _ _).drew
            have f1 : Fr (fun j => j = w.heap.size + 1 ∨ j = w.heap.size + 1 + 1) wr ((wr.setCell ⟨w.heap.size + 1, 0, none⟩ (.slice a0 n0 c0)).setCell ⟨w.heap.size + 1, 1, none⟩ (.int .i64 k0)) := put2q_fr _ wr _ (.inl rfl) a0 n0 c0 k0
            have f2 : Fr (fun j => j = w.heap.size + 1 ∨ j = w.heap.size + 1 + 1) wr ((((wr.setCell ⟨w.heap.size + 1, 0, none⟩ (.slice a0 n0 c0)).setCell ⟨w.heap.size + 1, 1, none⟩ (.int .i64 k0)).setCell ⟨w.heap.size + 1 + 1, 0, none⟩ (.slice aN i cN)).setCell ⟨w.heap.size + 1 + 1, 1, none⟩ (.slice aU j cU)) := Fr.setCell (X := fun j => j = w.heap.size + 1 ∨ j = w.heap.size + 1 + 1) (Fr.setCell (X := fun j => j = w.heap.size + 1 ∨ j = w.heap.size + 1 + 1) f1 (fun _ => .inr rfl) _) (fun _ => .inr rfl) _
            have TW1 := cont.out ((wr.setCell ⟨w.heap.size + 1, 0, none⟩ (.slice a0 n0 c0)).setCell ⟨w.heap.size + 1, 1, none⟩ (.int .i64 k0)).drew f1.drew
            have TW2 := cont.out ((((wr.setCell ⟨w.heap.size + 1, 0, none⟩ (.slice a0 n0 c0)).setCell ⟨w.heap.size + 1, 1, none⟩ (.int .i64 k0)).setCell ⟨w.heap.size + 1 + 1, 0, none⟩ (.slice aN i cN)).setCell ⟨w.heap.size + 1 + 1, 1, none⟩ (.slice aU j cU)).drew f2.drew
            have g1 := (show ((((wr.setCell ⟨w.heap.size + 1, 0, none⟩ (.slice a0 n0 c0)).setCell ⟨w.heap.size + 1, 1, none⟩ (.int .i64 k0)).setCell ⟨w.heap.size + 1 + 1, 0, none⟩ (.slice aN i cN)).setCell ⟨w.heap.size + 1 + 1, 1, none⟩ (.slice aU j cU)).drew.heap[w.heap.size + 1]? = ((wr.setCell ⟨w.heap.size + 1, 0, none⟩ (.slice a0 n0 c0)).setCell ⟨w.heap.size + 1, 1, none⟩ (.int .i64 k0)).heap[w.heap.size + 1]? from stored2_other _ _ (by omega)).trans (stored2 hS.r1 _ _)
            have g2 : ((((wr.setCell ⟨w.heap.size + 1, 0, none⟩ (.slice a0 n0 c0)).setCell ⟨w.heap.size + 1, 1, none⟩ (.int .i64 k0)).setCell ⟨w.heap.size + 1 + 1, 0, none⟩ (.slice aN i cN)).setCell ⟨w.heap.size + 1 + 1, 1, none⟩ (.slice aU j cU)).drew.heap[w.heap.size + 1 + 1]? = _ := stored2 ((stored2_other _ _ (by omega)).trans hS.r2) _ _
            have BW : Hid (Below w.heap.size w ((((wr.setCell ⟨w.heap.size + 1, 0, none⟩ (.slice a0 n0 c0)).setCell ⟨w.heap.size + 1, 1, none⟩ (.int .i64 k0)).setCell ⟨w.heap.size + 1 + 1, 0, none⟩ (.slice aN i cN)).setCell ⟨w.heap.size + 1 + 1, 1, none⟩ (.slice aU j cU)).drew) := hS.be.trans ⟨f2.os, f2.tape, f2.output, f2.size, fun q hq => f2.block q (Nat.lt_of_lt_of_le hq hS.be.size) (by omega)⟩
            have RN : Hid (RdsNd ((((wr.setCell ⟨w.heap.size + 1, 0, none⟩ (.slice a0 n0 c0)).setCell ⟨w.heap.size + 1, 1, none⟩ (.int .i64 k0)).setCell ⟨w.heap.size + 1 + 1, 0, none⟩ (.slice aN i cN)).setCell ⟨w.heap.size + 1 + 1, 1, none⟩ (.slice aU j cU)).drew (.slice aN i cN) N) := (hS.oN.kept f2.drew (fun b hb e => by have := hS.bN b hb; omega)).rds
            have RU : Hid (RdsUs ((((wr.setCell ⟨w.heap.size + 1, 0, none⟩ (.slice a0 n0 c0)).setCell ⟨w.heap.size + 1, 1, none⟩ (.int .i64 k0)).setCell ⟨w.heap.size + 1 + 1, 0, none⟩ (.slice aN i cN)).setCell ⟨w.heap.size + 1 + 1, 1, none⟩ (.slice aU j cU)).drew (.slice aU j cU) U) := (hS.oU.kept f2.drew (fun b hb e => by have := hS.bU b hb; omega)).rds
            obtain ⟨W, hW⟩ : ∃ W, W = ((((wr.setCell ⟨w.heap.size + 1, 0, none⟩ (.slice a0 n0 c0)).setCell ⟨w.heap.size + 1, 1, none⟩ (.int .i64 k0)).setCell ⟨w.heap.size + 1 + 1, 0, none⟩ (.slice aN i cN)).setCell ⟨w.heap.size + 1 + 1, 1, none⟩ (.slice aU j cU)).drew := ⟨_, rfl⟩
            rw [← hW] at g1 g2 BW RN RU
            have Fin : Hid (RTk w W (.returned (.tuple #[.agg #[.slice a0 n0 c0, .int .i64 k0], .agg #[.slice aN i cN, .slice aU j cU], .bool (QT.okV N U).1])) l k) := ⟨⟨a0, n0, c0, l0, k0, _, N, _, U, _, rfl, hS.hn, RN, RU, hfin.1, fun e => ⟨hfin.2 e, rfl⟩⟩, BW⟩
            have EW := Lib.hid (And.intro (cells2 g1) (cells2 g2))
            have HWs : Hid (((((wr.setCell ⟨w.heap.size + 1, 0, none⟩ (.slice a0 n0 c0)).setCell ⟨w.heap.size + 1, 1, none⟩ (.int .i64 k0)).setCell ⟨w.heap.size + 1 + 1, 0, none⟩ (.slice aN i cN)).setCell ⟨w.heap.size + 1 + 1, 1, none⟩ (.slice aU j cU)).drew = W) := hW.symm
            obtain ⟨p0, p1, p2, p3⟩ := cells2 hS.r1
            obtain ⟨q0, q1, q2, q3⟩ := cells2 hS.r2
            clear hfin hlt4 f1 f2 g1 g2 BW RN RU hW cont hS S
            go_wp2_with fail
            refine wp_region_noPanic ?_
            refine wp_region_held_drew (S := fun V => (Hid (Fr (fun j => j = w.heap.size + 1 ∨ j = w.heap.size + 1 + 1) wr V) ∧ V.cell? ⟨w.heap.size, 0, none⟩ = some (.slice a0 n0 c0) ∧ V.cell? ⟨w.heap.size, 1, none⟩ = some (.int .i64 k0) ∧ V.cell? ⟨w.heap.size + 1 + 1 + 1, 0, none⟩ = some (.slice aN i cN) ∧ V.cell? ⟨w.heap.size + 1 + 1 + 1, 1, none⟩ = some (.slice aU j cU))) (by kernel_rfl) S0 (fun hHeld => ?_)
            refine rTk 0 ?_; try simp only [Act.put, rP1, rP2, rP3]
            refine rTk 1 ?_; try simp only [Act.put, rP1, rP2, rP3]
            refine rTk 2 ?_; try simp only [Act.put, rP1, rP2, rP3]
            refine rBr 3 fun K hK => ?_
            go_simp
            try (go_wp2_with fail)
            refine hK.out _ _ (by (try dsimp only); assumption) (fun hHeld => ?_)
            clear hK K
            try simp only [Act.put, rP1, rP2, rP3]
            refine rBr 4 fun K hK => ?_
            go_simp
            try (go_wp2_with fail)
            refine hK.out _ _ (by (try dsimp only); assumption) (fun hHeld => ?_)
            clear hK K
            try simp only [Act.put, rP1, rP2, rP3]
            refine rTk 5 ?_; try simp only [Act.put, rP1, rP2, rP3]
            refine wpAnyH_done (by kernel_rfl) ?_ _
            refine NoPanic.normal ?_
            go_wp2_with (rw [HWs.out]; obtain ⟨⟨e0, e1, _⟩, e2, e3, _⟩ := EW.out; refine bodyPost_ret (v := .tuple #[.agg #[.slice a0 n0 c0, .int .i64 k0], .agg #[.slice aN i cN, .slice aU j cU], .bool (QT.okV N U).1]) (by simp [results, Tryz.results59, go_sem, e0, e1, e2, e3]) rfl ?_; exact Fin.out)
        · have h1 : ¬ (j : Int) < (c2 : Int) := by omega
          have hfin := QT.take_fin HP0.out QN.out hi.out HX1.out HP2.out QU.out hj (fun _ => by omega)
          have hlt4 := S.out.lt
          have hS := S.out
          obtain ⟨r0, r1, r2, r3⟩ := cells2 hS.rd
          obtain ⟨t0, t1, t2, t3⟩ := cells2 hS.tb
          have cont : Hid (∀ V, Fr (fun j => j = w.heap.size + 1 ∨ j = w.heap.size + 1 + 1) wr V → (Hid (Fr (fun j => j = w.heap.size + 1 ∨ j = w.heap.size + 1 + 1) wr V) ∧ V.cell? ⟨w.heap.size, 0, none⟩ = some (.slice a0 n0 c0) ∧ V.cell? ⟨w.heap.size, 1, none⟩ = some (.int .i64 k0) ∧ V.cell? ⟨w.heap.size + 1 + 1 + 1, 0, none⟩ = some (.slice aN i cN) ∧ V.cell? ⟨w.heap.size + 1 + 1 + 1, 1, none⟩ = some (.slice aU j cU))) := fun V f => ⟨Lib.hid f, (World.cell?_of_block (a := ⟨w.heap.size, 0, none⟩) (f.block w.heap.size (by omega) (by omega))).trans r0, (World.cell?_of_block (a := ⟨w.heap.size, 1, none⟩) (f.block w.heap.size (by omega) (by omega))).trans r1, (World.cell?_of_block (a := ⟨w.heap.size + 1 + 1 + 1, 0, none⟩) (f.block (w.heap.size + 1 + 1 + 1) (by omega) (by omega))).trans t0, (World.cell?_of_block (a := ⟨w.heap.size + 1 + 1 + 1, 1, none⟩) (f.block (w.heap.size + 1 + 1 + 1) (by omega) (by omega))).trans t1⟩
          have S0 := cont.out wr.drew (Fr.refl _ _).drew
          have f1 : Fr (fun j => j = w.heap.size + 1 ∨ j = w.heap.size + 1 + 1) wr ((wr.setCell ⟨w.heap.size + 1, 0, none⟩ (.slice a0 n0 c0)).setCell ⟨w.heap.size + 1, 1, none⟩ (.int .i64 k0)) := put2q_fr _ wr _ (.inl rfl) a0 n0 c0 k0
          have f2 : Fr (fun j => j = w.heap.size + 1 ∨ j = w.heap.size + 1 + 1) wr ((((wr.setCell ⟨w.heap.size + 1, 0, none⟩ (.slice a0 n0 c0)).setCell ⟨w.heap.size + 1, 1, none⟩ (.int .i64 k0)).setCell ⟨w.heap.size + 1 + 1, 0, none⟩ (.slice aN i cN)).setCell ⟨w.heap.size + 1 + 1, 1, none⟩ (.slice aU j cU)) := Fr.setCell (X := fun j => j = w.heap.size + 1 ∨ j = w.heap.size + 1 + 1) (Fr.setCell (X := fun j => j = w.heap.size + 1 ∨ j = w.heap.size + 1 + 1) f1 (fun _ => .inr rfl) _) (fun _ => .inr rfl) _
          have TW1 := cont.out ((wr.setCell ⟨w.heap.size + 1, 0, none⟩ (.slice a0 n0 c0)).setCell ⟨w.heap.size + 1, 1, none⟩ (.int .i64 k0)).drew f1.drew
          have TW2 := cont.out ((((wr.setCell ⟨w.heap.size + 1, 0, none⟩ (.slice a0 n0 c0)).setCell ⟨w.heap.size + 1, 1, none⟩ (.int .i64 k0)).setCell ⟨w.heap.size + 1 + 1, 0, none⟩ (.slice aN i cN)).setCell ⟨w.heap.size + 1 + 1, 1, none⟩ (.slice aU j cU)).drew f2.drew
          have g1 := (show ((((wr.setCell ⟨w.heap.size + 1, 0, none⟩ (.slice a0 n0 c0)).setCell ⟨w.heap.size + 1, 1, none⟩ (.int .i64 k0)).setCell ⟨w.heap.size + 1 + 1, 0, none⟩ (.slice aN i cN)).setCell ⟨w.heap.size + 1 + 1, 1, none⟩ (.slice aU j cU)).drew.heap[w.heap.size + 1]? = ((wr.setCell ⟨w.heap.size + 1, 0, none⟩ (.slice a0 n0 c0)).setCell ⟨w.heap.size + 1, 1, none⟩ (.int .i64 k0)).heap[w.heap.size + 1]? from stored2_other _ _ (by omega)).trans (stored2 hS.r1 _ _)
          have g2 : ((((wr.setCell ⟨w.heap.size + 1, 0, none⟩ (.slice a0 n0 c0)).setCell ⟨w.heap.size + 1, 1, none⟩ (.int .i64 k0)).setCell ⟨w.heap.size + 1 + 1, 0, none⟩ (.slice aN i cN)).setCell ⟨w.heap.size + 1 + 1, 1, none⟩ (.slice aU j cU)).drew.heap[w.heap.size + 1 + 1]? = _ := stored2 ((stored2_other _ _ (by omega)).trans hS.r2) _ _
          have BW : Hid (Below w.heap.size w ((((wr.setCell ⟨w.heap.size + 1, 0, none⟩ (.slice a0 n0 c0)).setCell ⟨w.heap.size + 1, 1, none⟩ (.int .i64 k0)).setCell ⟨w.heap.size + 1 + 1, 0, none⟩ (.slice aN i cN)).setCell ⟨w.heap.size + 1 + 1, 1, none⟩ (.slice aU j cU)).drew) := hS.be.trans ⟨f2.os, f2.tape, f2.output, f2.size, fun q hq => f2.block q (Nat.lt_of_lt_of_le hq hS.be.size) (by omega)⟩
          have RN : Hid (RdsNd ((((wr.setCell ⟨w.heap.size + 1, 0, none⟩ (.slice a0 n0 c0)).setCell ⟨w.heap.size + 1, 1, none⟩ (.int .i64 k0)).setCell ⟨w.heap.size + 1 + 1, 0, none⟩ (.slice aN i cN)).setCell ⟨w.heap.size + 1 + 1, 1, none⟩ (.slice aU j cU)).drew (.slice aN i cN) N) := (hS.oN.kept f2.drew (fun b hb e => by have := hS.bN b hb; omega)).rds
          have RU : Hid (RdsUs ((((wr.setCell ⟨w.heap.size + 1, 0, none⟩ (.slice a0 n0 c0)).setCell ⟨w.heap.size + 1, 1, none⟩ (.int .i64 k0)).setCell ⟨w.heap.size + 1 + 1, 0, none⟩ (.slice aN i cN)).setCell ⟨w.heap.size + 1 + 1, 1, none⟩ (.slice aU j cU)).drew (.slice aU j cU) U) := (hS.oU.kept f2.drew (fun b hb e => by have := hS.bU b hb; omega)).rds
          obtain ⟨W, hW⟩ : ∃ W, W = ((((wr.setCell ⟨w.heap.size + 1, 0, none⟩ (.slice a0 n0 c0)).setCell ⟨w.heap.size + 1, 1, none⟩ (.int .i64 k0)).setCell ⟨w.heap.size + 1 + 1, 0, none⟩ (.slice aN i cN)).setCell ⟨w.heap.size + 1 + 1, 1, none⟩ (.slice aU j cU)).drew := ⟨_, rfl⟩
          rw [← hW] at g1 g2 BW RN RU
          have Fin : Hid (RTk w W (.returned (.tuple #[.agg #[.slice a0 n0 c0, .int .i64 k0], .agg #[.slice aN i cN, .slice aU j cU], .bool (QT.okV N U).1])) l k) := ⟨⟨a0, n0, c0, l0, k0, _, N, _, U, _, rfl, hS.hn, RN, RU, hfin.1, fun e => ⟨hfin.2 e, rfl⟩⟩, BW⟩
          have EW := Lib.hid (And.intro (cells2 g1) (cells2 g2))
          have HWs : Hid (((((wr.setCell ⟨w.heap.size + 1, 0, none⟩ (.slice a0 n0 c0)).setCell ⟨w.heap.size + 1, 1, none⟩ (.int .i64 k0)).setCell ⟨w.heap.size + 1 + 1, 0, none⟩ (.slice aN i cN)).setCell ⟨w.heap.size + 1 + 1, 1, none⟩ (.slice aU j cU)).drew = W) := hW.symm
          obtain ⟨p0, p1, p2, p3⟩ := cells2 hS.r1
          obtain ⟨q0, q1, q2, q3⟩ := cells2 hS.r2
          clear hfin hlt4 f1 f2 g1 g2 BW RN RU hW cont hS S
          go_wp2_with fail
          refine wp_region_noPanic ?_
          refine wp_region_held_drew (S := fun V => (Hid (Fr (fun j => j = w.heap.size + 1 ∨ j = w.heap.size + 1 + 1) wr V) ∧ V.cell? ⟨w.heap.size, 0, none⟩ = some (.slice a0 n0 c0) ∧ V.cell? ⟨w.heap.size, 1, none⟩ = some (.int .i64 k0) ∧ V.cell? ⟨w.heap.size + 1 + 1 + 1, 0, none⟩ = some (.slice aN i cN) ∧ V.cell? ⟨w.heap.size + 1 + 1 + 1, 1, none⟩ = some (.slice aU j cU))) (by kernel_rfl) S0 (fun hHeld => ?_)
          refine rTk 0 ?_; try simp only [Act.put, rP1, rP2, rP3]
          refine rTk 1 ?_; try simp only [Act.put, rP1, rP2, rP3]
          refine rTk 2 ?_; try simp only [Act.put, rP1, rP2, rP3]
          refine rBr 3 fun K hK => ?_
          go_simp
          try (go_wp2_with fail)
          refine hK.out _ _ (by (try dsimp only); assumption) (fun hHeld => ?_)
          clear hK K
          try simp only [Act.put, rP1, rP2, rP3]
          refine rBr 4 fun K hK => ?_
          go_simp
          try (go_wp2_with fail)
          refine hK.out _ _ (by (try dsimp only); assumption) (fun hHeld => ?_)
          clear hK K
          try simp only [Act.put, rP1, rP2, rP3]
          refine rTk 5 ?_; try simp only [Act.put, rP1, rP2, rP3]
          refine wpAnyH_done (by kernel_rfl) ?_ _
          refine NoPanic.normal ?_
          go_wp2_with (rw [HWs.out]; obtain ⟨⟨e0, e1, _⟩, e2, e3, _⟩ := EW.out; refine bodyPost_ret (v := .tuple #[.agg #[.slice a0 n0 c0, .int .i64 k0], .agg #[.slice aN i cN, .slice aU j cU], .bool (QT.okV N U).1]) (by simp [results, Tryz.results59, go_sem, e0, e1, e2, e3]) rfl ?_; exact Fin.out)
end Go.Proofs.YtkanjdijmdjbaaaGreatDoor
