/-
  The document's answer of bytes: tollbarref07.TakeAnswer, DecodeAnswer.
  Conditions: the bytes read as such and are at most 2^47 many.
  The document's reply of bytes: tollbarref08.DecodeReply.
-/
import Derived.Test.YtkanjdijmdjbaaaGreatDoorG20
namespace Go.Proofs.YtkanjdijmdjbaaaGreatDoor
open Go Go.RowKit

def REAn (r : Option QT.An) : Ending := match r with
  | some x => .returned (.tuple #[.agg #[.int .i64 x.er, .complex .f64 (FL.fB x.u1) (FL.fB x.u2), .complex .f64 (FL.fB x.t1) (FL.fB x.t2)], .int .i64 0])
  | none => .returned (.tuple #[.agg #[.int .i64 0, .complex .f64 0 0, .complex .f64 0 0], .int .i64 3])
def RERp (r : Option QT.Rp) : Ending := match r with
  | some x => .returned (.tuple #[.agg #[.int .i64 x.er, .int .i64 x.se, .int .i64 x.an.er, .complex .f64 (FL.fB x.an.u1) (FL.fB x.an.u2), .complex .f64 (FL.fB x.an.t1) (FL.fB x.an.t2)], .int .i64 0])
  | none => .returned (.tuple #[.agg #[.int .i64 0, .int .i64 0, .int .i64 0, .complex .f64 0 0, .complex .f64 0 0], .int .i64 3])
set_option maxRecDepth 100000 in
set_option maxHeartbeats 8000000 in
/-- An answer off what is read. -/
theorem rtakeAn_any (a : Option Addr) (n c : Nat) (l : List UInt8) (w : World) (hn : l.length = n) (hv : IsB w (.slice a n c) l) (hl47 : l.length ≤ roomB) :
    Calls Tryz.prog 113 #[.agg #[.slice a n c, .int .i64 0]] w fun v w' =>
      RVx w w' v (.agg #[.int .i64 (QT.readAn l).1.er, .complex .f64 (FL.fB (QT.readAn l).1.u1) (FL.fB (QT.readAn l).1.u2), .complex .f64 (FL.fB (QT.readAn l).1.t1) (FL.fB (QT.readAn l).1.t2)]) (QT.readAn l).2.1 (QT.readAn l).2.2 := by
  subst hn
  have hstc := @run_store_complex Tryz.prog
  obtain ⟨e0, l1, k1, h1⟩ : ∃ v l' k', PK.intP l 0 = (v, l', k') := ⟨_, _, _, rfl⟩
  obtain ⟨x1, m2, j2, g2⟩ : ∃ v l' k', PK.uintP QT.cap l1 k1 = (v, l', k') := ⟨_, _, _, rfl⟩
  obtain ⟨y1, l2, k2, h2⟩ : ∃ v l' k', PK.uintP QT.cap m2 j2 = (v, l', k') := ⟨_, _, _, rfl⟩
  obtain ⟨x2, m3, j3, g3⟩ : ∃ v l' k', PK.uintP QT.cap l2 k2 = (v, l', k') := ⟨_, _, _, rfl⟩
  obtain ⟨y2, l3, k3, h3⟩ : ∃ v l' k', PK.uintP QT.cap m3 j3 = (v, l', k') := ⟨_, _, _, rfl⟩
  rw [QT.readAn_at h1 g2 h2 g3 h3]
  have hr1 : l1.length ≤ roomB := by have := QT.int_rest l 0; rw [h1] at this; exact Nat.le_trans this hl47
  have hr2 : l2.length ≤ roomB := by have q1 := QT.uint_rest QT.cap l1 k1; rw [g2] at q1; have q2 := QT.uint_rest QT.cap m2 j2; rw [h2] at q2; exact Nat.le_trans q2 (Nat.le_trans q1 hr1)
  have hr3 : l3.length ≤ roomB := by have q1 := QT.uint_rest QT.cap l2 k2; rw [g3] at q1; have q2 := QT.uint_rest QT.cap m3 j3; rw [h3] at q2; exact Nat.le_trans q2 (Nat.le_trans q1 hr2)
  obtain ⟨W0, hW0⟩ : ∃ W, W = (((w.alloc (.cells #[.slice a l.length c, .int .i64 0] 80)).alloc (.cells #[.slice none 0 0, .int .i64 0] 80)).alloc (.cells #[.int .i64 0, .complex .f64 0 0, .complex .f64 0 0] 89)).alloc (.cells #[.int .i64 0, .complex .f64 0 0, .complex .f64 0 0] 89) := ⟨_, rfl⟩
  have T0 : DrS w W0 w.heap.size (w.heap.size + 1 + 1 + 1) a l.length c l 0 #[.int .i64 0, .complex .f64 0 0, .complex .f64 0 0] 89 [(w.heap.size + 1, .cells #[.slice none 0 0, .int .i64 0] 80), (w.heap.size + 1 + 1, .cells #[.int .i64 0, .complex .f64 0 0, .complex .f64 0 0] 89)] := by
    rw [hW0]
    refine ⟨((((Below.refl _ _).alloc (Nat.le_refl _) _).alloc (by simp) _).alloc (by simp <;> omega) _).alloc (by simp <;> omega) _, ?_, ?_, (((hv.alloc _).alloc _).alloc _).alloc _, rfl, hl47, ⟨by omega, by omega, by omega⟩, fun j n e => by rcases j with _ | _ | _ | j <;> simp at e, fun p hp => ?_⟩
    · rw [Below.heap_alloc _ _ _ (by simp <;> omega), Below.heap_alloc _ _ _ (by simp <;> omega), Below.heap_alloc _ _ _ (by simp)]
      exact heap_alloc_new _ _
    · exact (by simp : (w.heap.size + 1 + 1 + 1) = (((w.alloc _).alloc _).alloc _).heap.size) ▸ heap_alloc_new _ _
    · rcases List.mem_cons.1 hp with rfl | hp
      · refine ⟨?_, by dsimp only; omega, by dsimp only; omega⟩
        rw [Below.heap_alloc _ _ _ (by simp <;> omega), Below.heap_alloc _ _ _ (by simp)]
        exact (by simp : w.heap.size + 1 = (w.alloc _).heap.size) ▸ heap_alloc_new _ _
      · obtain rfl := List.mem_singleton.1 hp
        refine ⟨?_, by dsimp only; omega, by dsimp only; omega⟩
        rw [Below.heap_alloc _ _ _ (by simp)]
        exact (by simp : w.heap.size + 1 + 1 = ((w.alloc _).alloc _).heap.size) ▸ heap_alloc_new _ _
  have C1 := Lib.hid (rreadInt_any a c 0 l W0 T0.is)
  rw [h1] at C1
  have HT0 := Lib.hid T0
  have HW0 := Lib.hid hW0.symm
  have C2 := Lib.hid (fun (a' : Option Addr) (n' c' : Nat) (V : World) (hn : l1.length = n') (h : IsB V (.slice a' n' c') l1) => rtakeA_any a' n' c' k1 l1 V hn h)
  rw [g2] at C2
  simp only at C2
  rw [h2] at C2
  have C3 := Lib.hid (fun (a' : Option Addr) (n' c' : Nat) (V : World) (hn : l2.length = n') (h : IsB V (.slice a' n' c') l2) => rtakeA_any a' n' c' k2 l2 V hn h)
  rw [g3] at C3
  simp only at C3
  rw [h3] at C3
  have Hr1 := Lib.hid hr1
  have Hr2 := Lib.hid hr2
  have Hr3 := Lib.hid hr3
  clear hW0 T0 hv hl47 h1 g2 h2 g3 h3 hr1 hr2 hr3
  go_enter Tryz.func113, Tryz.ntmps113
  go_wp2_with fail
  rw [HW0.out]
  clear HW0
  refine C1.out.mono ?_
  rintro e w1 ⟨⟨a1, c1, rfl, i1⟩, b1⟩
  have T1 := HT0.out.below b1
  have P1 := (T1.putR (k' := k1) i1 rfl Hr1.out).putX 0 (.int .i64 e0) (by simp) rfl
  simp only [List.setIfInBounds_toArray, List.set_cons_zero] at P1
  obtain ⟨s0, s1, s2, s3⟩ := cells2 T1.rb
  obtain ⟨⟨z0, z1, z2⟩, f0, f1, f2⟩ := cells3f T1.xb
  obtain ⟨V1, hV1⟩ : ∃ V, V = (put2q w1 w.heap.size a1 l1.length c1 k1).setCell ⟨w.heap.size + 1 + 1 + 1, 0, none⟩ (.int .i64 e0) := ⟨_, rfl⟩
  rw [← hV1] at P1
  have HV1 : Hid (((w1.setCell ⟨w.heap.size, 0, none⟩ (.slice a1 l1.length c1)).setCell ⟨w.heap.size, 1, none⟩ (.int .i64 k1)).setCell ⟨w.heap.size + 1 + 1 + 1, 0, none⟩ (.int .i64 e0) = V1) := hV1.symm
  obtain ⟨t0, t1, _, _⟩ := cells2 P1.rb
  have C2' := Lib.hid (C2.out a1 l1.length c1 V1 P1.hn P1.is)
  have X1 := Lib.hid P1
  clear C1 C2 HT0 b1 T1 P1 i1 hV1
  go_wp2_with (rw [HV1.out])
  clear HV1 s0 s1 s2 s3 z0 z1 z2 f0 f1 f2 t0 t1
  refine C2'.out.mono ?_
  rintro e w2 ⟨⟨a2, n2, c2, rfl, hn2, i2⟩, b2⟩
  have T2 := X1.out.below b2
  have P2 := (T2.putR (k' := k2) i2 hn2 Hr2.out).putX 1 (.complex .f64 (FL.fB x1) (FL.fB y1)) (by simp) rfl
  simp only [List.setIfInBounds_toArray, List.set_cons_zero, List.set_cons_succ] at P2
  obtain ⟨s0, s1, s2, s3⟩ := cells2 T2.rb
  obtain ⟨⟨z0, z1, z2⟩, f0, f1, f2⟩ := cells3f T2.xb
  obtain ⟨V2, hV2⟩ : ∃ V, V = (put2q w2 w.heap.size a2 n2 c2 k2).setCell ⟨w.heap.size + 1 + 1 + 1, 1, none⟩ (.complex .f64 (FL.fB x1) (FL.fB y1)) := ⟨_, rfl⟩
  rw [← hV2] at P2
  have HV2 : Hid (((w2.setCell ⟨w.heap.size, 0, none⟩ (.slice a2 n2 c2)).setCell ⟨w.heap.size, 1, none⟩ (.int .i64 k2)).setCell ⟨w.heap.size + 1 + 1 + 1, 1, none⟩ (.complex .f64 (FL.fB x1) (FL.fB y1)) = V2) := hV2.symm
  obtain ⟨t0, t1, _, _⟩ := cells2 P2.rb
  have C3' := Lib.hid (C3.out a2 n2 c2 V2 P2.hn P2.is)
  have X2 := Lib.hid P2
  clear C2' C3 X1 b2 T2 P2 i2 hV2 hn2
  go_wp2_with (rw [HV2.out])
  clear HV2 s0 s1 s2 s3 z0 z1 z2 f0 f1 f2 t0 t1
  refine C3'.out.mono ?_
  rintro e w3 ⟨⟨a3, n3, c3, rfl, hn3, i3⟩, b3⟩
  have T3 := X2.out.below b3
  have P3 := (T3.putR (k' := k3) i3 hn3 Hr3.out).putX 2 (.complex .f64 (FL.fB x2) (FL.fB y2)) (by simp) rfl
  simp only [List.setIfInBounds_toArray, List.set_cons_zero, List.set_cons_succ] at P3
  obtain ⟨s0, s1, s2, s3⟩ := cells2 T3.rb
  obtain ⟨⟨z0, z1, z2⟩, f0, f1, f2⟩ := cells3f T3.xb
  obtain ⟨V3, hV3⟩ : ∃ V, V = (put2q w3 w.heap.size a3 n3 c3 k3).setCell ⟨w.heap.size + 1 + 1 + 1, 2, none⟩ (.complex .f64 (FL.fB x2) (FL.fB y2)) := ⟨_, rfl⟩
  rw [← hV3] at P3
  have HV3 : Hid (((w3.setCell ⟨w.heap.size, 0, none⟩ (.slice a3 n3 c3)).setCell ⟨w.heap.size, 1, none⟩ (.int .i64 k3)).setCell ⟨w.heap.size + 1 + 1 + 1, 2, none⟩ (.complex .f64 (FL.fB x2) (FL.fB y2)) = V3) := hV3.symm
  have X3 := Lib.hid P3
  clear C3' X2 b3 T3 P3 i3 hV3 hn3
  go_wp2_with (rw [HV3.out])
  clear HV3 s0 s1 s2 s3 z0 z1 z2 f0 f1 f2
  have Y0 := X3.out
  have YD := X3.out.below (Below.refl _ _).drew
  have cells : ∀ V : World, V.heap[w.heap.size]? = some (.cells #[.slice a3 n3 c3, .int .i64 k3] 80) → V.heap[w.heap.size + 1 + 1 + 1]? = some (.cells #[.int .i64 e0, .complex .f64 (FL.fB x1) (FL.fB y1), .complex .f64 (FL.fB x2) (FL.fB y2)] 89) → (V.cell? ⟨w.heap.size, 0, none⟩ = some (.slice a3 n3 c3) ∧ V.cell? ⟨w.heap.size, 1, none⟩ = some (.int .i64 k3) ∧ V.cell? ⟨w.heap.size + 1 + 1 + 1, 0, none⟩ = some (.int .i64 e0) ∧ V.cell? ⟨w.heap.size + 1 + 1 + 1, 1, none⟩ = some (.complex .f64 (FL.fB x1) (FL.fB y1)) ∧ V.cell? ⟨w.heap.size + 1 + 1 + 1, 2, none⟩ = some (.complex .f64 (FL.fB x2) (FL.fB y2))) := fun V p q => by
    obtain ⟨p0, p1, _, _⟩ := cells2 p
    obtain ⟨⟨q0, q1, q2⟩, _⟩ := cells3f q
    exact ⟨p0, p1, q0, q1, q2⟩
  have S0 := cells V3.drew YD.rb YD.xb
  have K1 := (Y0.kp _ (List.mem_cons_self ..)).1
  have K2 := (Y0.kp _ (List.mem_cons_of_mem _ (List.mem_singleton.2 rfl))).1
  simp only at K1 K2
  obtain ⟨U1, hU1⟩ : ∃ U, U = ((V3.setCell ⟨w.heap.size + 1, 0, none⟩ (.slice a3 n3 c3)).setCell ⟨w.heap.size + 1, 1, none⟩ (.int .i64 k3)).drew := ⟨_, rfl⟩
  have f1 : Fr (fun j => j = w.heap.size + 1) V3 U1 := by rw [hU1]; exact (put2q_fr (fun j => j = w.heap.size + 1) V3 (w.heap.size + 1) rfl a3 n3 c3 k3).drew
  have G1 : U1.heap[w.heap.size + 1]? = some (.cells #[.slice a3 n3 c3, .int .i64 k3] 80) := by rw [hU1]; exact stored2 K1 _ _
  have K2' := f1.heap K2 (by omega)
  have S1 := cells U1 (f1.heap Y0.rb (by omega)) (f1.heap Y0.xb (by omega))
  obtain ⟨U2, hU2⟩ : ∃ U, U = ((U1.setCell ⟨w.heap.size + 1 + 1, 0, none⟩ (.int .i64 e0)).setCell ⟨w.heap.size + 1 + 1, 1, none⟩ (.complex .f64 (FL.fB x1) (FL.fB y1))).setCell ⟨w.heap.size + 1 + 1, 2, none⟩ (.complex .f64 (FL.fB x2) (FL.fB y2)) := ⟨_, rfl⟩
  have f2 : Fr (fun j => j = w.heap.size + 1 + 1) U1 U2 := by rw [hU2]; exact fr3s U1 _ _ _ _
  have G2 : U2.heap[w.heap.size + 1 + 1]? = some (.cells #[.int .i64 e0, .complex .f64 (FL.fB x1) (FL.fB y1), .complex .f64 (FL.fB x2) (FL.fB y2)] 89) := by rw [hU2]; exact stored3s K2' _ _ _
  have G1' := f2.heap G1 (by omega)
  have S2 := cells U2 (f2.heap (f1.heap Y0.rb (by omega)) (by omega)) (f2.heap (f1.heap Y0.xb (by omega)) (by omega))
  have iU1 : IsB U1 (.slice a3 n3 c3) l3 := Y0.is.kept8q f1 (fun q hq j m e => by
    subst hq
    simp only [World.cell?, K1] at e
    rcases j with _ | _ | j <;> simp at e)
  have iU2 : IsB U2 (.slice a3 n3 c3) l3 := iU1.kept8q f2 (fun q hq j m e => by
    subst hq
    simp only [World.cell?, K2'] at e
    rcases j with _ | _ | _ | j <;> simp at e)
  have bU2 : Below w.heap.size w U2 := belowSet (belowSet Y0.be f1 (by omega)) f2 (by omega)
  have Fin : Hid (RVx w U2 (.returned (.tuple #[.agg #[.slice a3 n3 c3, .int .i64 k3], .agg #[.int .i64 e0, .complex .f64 (FL.fB x1) (FL.fB y1), .complex .f64 (FL.fB x2) (FL.fB y2)]])) (.agg #[.int .i64 e0, .complex .f64 (FL.fB x1) (FL.fB y1), .complex .f64 (FL.fB x2) (FL.fB y2)]) l3 k3) := Lib.hid ⟨⟨a3, n3, c3, rfl, Y0.hn, iU2⟩, bU2⟩
  obtain ⟨p0, p1, p2, p3⟩ := cells2 K1
  obtain ⟨⟨q0, q1, q2⟩, q3, q4, q5⟩ := cells3f K2'
  have EW := Lib.hid (cells2 G1')
  have EX := Lib.hid (cells3f G2).1
  have HU1 := Lib.hid hU1.symm
  have HU2 := Lib.hid hU2.symm
  clear cells Y0 YD K1 K2 hU1 f1 G1 K2' hU2 f2 G2 G1' iU1 iU2 bU2 X3
  refine wp_region_noPanic ?_
  refine wp_region_held_drew (S := fun V => (V.cell? ⟨w.heap.size, 0, none⟩ = some (.slice a3 n3 c3) ∧ V.cell? ⟨w.heap.size, 1, none⟩ = some (.int .i64 k3) ∧ V.cell? ⟨w.heap.size + 1 + 1 + 1, 0, none⟩ = some (.int .i64 e0) ∧ V.cell? ⟨w.heap.size + 1 + 1 + 1, 1, none⟩ = some (.complex .f64 (FL.fB x1) (FL.fB y1)) ∧ V.cell? ⟨w.heap.size + 1 + 1 + 1, 2, none⟩ = some (.complex .f64 (FL.fB x2) (FL.fB y2)))) (by kernel_rfl) S0 (fun hHeld => ?_)
  refine rTk 0 ?_; try simp only [Act.put, rP1, rP2, rP3]
  refine rTk 1 ?_; try simp only [Act.put, rP1, rP2, rP3]
  refine rBr 2 fun K hK => ?_
  go_simp
  try (go_wp2_with fail)
  rw [HU1.out]
  refine hK.out _ _ (by (try dsimp only); assumption) (fun hHeld => ?_)
  clear hK K
  try simp only [Act.put, rP1, rP2, rP3]
  refine rBr 3 fun K hK => ?_
  go_simp
  try (go_wp2_with fail)
  rw [HU2.out]
  refine hK.out _ _ (by (try dsimp only); assumption) (fun hHeld => ?_)
  clear hK K
  try simp only [Act.put, rP1, rP2, rP3]
  refine wpAnyH_done (by kernel_rfl) ?_ _
  refine NoPanic.normal ?_
  go_wp2_with fail
  obtain ⟨e0', e1', _⟩ := EW.out
  obtain ⟨x0', x1', x2'⟩ := EX.out
  refine bodyPost_ret (v := .tuple #[.agg #[.slice a3 n3 c3, .int .i64 k3], .agg #[.int .i64 e0, .complex .f64 (FL.fB x1) (FL.fB y1), .complex .f64 (FL.fB x2) (FL.fB y2)]]) (by simp [results, Tryz.results113, go_sem, e0', e1', x0', x1', x2']) rfl ?_
  exact Fin.out
set_option maxRecDepth 100000 in
set_option maxHeartbeats 4000000 in
/-- The answer of bytes. -/
theorem rdecAn_any (a : Option Addr) (n c : Nat) (l : List UInt8) (w : World) (hn : l.length = n) (hv : IsB w (.slice a n c) l) (hl47 : l.length ≤ roomB) :
    Calls Tryz.prog 67 #[.slice a n c] w fun e w' => e = REAn (QT.decAn l) ∧ Below w.heap.size w w' := by
  have hstc := @run_store_complex Tryz.prog
  obtain ⟨W0, hW0⟩ : ∃ W, W = w.alloc (.cells #[.int .i64 0, .complex .f64 0 0, .complex .f64 0 0] 89) := ⟨_, rfl⟩
  obtain ⟨B, hB⟩ : ∃ B, B = w.heap.size := ⟨_, rfl⟩
  have b0 : Below w.heap.size w W0 := by rw [hW0]; exact (Below.refl _ _).alloc (Nat.le_refl _) _
  have g0 : W0.heap[B]? = some (.cells #[.int .i64 0, .complex .f64 0 0, .complex .f64 0 0] 89) := by rw [hW0, hB]; exact heap_alloc_new _ _
  have C1 := Lib.hid (rtakeAn_any a n c l W0 hn (hv.below b0) hl47)
  have hdec : QT.decAn l = if (QT.readAn l).2.2 = 0 ∧ (QT.readAn l).2.1 = [] then some (QT.readAn l).1 else none := rfl
  generalize QT.readAn l = R at *
  obtain ⟨x, l1, k1⟩ := R
  simp only at C1 hdec
  have HW0 := Lib.hid hW0.symm
  have HB := Lib.hid hB.symm
  have Hdec := Lib.hid hdec
  have B0 := Lib.hid b0
  have G0 := Lib.hid g0
  have hlB : Hid (w.heap.size ≤ B) := Lib.hid (by omega)
  clear hW0 hB b0 g0 hdec hv hl47
  go_enter Tryz.func67, Tryz.ntmps67
  go_wp2_with fail
  rw [HW0.out]
  refine C1.out.mono ?_
  rintro e w1 ⟨⟨a1, n1, c1, rfl, hn1, _⟩, b1⟩
  subst hn1
  obtain ⟨V, hV⟩ : ∃ V, V = (w1.alloc (.cells #[.slice a1 l1.length c1, .int .i64 k1] 80)).alloc (.cells #[.int .i64 x.er, .complex .f64 (FL.fB x.u1) (FL.fB x.u2), .complex .f64 (FL.fB x.t1) (FL.fB x.t2)] 89) := ⟨_, rfl⟩
  have bV : Below w1.heap.size w1 V := by rw [hV]; exact ((Below.refl _ _).alloc (Nat.le_refl _) _).alloc (by simp) _
  have gY : V.heap[w1.heap.size + 1]? = some (.cells #[.int .i64 x.er, .complex .f64 (FL.fB x.u1) (FL.fB x.u2), .complex .f64 (FL.fB x.t1) (FL.fB x.t2)] 89) := by
    rw [hV]
    exact (by simp : w1.heap.size + 1 = (w1.alloc _).heap.size) ▸ heap_alloc_new _ _
  have b1V : Below W0.heap.size W0 V := b1.trans (bV.mono b1.size)
  have gB := (b1V.block B (Array.getElem?_eq_some_iff.1 G0.out).1).trans G0.out
  have bwV : Below w.heap.size w V := B0.out.trans (b1V.mono B0.out.size)
  have C2 := Lib.hid (rdone_any a1 c1 k1 l1 V)
  have keep : Hid (∀ V', Below V.heap.size V V' → Below w.heap.size w V' ∧ V'.heap[B]? = some (.cells #[.int .i64 0, .complex .f64 0 0, .complex .f64 0 0] 89) ∧ V'.heap[w1.heap.size + 1]? = some (.cells #[.int .i64 x.er, .complex .f64 (FL.fB x.u1) (FL.fB x.u2), .complex .f64 (FL.fB x.t1) (FL.fB x.t2)] 89)) := Lib.hid (fun V' b =>
    ⟨bwV.trans (b.mono bwV.size), (b.block B (Array.getElem?_eq_some_iff.1 gB).1).trans gB, (b.block _ (Array.getElem?_eq_some_iff.1 gY).1).trans gY⟩)
  have HV := Lib.hid hV.symm
  clear hV bV gY b1V gB bwV C1 b1 G0 B0
  go_wp2_with fail
  rw [HV.out]
  clear HV
  refine C2.out.mono ?_
  rintro e w2 ⟨rfl, b2⟩
  obtain ⟨bw2, gB2, gY2⟩ := keep.out w2 b2
  obtain ⟨⟨y0, y1, y2⟩, _⟩ := cells3f gY2
  obtain ⟨⟨z0, z1, z2⟩, q0, q1, q2⟩ := cells3f gB2
  by_cases hz : k1 = 0 ∧ l1 = []
  · have hd := Hdec.out
    rw [if_pos hz] at hd
    obtain ⟨rfl, rfl⟩ := hz
    obtain ⟨w6, hw6⟩ : ∃ W, W = (((w2.setCell ⟨B, 0, none⟩ (.int .i64 x.er)).setCell ⟨B, 1, none⟩ (.complex .f64 (FL.fB x.u1) (FL.fB x.u2))).setCell ⟨B, 2, none⟩ (.complex .f64 (FL.fB x.t1) (FL.fB x.t2))) := ⟨_, rfl⟩
    have g6 : w6.heap[B]? = some (.cells #[.int .i64 x.er, .complex .f64 (FL.fB x.u1) (FL.fB x.u2), .complex .f64 (FL.fB x.t1) (FL.fB x.t2)] 89) := by rw [hw6]; exact stored3s gB2 _ _ _
    have b6 : Below w.heap.size w w6 := by rw [hw6]; exact belowSet bw2 (fr3s w2 B _ _ _) hlB.out
    have EW := Lib.hid (cells3f g6).1
    have Fin : Hid ((Ending.returned (.tuple #[.agg #[.int .i64 x.er, .complex .f64 (FL.fB x.u1) (FL.fB x.u2), .complex .f64 (FL.fB x.t1) (FL.fB x.t2)], .int .i64 0])) = REAn (QT.decAn l) ∧ Below w.heap.size w w6) := Lib.hid ⟨by rw [hd]; rfl, b6⟩
    have HW6 := Lib.hid hw6.symm
    rw [PK.doneP_zero]
    clear hd hw6 g6 b6 Hdec C2 keep b2 bw2 gB2 gY2
    rw [← HB.out] at z0 z1 z2 q0 q1 q2 EW HW6
    go_wp2_with (rw [HW6.out]; obtain ⟨e0', e1, e2⟩ := EW.out; refine bodyPost_ret (v := .tuple #[.agg #[.int .i64 x.er, .complex .f64 (FL.fB x.u1) (FL.fB x.u2), .complex .f64 (FL.fB x.t1) (FL.fB x.t2)], .int .i64 0]) (by simp [results, Tryz.results67, go_sem, e0', e1, e2]) rfl ?_; exact Fin.out)
  · have hd := Hdec.out
    rw [if_neg hz] at hd
    obtain ⟨d, hdn⟩ := doneP_bad hz
    obtain ⟨w6, hw6⟩ : ∃ W, W = (((w2.setCell ⟨B, 0, none⟩ (.int .i64 0)).setCell ⟨B, 1, none⟩ (.complex .f64 0 0)).setCell ⟨B, 2, none⟩ (.complex .f64 0 0)) := ⟨_, rfl⟩
    have g6 : w6.heap[B]? = some (.cells #[.int .i64 0, .complex .f64 0 0, .complex .f64 0 0] 89) := by rw [hw6]; exact stored3s gB2 _ _ _
    have b6 : Below w.heap.size w w6 := by rw [hw6]; exact belowSet bw2 (fr3s w2 B _ _ _) hlB.out
    have EW := Lib.hid (cells3f g6).1
    have Fin : Hid ((Ending.returned (.tuple #[.agg #[.int .i64 0, .complex .f64 0 0, .complex .f64 0 0], .int .i64 3])) = REAn (QT.decAn l) ∧ Below w.heap.size w w6) := Lib.hid ⟨by rw [hd]; rfl, b6⟩
    have HW6 := Lib.hid hw6.symm
    rw [hdn]
    have hd1 : ((d : Nat) : Int) + 1 ≠ 0 := by omega
    clear hd hw6 g6 b6 Hdec hz hdn C2 keep b2 bw2 gB2 gY2
    rw [← HB.out] at z0 z1 z2 q0 q1 q2 EW HW6
    go_wp2_with (rw [HW6.out]; obtain ⟨e0', e1, e2⟩ := EW.out; refine bodyPost_ret (v := .tuple #[.agg #[.int .i64 0, .complex .f64 0 0, .complex .f64 0 0], .int .i64 3]) (by simp [results, Tryz.results67, go_sem, e0', e1, e2]) rfl ?_; exact Fin.out)
set_option maxRecDepth 100000 in
set_option maxHeartbeats 8000000 in
/-- The reply of bytes. -/
theorem rdecRp_any (a : Option Addr) (n c : Nat) (l : List UInt8) (w : World) (hn : l.length = n) (hv : IsB w (.slice a n c) l) (hl47 : l.length ≤ roomB) :
    Calls Tryz.prog 26 #[.slice a n c] w fun e w' => e = RERp (QT.decRp l) ∧ Below w.heap.size w w' := by
  subst hn
  have hstc := @run_store_complex Tryz.prog
  obtain ⟨e1, l1, k1, h1⟩ : ∃ v l' k', PK.intP l 0 = (v, l', k') := ⟨_, _, _, rfl⟩
  obtain ⟨e2, l2, k2, h2⟩ : ∃ v l' k', PK.intP l1 k1 = (v, l', k') := ⟨_, _, _, rfl⟩
  obtain ⟨y, l3, k3, h3⟩ : ∃ v l' k', PK.runP 98 128 l2 k2 = (v, l', k') := ⟨_, _, _, rfl⟩
  have hr1 : l1.length ≤ roomB := by have := QT.int_rest l 0; rw [h1] at this; exact Nat.le_trans this hl47
  have hr2 : l2.length ≤ roomB := by have := QT.int_rest l1 k1; rw [h2] at this; exact Nat.le_trans this hr1
  have hr3 : l3.length ≤ roomB := by have := (QT.runG 98 128 l2 k2).1; rw [h3] at this; exact Nat.le_trans this hr2
  have hry : y.length ≤ roomB := by have := (QT.runG 98 128 l2 k2).2; rw [h3] at this; exact Nat.le_trans this hr2
  have hdec : QT.decRp l = match QT.decAn y with
      | some x => if k3 = 0 ∧ l3 = [] then some ⟨e1, e2, x⟩ else none
      | none => none := by
    unfold QT.decRp
    rw [QT.readRp_at h1 h2 h3]
    cases QT.decAn y <;> rfl
  obtain ⟨W0, hW0⟩ : ∃ W, W = ((w.alloc (.cells #[.int .i64 0, .int .i64 0, .int .i64 0, .complex .f64 0 0, .complex .f64 0 0] 91)).alloc (.cells #[.int .i64 0, .int .i64 0, .int .i64 0, .complex .f64 0 0, .complex .f64 0 0] 91)).alloc (.cells #[.slice a l.length c, .int .i64 0] 80) := ⟨_, rfl⟩
  have T0 : DrS w W0 (w.heap.size + 1 + 1) (w.heap.size + 1) a l.length c l 0 #[.int .i64 0, .int .i64 0, .int .i64 0, .complex .f64 0 0, .complex .f64 0 0] 91 [(w.heap.size, .cells #[.int .i64 0, .int .i64 0, .int .i64 0, .complex .f64 0 0, .complex .f64 0 0] 91)] := by
    rw [hW0]
    refine ⟨(((Below.refl _ _).alloc (Nat.le_refl _) _).alloc (by simp) _).alloc (by simp <;> omega) _, ?_, ?_, ((hv.alloc _).alloc _).alloc _, rfl, hl47, ⟨by omega, by omega, by omega⟩, fun j n e => by rcases j with _ | _ | _ | _ | _ | j <;> simp at e, fun p hp => ?_⟩
    · exact (by simp : (w.heap.size + 1 + 1) = ((w.alloc _).alloc _).heap.size) ▸ heap_alloc_new _ _
    · rw [Below.heap_alloc _ _ _ (by simp)]
      exact (by simp : w.heap.size + 1 = (w.alloc _).heap.size) ▸ heap_alloc_new _ _
    · obtain rfl := List.mem_singleton.1 hp
      refine ⟨?_, by dsimp only; omega, by dsimp only; omega⟩
      rw [Below.heap_alloc _ _ _ (by simp <;> omega), Below.heap_alloc _ _ _ (by simp)]
      exact heap_alloc_new _ _
  have C1 := Lib.hid (rreadInt_any a c 0 l W0 T0.is)
  rw [h1] at C1
  have HT0 := Lib.hid T0
  have HW0 := Lib.hid hW0.symm
  have C2 := Lib.hid (fun (a' : Option Addr) (c' : Nat) (V : World) (h : IsB V (.slice a' l1.length c') l1) => rreadInt_any a' c' k1 l1 V h)
  rw [h2] at C2
  have C3 := Lib.hid (fun (a' : Option Addr) (c' : Nat) (V : World) (h : IsB V (.slice a' l2.length c') l2) => rreadBytes_any a' c' k2 l2 128 V h (by omega) (by omega) hr2)
  rw [h3] at C3
  have Hr1 := Lib.hid hr1
  have Hr2 := Lib.hid hr2
  have Hr3 := Lib.hid hr3
  have Hry := Lib.hid hry
  have Hdec := Lib.hid hdec
  clear hW0 T0 hv hl47 h1 h2 h3 hr1 hr2 hr3 hry hdec
  go_enter Tryz.func26, Tryz.ntmps26
  go_wp2_with fail
  rw [HW0.out]
  clear HW0
  refine C1.out.mono ?_
  rintro e w1 ⟨⟨a1, c1, rfl, i1⟩, b1⟩
  have T1 := HT0.out.below b1
  have P1 := (T1.putR (k' := k1) i1 rfl Hr1.out).putX 0 (.int .i64 e1) (by simp) rfl
  simp only [List.setIfInBounds_toArray, List.set_cons_zero] at P1
  obtain ⟨s0, s1, s2, s3⟩ := cells2 T1.rb
  obtain ⟨⟨z0, z1, z2, z3, z4⟩, f0, f1, f2, f3, f4⟩ := cells5f T1.xb
  obtain ⟨V1, hV1⟩ : ∃ V, V = (put2q w1 (w.heap.size + 1 + 1) a1 l1.length c1 k1).setCell ⟨w.heap.size + 1, 0, none⟩ (.int .i64 e1) := ⟨_, rfl⟩
  rw [← hV1] at P1
  have HV1 : Hid (((w1.setCell ⟨w.heap.size + 1 + 1, 0, none⟩ (.slice a1 l1.length c1)).setCell ⟨w.heap.size + 1 + 1, 1, none⟩ (.int .i64 k1)).setCell ⟨w.heap.size + 1, 0, none⟩ (.int .i64 e1) = V1) := hV1.symm
  obtain ⟨t0, t1, _, _⟩ := cells2 P1.rb
  have C2' := Lib.hid (C2.out a1 c1 V1 P1.is)
  have X1 := Lib.hid P1
  clear C1 C2 HT0 b1 T1 P1 i1 hV1
  go_wp2_with (rw [HV1.out])
  clear HV1 s0 s1 s2 s3 z0 z1 z2 z3 z4 f0 f1 f2 f3 f4 t0 t1
  refine C2'.out.mono ?_
  rintro e w2 ⟨⟨a2, c2, rfl, i2⟩, b2⟩
  have T2 := X1.out.below b2
  have P2 := (T2.putR (k' := k2) i2 rfl Hr2.out).putX 1 (.int .i64 e2) (by simp) rfl
  simp only [List.setIfInBounds_toArray, List.set_cons_zero, List.set_cons_succ] at P2
  obtain ⟨s0, s1, s2, s3⟩ := cells2 T2.rb
  obtain ⟨⟨z0, z1, z2, z3, z4⟩, f0, f1, f2, f3, f4⟩ := cells5f T2.xb
  obtain ⟨V2, hV2⟩ : ∃ V, V = (put2q w2 (w.heap.size + 1 + 1) a2 l2.length c2 k2).setCell ⟨w.heap.size + 1, 1, none⟩ (.int .i64 e2) := ⟨_, rfl⟩
  rw [← hV2] at P2
  have HV2 : Hid (((w2.setCell ⟨w.heap.size + 1 + 1, 0, none⟩ (.slice a2 l2.length c2)).setCell ⟨w.heap.size + 1 + 1, 1, none⟩ (.int .i64 k2)).setCell ⟨w.heap.size + 1, 1, none⟩ (.int .i64 e2) = V2) := hV2.symm
  obtain ⟨t0, t1, _, _⟩ := cells2 P2.rb
  have C3' := Lib.hid (C3.out a2 c2 V2 P2.is)
  have X2 := Lib.hid P2
  clear C2' C3 X1 b2 T2 P2 i2 hV2
  go_wp2_with (rw [HV2.out])
  clear HV2 s0 s1 s2 s3 z0 z1 z2 z3 z4 f0 f1 f2 f3 f4 t0 t1
  refine C3'.out.mono ?_
  rintro e w3 ⟨⟨a3, c3, ya, yc, rfl, i3, iy⟩, b3⟩
  simp only at i3 iy
  have T3 := X2.out.below b3
  have P3 := T3.putR (k' := k3) i3 rfl Hr3.out
  obtain ⟨s0, s1, s2, s3⟩ := cells2 T3.rb
  obtain ⟨V3, hV3⟩ : ∃ V, V = put2q w3 (w.heap.size + 1 + 1) a3 l3.length c3 k3 := ⟨_, rfl⟩
  have iy3 : IsB V3 (.slice ya y.length yc) y := by rw [hV3]; exact iy.kept8q (put2q_fr (fun j => j = w.heap.size + 1 + 1) w3 (w.heap.size + 1 + 1) rfl a3 l3.length c3 k3) (fun q hq => by subst hq; exact T3.noB)
  rw [← hV3] at P3
  have HV3 : Hid ((w3.setCell ⟨w.heap.size + 1 + 1, 0, none⟩ (.slice a3 l3.length c3)).setCell ⟨w.heap.size + 1 + 1, 1, none⟩ (.int .i64 k3) = V3) := hV3.symm
  have C4 := Lib.hid (rdecAn_any ya y.length yc y V3 rfl iy3 Hry.out)
  have X3 := Lib.hid P3
  clear C3' X2 b3 T3 P3 i3 iy iy3 hV3
  go_wp2_with (rw [HV3.out])
  clear HV3 s0 s1 s2 s3
  refine C4.out.mono ?_
  rintro e w4 ⟨rfl, b4⟩
  have X4 := Lib.hid (X3.out.below b4)
  clear C4 X3 b4
  -- the end of the call: what is stored, and where
  have good : Hid (∀ (p q : Int) (x : QT.An) (r : Ending) (V : World), V.heap[w.heap.size]? = some (.cells #[.int .i64 0, .int .i64 0, .int .i64 0, .complex .f64 0 0, .complex .f64 0 0] 91) → Below w.heap.size w V → r = RERp (QT.decRp l) →
      (r = RERp (QT.decRp l) ∧ Below w.heap.size w (((((V.setCell ⟨w.heap.size, 0, none⟩ (.int .i64 p)).setCell ⟨w.heap.size, 1, none⟩ (.int .i64 q)).setCell ⟨w.heap.size, 2, none⟩ (.int .i64 x.er)).setCell ⟨w.heap.size, 3, none⟩ (.complex .f64 (FL.fB x.u1) (FL.fB x.u2))).setCell ⟨w.heap.size, 4, none⟩ (.complex .f64 (FL.fB x.t1) (FL.fB x.t2)))) ∧
      (((((V.setCell ⟨w.heap.size, 0, none⟩ (.int .i64 p)).setCell ⟨w.heap.size, 1, none⟩ (.int .i64 q)).setCell ⟨w.heap.size, 2, none⟩ (.int .i64 x.er)).setCell ⟨w.heap.size, 3, none⟩ (.complex .f64 (FL.fB x.u1) (FL.fB x.u2))).setCell ⟨w.heap.size, 4, none⟩ (.complex .f64 (FL.fB x.t1) (FL.fB x.t2))).heap[w.heap.size]? = some (.cells #[.int .i64 p, .int .i64 q, .int .i64 x.er, .complex .f64 (FL.fB x.u1) (FL.fB x.u2), .complex .f64 (FL.fB x.t1) (FL.fB x.t2)] 91)) := Lib.hid (fun p q x r V g b e => ⟨⟨e, belowSet b (fr5s V _ _ _ _ _ _) (Nat.le_refl _)⟩, stored5 g _ _ _ _ _⟩)
  cases hda : QT.decAn y with
  | none =>
    have hd := Hdec.out
    rw [hda] at hd
    simp only at hd
    have Hd := Lib.hid hd
    clear hd
    unfold REAn
    obtain ⟨V5, hV5⟩ : ∃ V, V = w4.alloc (.cells #[.int .i64 0, .complex .f64 0 0, .complex .f64 0 0] 89) := ⟨_, rfl⟩
    have X5 := X4.out.below (V' := V5) (by rw [hV5]; exact (Below.refl _ _).alloc (Nat.le_refl _) _)
    have hY : w.heap.size + 1 + 1 < w4.heap.size := (Array.getElem?_eq_some_iff.1 X4.out.rb).1
    have C5 := Lib.hid (rdone_any a3 c3 k3 l3 V5)
    have HX5 := Lib.hid X5
    have HV5 := Lib.hid hV5.symm
    obtain ⟨u0, u1, _, _⟩ := cells2 X4.out.rb
    clear hV5 X5 X4 hda Hdec
    go_wp2_with fail
    rw [HV5.out]
    clear HV5
    refine C5.out.mono ?_
    rintro e w6 ⟨rfl, b6⟩
    have X6 := HX5.out.below b6
    have g6 := (X6.kp _ (List.mem_singleton.2 rfl)).1
    have F := good.out 0 0 ⟨0, 0, 0, 0, 0⟩ (.returned (.tuple #[.agg #[.int .i64 0, .int .i64 0, .int .i64 0, .complex .f64 0 0, .complex .f64 0 0], .int .i64 3])) w6 g6 X6.be (by rw [Hd.out]; rfl)
    simp only [fB_zero] at F
    obtain ⟨⟨z0, z1, z2, z3, z4⟩, f0, f1, f2, f3, f4⟩ := cells5f g6
    obtain ⟨w8, hw8⟩ : ∃ W, W = (((((w6.setCell ⟨w.heap.size, 0, none⟩ (.int .i64 0)).setCell ⟨w.heap.size, 1, none⟩ (.int .i64 0)).setCell ⟨w.heap.size, 2, none⟩ (.int .i64 0)).setCell ⟨w.heap.size, 3, none⟩ (.complex .f64 0 0)).setCell ⟨w.heap.size, 4, none⟩ (.complex .f64 0 0)) := ⟨_, rfl⟩
    rw [← hw8] at F
    have HW8 := Lib.hid hw8.symm
    have Fin := Lib.hid F.1
    have EW := Lib.hid (cells5f F.2).1
    clear hw8 F X6 HX5 b6 g6 good C5 Hd u0 u1
    rcases hdn : PK.doneP l3 k3 with _ | d
    · clear hdn
      go_wp2_with (rw [HW8.out]; obtain ⟨e0', e1', e2', e3', e4'⟩ := EW.out; refine bodyPost_ret (v := .tuple #[.agg #[.int .i64 0, .int .i64 0, .int .i64 0, .complex .f64 0 0, .complex .f64 0 0], .int .i64 3]) (by simp [results, Tryz.results26, go_sem, e0', e1', e2', e3', e4']) rfl ?_; exact Fin.out)
    · clear hdn
      have hd1 : ((d : Nat) : Int) + 1 ≠ 0 := by omega
      go_wp2_with (rw [HW8.out]; obtain ⟨e0', e1', e2', e3', e4'⟩ := EW.out; refine bodyPost_ret (v := .tuple #[.agg #[.int .i64 0, .int .i64 0, .int .i64 0, .complex .f64 0 0, .complex .f64 0 0], .int .i64 3]) (by simp [results, Tryz.results26, go_sem, e0', e1', e2', e3', e4']) rfl ?_; exact Fin.out)
  | some x =>
    have hd := Hdec.out
    rw [hda] at hd
    simp only at hd
    have Hd := Lib.hid hd
    clear hd
    unfold REAn
    obtain ⟨V5, hV5⟩ : ∃ V, V = w4.alloc (.cells #[.int .i64 x.er, .complex .f64 (FL.fB x.u1) (FL.fB x.u2), .complex .f64 (FL.fB x.t1) (FL.fB x.t2)] 89) := ⟨_, rfl⟩
    have X5 := X4.out.below (V' := V5) (by rw [hV5]; exact (Below.refl _ _).alloc (Nat.le_refl _) _)
    have gY5 : V5.heap[w4.heap.size]? = some (.cells #[.int .i64 x.er, .complex .f64 (FL.fB x.u1) (FL.fB x.u2), .complex .f64 (FL.fB x.t1) (FL.fB x.t2)] 89) := by rw [hV5]; exact heap_alloc_new _ _
    have hY : w.heap.size + 1 + 1 < w4.heap.size := (Array.getElem?_eq_some_iff.1 X4.out.rb).1
    have C5 := Lib.hid (rdone_any a3 c3 k3 l3 V5)
    have HX5 := Lib.hid X5
    have GY5 := Lib.hid gY5
    have HV5 := Lib.hid hV5.symm
    obtain ⟨u0, u1, _, _⟩ := cells2 X4.out.rb
    clear hV5 X5 X4 hda Hdec gY5
    go_wp2_with fail
    rw [HV5.out]
    clear HV5
    refine C5.out.mono ?_
    rintro e w6 ⟨rfl, b6⟩
    have X6 := HX5.out.below b6
    have gY6 := (b6.block _ (Array.getElem?_eq_some_iff.1 GY5.out).1).trans GY5.out
    have g6 := (X6.kp _ (List.mem_singleton.2 rfl)).1
    clear u0 u1
    by_cases hz : k3 = 0 ∧ l3 = []
    · obtain ⟨rfl, rfl⟩ := hz
      have hd := Hd.out
      rw [if_pos ⟨rfl, rfl⟩] at hd
      rw [PK.doneP_zero]
      obtain ⟨⟨p0, p1, p2⟩, _⟩ := cells3f gY6
      obtain ⟨⟨q0, q1, q2, q3, q4⟩, o0, o1, o2, o3, o4⟩ := cells5f X6.xb
      obtain ⟨w7, hw7⟩ : ∃ W, W = (((w6.setCell ⟨w.heap.size + 1, 2, none⟩ (.int .i64 x.er)).setCell ⟨w.heap.size + 1, 3, none⟩ (.complex .f64 (FL.fB x.u1) (FL.fB x.u2))).setCell ⟨w.heap.size + 1, 4, none⟩ (.complex .f64 (FL.fB x.t1) (FL.fB x.t2))) := ⟨_, rfl⟩
      have f7 : Fr (fun j => j = w.heap.size + 1) w6 w7 := by rw [hw7]; exact fr3at w6 _ _ _ _
      have x7 : w7.heap[w.heap.size + 1]? = some (.cells #[.int .i64 e1, .int .i64 e2, .int .i64 x.er, .complex .f64 (FL.fB x.u1) (FL.fB x.u2), .complex .f64 (FL.fB x.t1) (FL.fB x.t2)] 91) := by rw [hw7]; exact stored3of5 X6.xb _ _ _
      have g7 := f7.heap g6 (by omega)
      have F := good.out e1 e2 x (.returned (.tuple #[.agg #[.int .i64 e1, .int .i64 e2, .int .i64 x.er, .complex .f64 (FL.fB x.u1) (FL.fB x.u2), .complex .f64 (FL.fB x.t1) (FL.fB x.t2)], .int .i64 0])) w7 g7 (belowSet X6.be f7 (by omega)) (by rw [hd]; rfl)
      obtain ⟨⟨z0, z1, z2, z3, z4⟩, f0, f1, f2, f3, f4⟩ := cells5f g7
      obtain ⟨⟨m0, m1, m2, m3, m4⟩, _⟩ := cells5f x7
      obtain ⟨w8, hw8⟩ : ∃ W, W = (((((w7.setCell ⟨w.heap.size, 0, none⟩ (.int .i64 e1)).setCell ⟨w.heap.size, 1, none⟩ (.int .i64 e2)).setCell ⟨w.heap.size, 2, none⟩ (.int .i64 x.er)).setCell ⟨w.heap.size, 3, none⟩ (.complex .f64 (FL.fB x.u1) (FL.fB x.u2))).setCell ⟨w.heap.size, 4, none⟩ (.complex .f64 (FL.fB x.t1) (FL.fB x.t2))) := ⟨_, rfl⟩
      rw [← hw8] at F
      have HW8 := Lib.hid hw8.symm
      have HW7 := Lib.hid hw7.symm
      have Fin := Lib.hid F.1
      have EW := Lib.hid (cells5f F.2).1
      clear hw8 hw7 F X6 HX5 b6 g6 good C5 hd Hd f7 x7 g7 gY6 GY5
      go_wp2_with (first | rw [HW7.out] | (rw [HW8.out]; obtain ⟨e0', e1', e2', e3', e4'⟩ := EW.out; refine bodyPost_ret (v := .tuple #[.agg #[.int .i64 e1, .int .i64 e2, .int .i64 x.er, .complex .f64 (FL.fB x.u1) (FL.fB x.u2), .complex .f64 (FL.fB x.t1) (FL.fB x.t2)], .int .i64 0]) (by simp [results, Tryz.results26, go_sem, e0', e1', e2', e3', e4']) rfl ?_; exact Fin.out))
    · have hd := Hd.out
      rw [if_neg hz] at hd
      obtain ⟨d, hdn⟩ := doneP_bad hz
      rw [hdn]
      have hd1 : ((d : Nat) : Int) + 1 ≠ 0 := by omega
      have F := good.out 0 0 ⟨0, 0, 0, 0, 0⟩ (.returned (.tuple #[.agg #[.int .i64 0, .int .i64 0, .int .i64 0, .complex .f64 0 0, .complex .f64 0 0], .int .i64 3])) w6 g6 X6.be (by rw [hd]; rfl)
      simp only [fB_zero] at F
      obtain ⟨⟨z0, z1, z2, z3, z4⟩, f0, f1, f2, f3, f4⟩ := cells5f g6
      obtain ⟨w8, hw8⟩ : ∃ W, W = (((((w6.setCell ⟨w.heap.size, 0, none⟩ (.int .i64 0)).setCell ⟨w.heap.size, 1, none⟩ (.int .i64 0)).setCell ⟨w.heap.size, 2, none⟩ (.int .i64 0)).setCell ⟨w.heap.size, 3, none⟩ (.complex .f64 0 0)).setCell ⟨w.heap.size, 4, none⟩ (.complex .f64 0 0)) := ⟨_, rfl⟩
      rw [← hw8] at F
      have HW8 := Lib.hid hw8.symm
      have Fin := Lib.hid F.1
      have EW := Lib.hid (cells5f F.2).1
      clear hw8 F X6 HX5 b6 g6 good C5 hd Hd gY6 GY5 hz hdn
      go_wp2_with (rw [HW8.out]; obtain ⟨e0', e1', e2', e3', e4'⟩ := EW.out; refine bodyPost_ret (v := .tuple #[.agg #[.int .i64 0, .int .i64 0, .int .i64 0, .complex .f64 0 0, .complex .f64 0 0], .int .i64 3]) (by simp [results, Tryz.results26, go_sem, e0', e1', e2', e3', e4']) rfl ?_; exact Fin.out)
end Go.Proofs.YtkanjdijmdjbaaaGreatDoor
