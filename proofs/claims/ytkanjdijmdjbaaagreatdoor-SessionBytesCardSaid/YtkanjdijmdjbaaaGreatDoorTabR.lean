/-
  The document's table of bytes: tollbarref08.Decode.
  Conditions: the bytes read as such and are at most 2^47 many.
-/
import Derived.Test.YtkanjdijmdjbaaaGreatDoorG20
import Derived.Test.YtkanjdijmdjbaaaGreatDoorG24
import Derived.Deep.DeepCutAuto
namespace Go.Proofs.YtkanjdijmdjbaaaGreatDoor
open Go Go.RowKit

def RDecS (w w' : World) (v : Ending) (r : Option (List QT.Nd × List QT.Us × List QT.Sn)) : Prop :=
  (match r with
  | none => v = .returned (.tuple #[.agg #[.slice none 0 0, .slice none 0 0, .slice none 0 0], .int .i64 3])
  | some (N, U, L) => ∃ (a0 : Option Addr) (n0 c0 : Nat) (a1 : Option Addr) (n1 c1 : Nat) (a2 : Option Addr) (n2 c2 : Nat), v = .returned (.tuple #[.agg #[.slice a0 n0 c0, .slice a1 n1 c1, .slice a2 n2 c2], .int .i64 0]) ∧ RdsNd w' (.slice a0 n0 c0) N ∧ RdsUs w' (.slice a1 n1 c1) U ∧ RdsSn w' (.slice a2 n2 c2) L) ∧ Below w.heap.size w w'
theorem RdsSn.kept8 {X : Nat → Prop} {w w' : World} {v : Value} {N : List QT.Sn} (h : RdsSn w v N) (f : Fr X w w') (hx : ∀ q, X q → ∀ (j : Nat) (x : QT.Sn) (u : Value), u ∈ valsSn x → w.cell? ⟨q, j, none⟩ = some u → False) : RdsSn w' v N := by
  obtain ⟨a, cap, rfl, h1, h2, h3⟩ := h
  refine ⟨a, cap, rfl, h1, h2, ?_⟩
  rcases h3 with h3 | ⟨b, o, rfl, hc⟩
  · exact .inl h3
  · exact .inr ⟨b, o, rfl, fun i x hi j u hu => f.cell (hc i x hi j u hu) (fun q => hx b q _ x _ (List.mem_of_getElem? hu) (hc i x hi j u hu))⟩
set_option maxRecDepth 100000 in
set_option maxHeartbeats 16000000 in
/-- The table of bytes. -/
theorem rdecTab_any (a : Option Addr) (c : Nat) (l : List UInt8) (w : World) (hv : IsB w (.slice a l.length c) l) (hl47 : l.length ≤ roomB) :
    Calls Tryz.prog 6 #[.slice a l.length c] w fun v w' => RDecS w w' v (QT.decTab l) := by
  have hstc := @run_store_complex Tryz.prog
  obtain ⟨y, la, ka, hp1⟩ : ∃ v l' k', PK.runP 98 1048576 l 0 = (v, l', k') := ⟨_, _, _, rfl⟩
  obtain ⟨cn, lb, kb, hp2⟩ : ∃ v l' k', PK.countP 64 la ka = (v, l', k') := ⟨_, _, _, rfl⟩
  have hlra : la.length ≤ roomB := by have := (QT.runG 98 1048576 l 0).1; rw [hp1] at this; exact Nat.le_trans this hl47
  have hlry : y.length ≤ roomB := by have := (QT.runG 98 1048576 l 0).2; rw [hp1] at this; exact Nat.le_trans this hl47
  have hcn : cn ≤ 64 := by have := QT.count_cap 64 la ka; rw [show ((64 : Nat) : Int) = 64 from rfl, hp2] at this; exact this
  have hlrb : lb.length ≤ roomB := by have := QT.count_rest 64 la ka; rw [hp2] at this; exact Nat.le_trans this hlra
  have hcn' : (cn : Int) ≤ 281474976710656 := by omega
  obtain ⟨W0, hW0⟩ : ∃ W, W = w.alloc (.cells #[.slice none 0 0, .slice none 0 0, .slice none 0 0] 35) := ⟨_, rfl⟩
  have b0 : Below w.heap.size w W0 := by rw [hW0]; exact (Below.refl _ _).alloc (Nat.le_refl _) _
  have g0 : W0.heap[w.heap.size]? = some (.cells #[.slice none 0 0, .slice none 0 0, .slice none 0 0] 35) := by rw [hW0]; exact heap_alloc_new _ _
  have C1 := Lib.hid (rreadBytes_any a c 0 l 1048576 W0 (hv.below b0) (by omega) (by omega) hl47)
  rw [hp1] at C1
  have HP1 := Lib.hid hp1
  have HP2 := Lib.hid hp2
  have Hla := Lib.hid hlra
  have Hly := Lib.hid hlry
  have Hlb := Lib.hid hlrb
  have Hcn := Lib.hid hcn
  have B0 := Lib.hid b0
  have G0 := Lib.hid g0
  have HW0 := Lib.hid hW0.symm
  clear hp1 hp2 hlra hlry hcn hlrb hW0 b0 g0 hv hl47
  go_enter Tryz.func6, Tryz.ntmps6
  go_wp2_with fail
  rw [HW0.out]
  clear HW0
  refine C1.out.mono ?_
  rintro e w1 ⟨⟨a1, c1, ya, yc, rfl, i1, iy⟩, b1⟩
  simp only at i1 iy
  obtain ⟨V1, hV1⟩ : ∃ V, V = w1.alloc (.cells #[.slice a1 la.length c1, .int .i64 ka] 80) := ⟨_, rfl⟩
  have bw1 : Below w1.heap.size w1 V1 := by rw [hV1]; exact (Below.refl _ _).alloc (Nat.le_refl _) _
  have gR1 : V1.heap[w1.heap.size]? = some (.cells #[.slice a1 la.length c1, .int .i64 ka] 80) := by rw [hV1]; exact heap_alloc_new _ _
  have hw0 : w.heap.size < w1.heap.size := Nat.lt_of_lt_of_le (Array.getElem?_eq_some_iff.1 G0.out).1 b1.size
  have b01 : Below W0.heap.size W0 V1 := b1.trans (bw1.mono b1.size)
  have BV1 := Lib.hid (B0.out.trans (b01.mono B0.out.size))
  have GZ1 := Lib.hid ((b01.block w.heap.size (Array.getElem?_eq_some_iff.1 G0.out).1).trans G0.out)
  have I1 := Lib.hid (i1.below bw1)
  have C2 := Lib.hid (rdecT_any ya yc y V1 (iy.below bw1) Hly.out)
  have GR1 := Lib.hid gR1
  have Hw0 := Lib.hid hw0
  have HV1 := Lib.hid hV1.symm
  clear hV1 bw1 gR1 hw0 b01 C1 B0 G0 i1 iy b1
  go_wp2_with fail
  rw [HV1.out]
  clear HV1
  refine C2.out.mono ?_
  rintro e w2 ⟨hd, b2⟩
  obtain ⟨aN, nN, cN, aU, nU, cU, er, he, hdt⟩ : ∃ (aN : Option Addr) (nN cN : Nat) (aU : Option Addr) (nU cU : Nat) (er : Int), e = .returned (.tuple #[.agg #[(.slice aN nN cN), (.slice aU nU cU)], .int .i64 er]) ∧ Hid ((er = 0 ∧ (QT.decT y).isSome = true ∨ er = 3 ∧ (QT.decT y).isSome = false) ∧ ∀ N U, QT.decT y = some (N, U) → RdsNd w2 (.slice aN nN cN) N ∧ RdsUs w2 (.slice aU nU cU) U) := by
    cases hy : QT.decT y with
    | none =>
      rw [hy] at hd
      exact ⟨none, 0, 0, none, 0, 0, 3, hd, Lib.hid ⟨.inr ⟨rfl, rfl⟩, fun N U h => by cases h⟩⟩
    | some p =>
      obtain ⟨N, U⟩ := p
      rw [hy] at hd
      obtain ⟨q0, q1, q2, q3, q4, q5, h1, h2, h3⟩ := hd
      refine ⟨q0, q1, q2, q3, q4, q5, 0, h1, Lib.hid ⟨.inl ⟨rfl, rfl⟩, fun N' U' h => ?_⟩⟩
      cases h
      exact ⟨h2, h3⟩
  subst he
  clear hd C2
  obtain ⟨V2, hV2⟩ : ∃ V, V = (w2.alloc (.cells #[(.slice aN nN cN), (.slice aU nU cU)] 32)).alloc (.cells #[(.slice aN nN cN), (.slice aU nU cU), .slice none 0 0] 35) := ⟨_, rfl⟩
  have bV2 : Below w2.heap.size w2 V2 := by rw [hV2]; exact ((Below.refl _ _).alloc (Nat.le_refl _) _).alloc (by simp) _
  have gX2 : V2.heap[w2.heap.size + 1]? = some (.cells #[(.slice aN nN cN), (.slice aU nU cU), .slice none 0 0] 35) := by
    rw [hV2]
    exact (by simp : w2.heap.size + 1 = (w2.alloc _).heap.size) ▸ heap_alloc_new _ _
  have b12 : Below V1.heap.size V1 V2 := b2.trans (bV2.mono b2.size)
  have hB2 : w2.heap[w1.heap.size]? = some (.cells #[.slice a1 la.length c1, .int .i64 ka] 80) := (b2.block _ (Array.getElem?_eq_some_iff.1 GR1.out).1).trans GR1.out
  have hlt2 : w1.heap.size < w2.heap.size := (Array.getElem?_eq_some_iff.1 hB2).1
  have T2 : TbS w w2 V2 w1.heap.size (w2.heap.size + 1) a1 la.length c1 la ka (.slice aN nN cN) (.slice aU nU cU) (.slice none 0 0) ([]) :=
    ⟨BV1.out.trans (b12.mono BV1.out.size), ⟨bV2.os, bV2.tape, bV2.output, bV2.size, fun q hq _ => bV2.block q hq⟩,
      (b12.block _ (Array.getElem?_eq_some_iff.1 GZ1.out).1).trans GZ1.out, (b12.block _ (Array.getElem?_eq_some_iff.1 GR1.out).1).trans GR1.out, gX2, I1.out.below b12, rfl, Hla.out, .nil _,
      fun b hb => by simp [Value.ownBlock] at hb, ⟨Hw0.out, hlt2, by omega⟩, ⟨by simp, by simp⟩⟩
  have C3 := Lib.hid (rreadCount_any a1 c1 ka la V2 T2.is)
  rw [HP2.out] at C3
  have HB2 := Lib.hid hB2
  have HT2 := Lib.hid T2
  have HV2 := Lib.hid hV2.symm
  have Hlt2 := Lib.hid hlt2
  have hb0 : ∃ b, b = (QT.decT y).isSome := ⟨_, rfl⟩
  obtain ⟨t0, ht0⟩ := hb0
  have hb1 : (er == 0) = t0 := by
    rcases hdt.out.1 with ⟨h1, h2⟩ | ⟨h1, h2⟩
    · rw [ht0, h2, h1]; rfl
    · rw [ht0, h2, h1]; rfl
  have Ht0 := Lib.hid ht0
  obtain ⟨s0, s1, _, _⟩ := cells2 hB2
  obtain ⟨u0, u1, _, _⟩ := cells2 T2.rb
  clear hV2 bV2 gX2 b12 hB2 T2 BV1 GZ1 I1 GR1 Hw0 b2 ht0
  go_wp2_with fail
  rw [HV2.out]
  clear HV2
  refine C3.out.mono ?_
  rintro e w3 ⟨⟨a3, c3, rfl, i3⟩, b3⟩
  have T3 := HT2.out.below b3
  have T4 := T3.putR (k' := kb) i3 rfl Hlb.out
  clear s0 s1 u0 u1
  obtain ⟨s0, s1, s2, s3⟩ := cells2 T3.rb
  obtain ⟨V4, hV4⟩ : ∃ V, V = put2q w3 w1.heap.size a3 lb.length c3 kb := ⟨_, rfl⟩
  rw [← hV4] at T4
  have HV4 : Hid ((w3.setCell ⟨w1.heap.size, 0, none⟩ (.slice a3 lb.length c3)).setCell ⟨w1.heap.size, 1, none⟩ (.int .i64 kb) = V4) := hV4.symm
  have HT4 := Lib.hid T4
  clear C3 HT2 b3 T3 T4 i3 hV4 hb1 hlt2
  go_wp2_with (rw [HV4.out])
  clear HV4 s0 s1 s2 s3
  rw [show Value.bool t0 = Value.bool (QT.okS t0 []).1 from rfl]
  go_loopw [9, 10, 12] (fun v9 v10 v12 V => ∃ (i : Nat) (a' : Option Addr) (n' c' : Nat) (l' : List UInt8) (k' : Nat) (vS : Value) (L : List QT.Rw), i ≤ cn ∧ v12 = .int .i64 i ∧ v9 = .bool (QT.okS t0 L).1 ∧ v10 = .int .i64 ((QT.okS t0 L).2 : Nat) ∧ Hid (QT.readL QT.readSn i lb kb = (L, l', k')) ∧ Hid (TbS w w2 V w1.heap.size (w2.heap.size + 1) a' n' c' l' k' (.slice aN nN cN) (.slice aU nU cU) (vS) ((L.map QT.snOf)))) (fun _ _ v _ => cn - (intOf v).toNat)
  case atStart => exact ⟨0, a3, lb.length, c3, lb, kb, .slice none 0 0, [], Nat.zero_le _, rfl, rfl, rfl, Lib.hid rfl, HT4⟩
  case round =>
    obtain ⟨i, a0, n0, c0, l0, k0, vS, L, hi, rfl, rfl, rfl, Q, S⟩ := hrel
    clear HT4
    obtain ⟨t0', t1', _, _⟩ := cells2 S.out.rb
    have hlen : L.length = i := QT.readL_len Q.out
    have err : Hid (QT.decTab l = none → ∀ wx, Below wr.heap.size wr wx → ((wx.cell? ⟨w.heap.size, 0, none⟩ = some (.slice none 0 0) ∧ wx.cell? ⟨w.heap.size, 1, none⟩ = some (.slice none 0 0) ∧ wx.cell? ⟨w.heap.size, 2, none⟩ = some (.slice none 0 0)) ∧ wx.frozen? ⟨w.heap.size, 0, none⟩ = false ∧ wx.frozen? ⟨w.heap.size, 1, none⟩ = false ∧ wx.frozen? ⟨w.heap.size, 2, none⟩ = false) ∧
        ∃ w6, (((wx.setCell ⟨w.heap.size, 0, none⟩ (.slice none 0 0)).setCell ⟨w.heap.size, 1, none⟩ (.slice none 0 0)).setCell ⟨w.heap.size, 2, none⟩ (.slice none 0 0)) = w6 ∧ (w6.cell? ⟨w.heap.size, 0, none⟩ = some (.slice none 0 0) ∧ w6.cell? ⟨w.heap.size, 1, none⟩ = some (.slice none 0 0) ∧ w6.cell? ⟨w.heap.size, 2, none⟩ = some (.slice none 0 0)) ∧ RDecS w w6 (.returned (.tuple #[.agg #[.slice none 0 0, .slice none 0 0, .slice none 0 0], .int .i64 3])) (QT.decTab l)) := Lib.hid (fun hb wx bx => by
      have T := S.out.below bx
      refine ⟨cells3f T.zb, _, rfl, (cells3f (stored3s T.zb _ _ _)).1, ?_⟩
      rw [hb]
      exact ⟨rfl, belowSet T.be (fr3s wx _ _ _ _) (Nat.le_refl _)⟩)
    by_cases hlt : i < cn
    · have h1 : (i : Int) < (cn : Int) := by omega
      by_cases hk : k0 = 0
      · subst hk
        clear err
        obtain ⟨aS, cS, eS⟩ := S.out.oS.form
        rw [List.length_map, hlen] at eS
        subst eS
        obtain ⟨m1, l2, k2, hq1⟩ : ∃ v l' k', PK.uintP QT.cap l0 0 = (v, l', k') := ⟨_, _, _, rfl⟩
        obtain ⟨m2, l3, k3, hq2⟩ : ∃ v l' k', PK.uintP QT.cap l2 k2 = (v, l', k') := ⟨_, _, _, rfl⟩
        obtain ⟨yb, l4, k4, hq3⟩ : ∃ v l' k', PK.runP 98 256 l3 k3 = (v, l', k') := ⟨_, _, _, rfl⟩
        have hrd := QT.readSn_at hq1 hq2 hq3
        have g2 : l2.length ≤ roomB := by have := QT.uint_rest QT.cap l0 0; rw [hq1] at this; exact Nat.le_trans this S.out.lr
        have g3 : l3.length ≤ roomB := by have := QT.uint_rest QT.cap l2 k2; rw [hq2] at this; exact Nat.le_trans this g2
        have g4 : l4.length ≤ roomB := by have := (QT.runG 98 256 l3 k3).1; rw [hq3] at this; exact Nat.le_trans this g3
        have gy : yb.length ≤ roomB := by have := (QT.runG 98 256 l3 k3).2; rw [hq3] at this; exact Nat.le_trans this g3
        have hm1 := QT.uint_of hq1
        have hm2 := QT.uint_of hq2
        simp only [QT.cap] at hm1 hm2
        have c1' : IntKind.i64.wrap (m1 : Int) = (m1 : Int) := by rw [IntKind.wrap_i64]; omega
        have c2' : IntKind.i64.wrap (m2 : Int) = (m2 : Int) := by rw [IntKind.wrap_i64]; omega
        have hn0 := S.out.hn
        subst hn0
        have D1 := Lib.hid (rreadUint_any a0 c0 0 1099511627776 l0 wr S.out.is)
        have D2 := Lib.hid (fun (a' : Option Addr) (c' : Nat) (V : World) (h : IsB V (.slice a' l2.length c') l2) => rreadUint_any a' c' k2 1099511627776 l2 V h)
        have D3 := Lib.hid (fun (a' : Option Addr) (c' : Nat) (V : World) (h : IsB V (.slice a' l3.length c') l3) => rreadBytes_any a' c' k3 l3 256 V h (by omega) (by omega) g3)
        simp only [QT.cap] at hq1 hq2
        rw [hq1] at D1
        rw [hq2] at D2
        rw [hq3] at D3
        have HRd := Lib.hid hrd
        have G2 := Lib.hid g2
        have G3 := Lib.hid g3
        have G4 := Lib.hid g4
        have Gy := Lib.hid gy
        have Hm1 := Lib.hid hm1
        have Hlen := Lib.hid hlen
        clear hq1 hq2 hq3 hrd g2 g3 g4 gy hm1 hm2 hlen
        go_wp2_with fail
        refine D1.out.mono ?_
        rintro e x1 ⟨⟨p1, q1, rfl, i1⟩, b1⟩
        have Y1 := S.out.below b1
        have P1 := Y1.putR (k' := k2) i1 rfl G2.out
        obtain ⟨s0, s1, s2, s3⟩ := cells2 Y1.rb
        obtain ⟨U1, hU1⟩ : ∃ V, V = put2q x1 w1.heap.size p1 l2.length q1 k2 := ⟨_, rfl⟩
        rw [← hU1] at P1
        have HU1 : Hid ((x1.setCell ⟨w1.heap.size, 0, none⟩ (.slice p1 l2.length q1)).setCell ⟨w1.heap.size, 1, none⟩ (.int .i64 k2) = U1) := hU1.symm
        obtain ⟨z0, z1, _, _⟩ := cells2 P1.rb
        have E1 := Lib.hid (D2.out p1 q1 U1 P1.is)
        have S1 := Lib.hid P1
        clear D1 D2 S b1 Y1 P1 i1 hU1 t0' t1'
        go_wp2_with (rw [HU1.out])
        clear HU1 s0 s1 s2 s3 z0 z1
        refine E1.out.mono ?_
        rintro e x2 ⟨⟨p2, q2, rfl, i2⟩, b2⟩
        have Y2 := S1.out.below b2
        have P2 := Y2.putR (k' := k3) i2 rfl G3.out
        obtain ⟨s0, s1, s2, s3⟩ := cells2 Y2.rb
        obtain ⟨U2, hU2⟩ : ∃ V, V = put2q x2 w1.heap.size p2 l3.length q2 k3 := ⟨_, rfl⟩
        rw [← hU2] at P2
        have HU2 : Hid ((x2.setCell ⟨w1.heap.size, 0, none⟩ (.slice p2 l3.length q2)).setCell ⟨w1.heap.size, 1, none⟩ (.int .i64 k3) = U2) := hU2.symm
        obtain ⟨z0, z1, _, _⟩ := cells2 P2.rb
        have E2 := Lib.hid (D3.out p2 q2 U2 P2.is)
        have S2 := Lib.hid P2
        clear E1 D3 S1 b2 Y2 P2 i2 hU2
        go_wp2_with (rw [HU2.out])
        clear HU2 s0 s1 s2 s3 z0 z1
        refine E2.out.mono ?_
        rintro e x3 ⟨⟨p3, q3, yba, ybc, rfl, i3, iyb⟩, b3⟩
        simp only at i3 iyb
        have Y3 := S2.out.below b3
        have P3 := Y3.putR (k' := k4) i3 rfl G4.out
        obtain ⟨s0, s1, s2, s3⟩ := cells2 Y3.rb
        obtain ⟨U3, hU3⟩ : ∃ V, V = put2q x3 w1.heap.size p3 l4.length q3 k4 := ⟨_, rfl⟩
        have iy3 : IsB U3 (.slice yba yb.length ybc) yb := by rw [hU3]; exact iyb.kept8q (put2q_fr (fun j => j = w1.heap.size) x3 w1.heap.size rfl p3 l4.length q3 k4) (fun q hq => by subst hq; exact Y3.noB)
        rw [← hU3] at P3
        have HU3 : Hid ((x3.setCell ⟨w1.heap.size, 0, none⟩ (.slice p3 l4.length q3)).setCell ⟨w1.heap.size, 1, none⟩ (.int .i64 k4) = U3) := hU3.symm
        have E3 := Lib.hid (rdecRp_any yba yb.length ybc yb U3 rfl iy3 Gy.out)
        have S3 := Lib.hid P3
        clear E2 S2 b3 Y3 P3 i3 iyb iy3 hU3
        go_wp2_with (rw [HU3.out])
        clear HU3 s0 s1 s2 s3
        refine E3.out.mono ?_
        rintro e x4 ⟨he0, b4⟩
        have S4 := Lib.hid (S3.out.below b4)
        clear E3 S3 b4
        obtain ⟨z, er2, rs, he, hz⟩ : ∃ (z : QT.Rp) (er2 : Int) (rs : Bool), e = .returned (.tuple #[.agg #[.int .i64 z.er, .int .i64 z.se, .int .i64 z.an.er, .complex .f64 (FL.fB z.an.u1) (FL.fB z.an.u2), .complex .f64 (FL.fB z.an.t1) (FL.fB z.an.t2)], .int .i64 er2]) ∧ Hid (z = (QT.decRp yb).getD QT.rp0 ∧ rs = (QT.decRp yb).isSome ∧ (er2 = 0 ∧ rs = true ∨ er2 = 3 ∧ rs = false)) := by
          cases hd : QT.decRp yb with
          | none =>
            rw [hd] at he0
            refine ⟨QT.rp0, 3, false, ?_, Lib.hid ⟨rfl, rfl, .inr ⟨rfl, rfl⟩⟩⟩
            rw [he0, RERp, QT.rp0, QT.an0, fB_zero]
          | some x =>
            rw [hd] at he0
            exact ⟨x, 0, true, he0, Lib.hid ⟨rfl, rfl, .inl ⟨rfl, rfl⟩⟩⟩
        subst he
        clear he0
        obtain ⟨x5, hx5⟩ : ∃ W, W = x4.alloc (.cells #[.int .i64 z.er, .int .i64 z.se, .int .i64 z.an.er, .complex .f64 (FL.fB z.an.u1) (FL.fB z.an.u2), .complex .f64 (FL.fB z.an.t1) (FL.fB z.an.t2)] 91) := ⟨_, rfl⟩
        obtain ⟨X, hX⟩ : ∃ b, b = x4.heap.size := ⟨_, rfl⟩
        have b45 : Below x4.heap.size x4 x5 := by rw [hx5]; exact (Below.refl _ _).alloc (Nat.le_refl _) _
        have gX : x5.heap[X]? = some (.cells #[.int .i64 z.er, .int .i64 z.se, .int .i64 z.an.er, .complex .f64 (FL.fB z.an.u1) (FL.fB z.an.u2), .complex .f64 (FL.fB z.an.t1) (FL.fB z.an.t2)] 91) := by rw [hx5, hX]; exact heap_alloc_new _ _
        have S5 := Lib.hid (S4.out.below b45)
        have GX := Lib.hid gX
        have HW5 := Lib.hid hx5.symm
        have HX := Lib.hid hX.symm
        clear hx5 hX b45 gX S4
        go_upto_region 15 with fail
        rw [HW5.out, HX.out]
        clear HW5 HX
        obtain ⟨ok, hok⟩ : ∃ b, b = (QT.okS t0 L).1 := ⟨_, rfl⟩
        obtain ⟨bf, hbf⟩ : ∃ b, b = (QT.okS t0 L).2 := ⟨_, rfl⟩
        rw [← hok, ← hbf]
        have Hok := Lib.hid hok
        have Hbf := Lib.hid hbf
        clear hok hbf
        go_cut [9] (fun v9 V => v9 = .bool (ok && rs && decide (bf < m1)) ∧ V = x5)
        case first =>
          have hcmp : decide ((bf : Int) < (m1 : Int)) = decide (bf < m1) := by
            by_cases h : bf < m1
            · rw [decide_eq_true h, decide_eq_true (by omega)]
            · rw [decide_eq_false h, decide_eq_false (by omega)]
          have Hcmp := Lib.hid hcmp
          clear hcmp
          cases ok with
          | false =>
            go_wp2_with fail
            go_meet
            exact ⟨rfl, rfl⟩
          | true =>
            rcases hz.out.2.2 with ⟨h1, h2⟩ | ⟨h1, h2⟩
            · subst h1
              subst h2
              clear hz
              go_wp2_with fail
              go_meet
              exact ⟨by rw [← Hcmp.out]; rfl, rfl⟩
            · subst h1
              subst h2
              clear hz
              go_wp2_with fail
              go_meet
              exact ⟨rfl, rfl⟩
        case rest =>
          obtain ⟨rfl, rfl⟩ := hcut
          obtain ⟨x, hx⟩ : ∃ x : QT.Rw, x = (m1, m2, QT.decRp yb) := ⟨_, rfl⟩
          have hsn := QT.okS_snoc t0 L x
          have hsx : QT.snOf x = ⟨m1, m2, z⟩ := by rw [hx, QT.snOf, hz.out.1]
          have hread : QT.readL QT.readSn (i + 1) lb kb = (L ++ [x], l4, k4) := by
            rw [QT.readL_snoc, Q.out, HRd.out, hx]
          have HRn := Lib.hid hread
          have e9 : (QT.okS t0 (L ++ [x])).2 = m1 := by rw [hsn, QT.stepS, hx]
          have e8 : (QT.okS t0 (L ++ [x])).1 = (ok && rs && decide (bf < m1)) := by rw [hsn, QT.stepS, hx, Hok.out, Hbf.out, hz.out.2.1]
          have E9 := Lib.hid e9
          have E8 := Lib.hid e8
          have hml : (L.map QT.snOf).length = i := by rw [List.length_map]; exact Hlen.out
          have HL := Lib.hid hml
          have HO : Hid (∀ o, OwnSn (wc.alloc o) (.slice aS i cS) (L.map QT.snOf)) := Lib.hid (fun o => (S5.out.below ((Below.refl _ _).alloc (Nat.le_refl _) o)).oS)
          have HC : Hid (∀ j u, (valsSn (QT.snOf x))[j]? = some u → (wc.alloc (.cells #[.int .i64 m1, .int .i64 m2, .int .i64 z.er, .int .i64 z.se, .int .i64 z.an.er, .complex .f64 (FL.fB z.an.u1) (FL.fB z.an.u2), .complex .f64 (FL.fB z.an.t1) (FL.fB z.an.t2)] 95)).cell? ⟨wc.heap.size, j, none⟩ = some u) := Lib.hid (fun j u hu => by
            rw [World.cell?_alloc_new, ← hu, hsx]
            simp [valsSn])
          have HS : Hid (∀ (o : Obj) (V9 : World) (f : Fr (fun q => Value.ownBlock (.slice aS i cS) = some q) (wc.alloc o) V9) (a' : Option Addr) (n' c' : Nat) (o9 : OwnSn V9 (.slice a' n' c') (L.map QT.snOf ++ [QT.snOf x])) (nb : Value.ownBlock (.slice a' n' c') = Value.ownBlock (.slice aS i cS) ∨ ∃ g, a' = some ⟨g, 0, none⟩ ∧ (wc.alloc o).heap.size ≤ g),
              TbS w w2 (V9.setCell ⟨w2.heap.size + 1, 2, none⟩ (.slice a' n' c')) w1.heap.size (w2.heap.size + 1) p3 l4.length q3 l4 k4 (.slice aN nN cN) (.slice aU nU cU) ((.slice a' n' c')) (((L ++ [x]).map QT.snOf))) := Lib.hid (fun o V9 f a' n' c' o9 nb => by
            rw [List.map_append]
            exact S5.out.putS o rfl f o9 nb)
          have keepX : Hid (∀ (o : Obj) (V9 : World) (f : Fr (fun q => Value.ownBlock (.slice aS i cS) = some q) (wc.alloc o) V9), V9.heap[w2.heap.size + 1]? = some (.cells #[(.slice aN nN cN), (.slice aU nU cU), .slice aS i cS] 35)) := Lib.hid (fun o V9 f =>
            f.heap (S5.out.below ((Below.refl _ _).alloc (Nat.le_refl _) o)).xb (fun e => by have := S5.out.bS _ e; omega))
          obtain ⟨⟨z0, z1, z2, z3, z4⟩, _⟩ := cells5f GX.out
          obtain ⟨⟨_, _, y2⟩, _⟩ := cells3f S5.out.xb
          clear hsn hread e9 e8 hml hx hsx S5 GX Q HRd hz
          go_wp2_with (at_builtin; refine wpList_appSn rfl (.tmp 81) (.tmp 88) rfl TSn (v := .slice aS i cS) (n := i) HL.out rfl (HO.out _) rfl HC.out (by have := Hcn.out; omega) ?_; intro a9 c9 w9 o9 g9 b9; obtain ⟨⟨_, _, j2⟩, _, _, j5⟩ := cells3f (keepX.out _ _ g9); have S9 := Lib.hid (HS.out _ _ g9 _ _ _ o9 b9); clear o9 g9 b9)
          exact ⟨⟨i + 1, p3, l4.length, q3, l4, k4, .slice a9 (i + 1) c9, L ++ [x], by omega, by simp, by rw [E8.out], by rw [E9.out], HRn, S9⟩, by simp [intOf]; omega⟩
      · have h1' : ¬ (k0 : Int) = 0 := by omega
        have hn0 := S.out.hn
        subst hn0
        have Hbad := Lib.hid (QT.decTab_bad ((QT.tab_fin HP1.out HP2.out Q.out hi (fun e => absurd e hk)).2 hk))
        have C9 := Lib.hid (rdone_any a0 c0 k0 l0 wr)
        obtain ⟨d, hdn⟩ := doneP_bad (l := l0) (k := k0) (fun e => hk e.1)
        rw [hdn] at C9
        have hd1 : ((d : Nat) : Int) + 1 ≠ 0 := by omega
        clear hdn hlen Q
        go_wp2_with fail
        refine C9.out.mono ?_
        rintro e wx ⟨rfl, bx⟩
        obtain ⟨⟨⟨z0, z1, z2⟩, f0, f1, f2⟩, w6, hw6, ew, fin⟩ := err.out Hbad.out wx bx
        have HW6 := Lib.hid hw6
        have EW := Lib.hid ew
        have Fin := Lib.hid fin
        clear hw6 ew fin bx err C9 S t0' t1'
        go_wp2_with (rw [HW6.out]; obtain ⟨e0', e1', e2'⟩ := EW.out; refine bodyPost_ret (v := .tuple #[.agg #[.slice none 0 0, .slice none 0 0, .slice none 0 0], .int .i64 3]) (by simp [results, Tryz.results6, go_sem, e0', e1', e2']) rfl ?_; exact Fin.out)
    · have h1 : ¬ (i : Int) < (cn : Int) := by omega
      have hic : i = cn := by omega
      have hn0 := S.out.hn
      subst hn0
      have C9 := Lib.hid (rdone_any a0 c0 k0 l0 wr)
      have htf := QT.tab_fin HP1.out HP2.out Q.out hi (fun _ => hic)
      by_cases hz : k0 = 0 ∧ l0 = []
      · obtain ⟨rfl, rfl⟩ := hz
        have hat := QT.decTab_at (htf.1 rfl)
        rw [PK.doneP_zero] at C9
        cases hok : (QT.okS t0 L).1 with
        | false =>
          have Hbad : Hid (QT.decTab l = none) := Lib.hid (by
            rw [hat]
            rw [QT.okS_is, Ht0.out] at hok
            cases hy : QT.decT y with
            | none => rfl
            | some p =>
              rw [hy] at hok
              simp only [Option.isSome_some, Bool.true_and] at hok
              simp only
              rw [if_neg (fun e => by rw [hok] at e; exact Bool.noConfusion e.2)])
          clear hok hat htf hlen Q hic
          go_wp2_with fail
          refine C9.out.mono ?_
          rintro e wx ⟨rfl, bx⟩
          obtain ⟨⟨⟨z0, z1, z2⟩, f0, f1, f2⟩, w6, hw6, ew, fin⟩ := err.out Hbad.out wx bx
          have HW6 := Lib.hid hw6
          have EW := Lib.hid ew
          have Fin := Lib.hid fin
          clear hw6 ew fin bx err C9 S t0' t1'
          go_wp2_with (rw [HW6.out]; obtain ⟨e0', e1', e2'⟩ := EW.out; refine bodyPost_ret (v := .tuple #[.agg #[.slice none 0 0, .slice none 0 0, .slice none 0 0], .int .i64 3]) (by simp [results, Tryz.results6, go_sem, e0', e1', e2']) rfl ?_; exact Fin.out)
        | true =>
          have hgood : ∃ N U, QT.decT y = some (N, U) ∧ QT.decTab l = some (N, U, L.map QT.snOf) := by
            rw [QT.okS_is, Ht0.out] at hok
            rw [hat]
            cases hy : QT.decT y with
            | none => rw [hy] at hok; simp at hok
            | some p =>
              rw [hy] at hok
              simp only [Option.isSome_some, Bool.true_and] at hok
              exact ⟨p.1, p.2, rfl, if_pos ⟨rfl, hok⟩⟩
          obtain ⟨N, U, hNU, hgd⟩ := hgood
          obtain ⟨aS, cS, eS⟩ := S.out.oS.form
          rw [List.length_map] at eS
          have good : Hid (∀ wx, Below wr.heap.size wr wx → (((wx.cell? ⟨w.heap.size, 0, none⟩ = some (.slice none 0 0) ∧ wx.cell? ⟨w.heap.size, 1, none⟩ = some (.slice none 0 0) ∧ wx.cell? ⟨w.heap.size, 2, none⟩ = some (.slice none 0 0)) ∧ wx.frozen? ⟨w.heap.size, 0, none⟩ = false ∧ wx.frozen? ⟨w.heap.size, 1, none⟩ = false ∧ wx.frozen? ⟨w.heap.size, 2, none⟩ = false) ∧
              (wx.cell? ⟨w2.heap.size + 1, 0, none⟩ = some (.slice aN nN cN) ∧ wx.cell? ⟨w2.heap.size + 1, 1, none⟩ = some (.slice aU nU cU) ∧ wx.cell? ⟨w2.heap.size + 1, 2, none⟩ = some (.slice aS L.length cS))) ∧
              ∃ w6, (((wx.setCell ⟨w.heap.size, 0, none⟩ (.slice aN nN cN)).setCell ⟨w.heap.size, 1, none⟩ (.slice aU nU cU)).setCell ⟨w.heap.size, 2, none⟩ (.slice aS L.length cS)) = w6 ∧ (w6.cell? ⟨w.heap.size, 0, none⟩ = some (.slice aN nN cN) ∧ w6.cell? ⟨w.heap.size, 1, none⟩ = some (.slice aU nU cU) ∧ w6.cell? ⟨w.heap.size, 2, none⟩ = some (.slice aS L.length cS)) ∧
                RDecS w w6 (.returned (.tuple #[.agg #[(.slice aN nN cN), (.slice aU nU cU), .slice aS L.length cS], .int .i64 0])) (QT.decTab l)) := Lib.hid (fun wx bx => by
            have T := S.out.below bx
            have f6 := fr3s wx w.heap.size (.slice aN nN cN) (.slice aU nU cU) (.slice aS L.length cS)
            have hx := T.xb
            have hB := (⟨_, _, _, _, HB2.out⟩ : ∃ (a0 : Option Addr) (n0 c0 : Nat) (k0 : Int), w2.heap[w1.heap.size]? = some (.cells #[.slice a0 n0 c0, .int .i64 k0] 80))
            have hrd := hdt.out.2 N U hNU
            have rN := T.nodes hB hrd.1
            have rU := T.uses hB hrd.2
            have rS := T.oS.rds
            have noZ : ∀ j u, wx.cell? ⟨w.heap.size, j, none⟩ = some u → u = .slice none 0 0 := fun j u e => by
              simp only [World.cell?, T.zb] at e
              rcases j with _ | _ | _ | j <;> simp at e <;> exact e.symm
            rw [eS] at hx rS
            refine ⟨⟨cells3f T.zb, (cells3f hx).1⟩, _, rfl, (cells3f (stored3s T.zb _ _ _)).1, ?_⟩
            rw [hgd]
            refine ⟨⟨_, _, _, _, _, _, _, _, _, rfl, rN.kept8 f6 ?_, rU.kept8 f6 ?_, rS.kept8 f6 ?_⟩, belowSet T.be f6 (Nat.le_refl _)⟩
            · intro q hq j x u hu e
              subst hq
              rw [noZ j u e] at hu
              simp [valsNd] at hu
            · intro q hq j x u hu e
              subst hq
              rw [noZ j u e] at hu
              simp [valsUs] at hu
            · intro q hq j x u hu e
              subst hq
              rw [noZ j u e] at hu
              simp [valsSn] at hu)
          clear hat htf hlen Q hic hNU hgd eS hok err
          go_wp2_with fail
          refine C9.out.mono ?_
          rintro e wx ⟨rfl, bx⟩
          obtain ⟨⟨⟨⟨z0, z1, z2⟩, f0, f1, f2⟩, p0, p1, p2⟩, w6, hw6, ew, fin⟩ := good.out wx bx
          have HW6 := Lib.hid hw6
          have EW := Lib.hid ew
          have Fin := Lib.hid fin
          clear hw6 ew fin bx good C9 S t0' t1'
          go_wp2_with (rw [HW6.out]; obtain ⟨e0', e1', e2'⟩ := EW.out; refine bodyPost_ret (v := .tuple #[.agg #[(.slice aN nN cN), (.slice aU nU cU), .slice aS L.length cS], .int .i64 0]) (by simp [results, Tryz.results6, go_sem, e0', e1', e2']) rfl ?_; exact Fin.out)
      · have Hbad : Hid (QT.decTab l = none) := Lib.hid (by
          by_cases hk : k0 = 0
          · subst hk
            rw [QT.decTab_at (htf.1 rfl)]
            cases QT.decT y with
            | none => rfl
            | some p => simp only; rw [if_neg (fun e => hz ⟨rfl, e.1⟩)]
          · exact QT.decTab_bad (htf.2 hk))
        obtain ⟨d, hdn⟩ := doneP_bad hz
        rw [hdn] at C9
        have hd1 : ((d : Nat) : Int) + 1 ≠ 0 := by omega
        clear hdn hlen Q hz htf hic
        go_wp2_with fail
        refine C9.out.mono ?_
        rintro e wx ⟨rfl, bx⟩
        obtain ⟨⟨⟨z0, z1, z2⟩, f0, f1, f2⟩, w6, hw6, ew, fin⟩ := err.out Hbad.out wx bx
        have HW6 := Lib.hid hw6
        have EW := Lib.hid ew
        have Fin := Lib.hid fin
        clear hw6 ew fin bx err C9 S t0' t1'
        go_wp2_with (rw [HW6.out]; obtain ⟨e0', e1', e2'⟩ := EW.out; refine bodyPost_ret (v := .tuple #[.agg #[.slice none 0 0, .slice none 0 0, .slice none 0 0], .int .i64 3]) (by simp [results, Tryz.results6, go_sem, e0', e1', e2']) rfl ?_; exact Fin.out)
end Go.Proofs.YtkanjdijmdjbaaaGreatDoor
