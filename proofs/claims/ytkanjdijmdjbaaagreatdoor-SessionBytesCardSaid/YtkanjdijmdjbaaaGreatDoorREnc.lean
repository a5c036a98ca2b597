/-
  The document's table as bytes: tollbarref08.Encode.
  Conditions: the slices read as nodes, at most 256, uses, at most 1024, and sessions, at most 64; amounts and numbers as such; what is laid comes to at most 2^47 - 4000 bytes.
-/
import Derived.Test.YtkanjdijmdjbaaaGreatDoorG14
import Derived.Test.YtkanjdijmdjbaaaGreatDoorG23
namespace Go.Proofs.YtkanjdijmdjbaaaGreatDoor
open Go Go.RowKit

set_option maxRecDepth 100000 in
set_option maxHeartbeats 16000000 in
/-- Encode. -/
theorem rencTab_any (a0 : Option Addr) (n0 c0 : Nat) (a1 : Option Addr) (n1 c1 : Nat) (a : Option Addr) (n c : Nat) (N : List QT.Nd) (U : List QT.Us) (L : List QT.Sn) (w : World) (hM : RdsNd w (.slice a0 n0 c0) N) (hN : RdsUs w (.slice a1 n1 c1) U) (hS : RdsSn w (.slice a n c) L)
    (hs0 : n0 ≤ 256) (hs1 : n1 ≤ 1024) (hs : n ≤ 64) (hf0 : ∀ x ∈ N, QT.fineNd x) (hf1 : ∀ x ∈ U, QT.fineUs x) (hf : ∀ x ∈ L, QT.fineSn x) (hroom : (QT.encTab N U L).length + 4000 ≤ roomB) :
    Calls Tryz.prog 9 #[.agg #[.slice a0 n0 c0, .slice a1 n1 c1, .slice a n c]] w fun e w' => RW w w' e (QT.encTab N U L) := by
  have l1 := Lib.hid hS.len.1
  have hn : (n : Int) ≤ 281474976710656 := by omega
  have HSb := Lib.hid (fun (V : World) (b : Below w.heap.size w V) => hS.below b)
  have HF := Lib.hid hf
  obtain ⟨LA, hLA⟩ : ∃ l, l = QT.bB (QT.encT N U) := ⟨_, rfl⟩
  obtain ⟨LB, hLB⟩ : ∃ l, l = LA ++ PK.uB n := ⟨_, rfl⟩
  have hE : QT.encTab N U L = LB ++ QT.encL QT.encSn L := by rw [hLB, hLA, ← l1.out]; rfl
  rw [hE]
  rw [hE, List.length_append, hLB, List.length_append] at hroom
  have HR := Lib.hid hroom
  have hla : (QT.encT N U).length ≤ LA.length := by rw [hLA]; unfold QT.bB; rw [List.length_append]; omega
  have u1 := PK.uB_len n (by omega)
  have HLB := Lib.hid hLB
  have HLA := Lib.hid hLA
  have wr1 : IntKind.u64.wrap (n : Int) = (n : Int) := by rw [IntKind.wrap_u64]; omega
  obtain ⟨W, hW⟩ : ∃ W, W = w.alloc (.cells #[.slice a0 n0 c0, .slice a1 n1 c1, .slice a n c] 35) := ⟨_, rfl⟩
  have bW0 : Below w.heap.size w W := by rw [hW]; exact (Below.refl _ _).alloc (Nat.le_refl _) _
  have gW : W.heap[w.heap.size]? = some (.cells #[.slice a0 n0 c0, .slice a1 n1 c1, .slice a n c] 35) := by rw [hW]; exact heap_alloc_new _ _
  have bW := Lib.hid bW0
  have C0 : Hid (∀ V, Below W.heap.size W V → Calls Tryz.prog 38 #[.agg #[.slice a0 n0 c0, .slice a1 n1 c1]] V fun e w' => RW V w' e (QT.encT N U)) := Lib.hid (fun V b => by
    have bV := bW0.trans (b.mono bW0.size)
    exact rencT_any a0 n0 c0 a1 n1 c1 N U V (hM.below bV) (hN.below bV) hs0 hs1 hf0 hf1 (by omega))
  have C1 : Hid (∀ (V : World) a n c, (QT.encT N U).length = n → OwnB V (.slice a n c) (QT.encT N U) → Calls Tryz.prog 37 #[.slice none 0 0, .slice a n c] V fun e w' => RW V w' e LA) := Lib.hid (fun V a n c hn o => by
    have := rbytes_w none 0 0 [] a n c (QT.encT N U) V rfl hn (IsB.nil V) o.isB (by rw [← hn]; omega)
    refine this.mono fun e w' q => ?_
    rw [hLA, QT.bB, hn]
    exact q)
  have C2 : Hid (∀ (V : World) a m c, LA.length = m → OwnB V (.slice a m c) LA → Calls Tryz.prog 36 #[.slice a m c, .int .u64 n] V fun e w' => RW V w' e LB) := Lib.hid (fun V a m c hm o => by
    have := ruint_w a m c LA n V hm o.isB (by omega) (by rw [← hm]; omega)
    rw [hLB]
    exact this)
  have hBlt := (Array.getElem?_eq_some_iff.1 gW).1
  have cont : Hid (∀ V, Below W.heap.size W V → (Hid (Below W.heap.size W V) ∧ V.cell? ⟨w.heap.size, 0, none⟩ = some (.slice a0 n0 c0) ∧ V.cell? ⟨w.heap.size, 1, none⟩ = some (.slice a1 n1 c1) ∧ V.cell? ⟨w.heap.size, 2, none⟩ = some (.slice a n c))) := Lib.hid (fun V b => by
    obtain ⟨⟨y0, y1, y2⟩, _⟩ := cells3f ((b.block _ hBlt).trans gW)
    exact ⟨Lib.hid b, y0, y1, y2⟩)
  have Gof : Hid (∀ V, Below W.heap.size W V → V.heap[w.heap.size]? = some (.cells #[.slice a0 n0 c0, .slice a1 n1 c1, .slice a n c] 35)) := Lib.hid (fun V b => (b.block _ hBlt).trans gW)
  have S0 := cont.out W.drew (Below.refl _ _).drew
  have HW := Lib.hid hW.symm
  clear hM hN hS hs0 hs1 hs hf0 hf1 hf hE hLA hLB hroom hla gW hBlt bW0 hW u1
  go_enter Tryz.func9, Tryz.ntmps9
  go_wp2_with fail
  rw [HW.out]
  clear HW
  refine wp_region_noPanic ?_
  refine wp_region_held_drew (S := fun V => (Hid (Below W.heap.size W V) ∧ V.cell? ⟨w.heap.size, 0, none⟩ = some (.slice a0 n0 c0) ∧ V.cell? ⟨w.heap.size, 1, none⟩ = some (.slice a1 n1 c1) ∧ V.cell? ⟨w.heap.size, 2, none⟩ = some (.slice a n c))) (by kernel_rfl) S0 (fun hHeld => ?_)
  refine rTk 0 ?_; try simp only [Act.put, rP1, rP2, rP3]
  refine rTk 1 ?_; try simp only [Act.put, rP1, rP2, rP3]
  refine rTk 4 ?_; try simp only [Act.put, rP1, rP2, rP3]
  refine rTk 5 ?_; try simp only [Act.put, rP1, rP2, rP3]
  refine rTk 6 ?_; try simp only [Act.put, rP1, rP2, rP3]
  refine rTk 7 ?_; try simp only [Act.put, rP1, rP2, rP3]
  refine rBr 2 fun K hK => ?_
  go_simp
  go_at_call 38
  refine (C0.out _ (Below.refl _ _).drew).mono ?_
  rintro e v1 ⟨⟨p1, q1, r1, rfl, hn1, o1, _⟩, b1⟩
  have B1 : Below W.heap.size W v1 := (Below.refl W.heap.size W).drew.trans b1
  have S1 := cont.out v1 B1
  have Hn1 := Lib.hid hn1
  clear C0 S0 b1 hn1
  try (go_wp2_with fail)
  refine hK.out _ _ (by (try dsimp only); assumption) (fun hHeld => ?_)
  clear hK K
  try simp only [Act.put, rP1, rP2, rP3]
  refine rBr 3 fun K hK => ?_
  go_simp
  go_at_call 37
  refine (C1.out v1 p1 q1 r1 Hn1.out o1).mono ?_
  rintro e v2 ⟨⟨p2, q2, r2, rfl, hn2, o2, _⟩, b2⟩
  have B2 := B1.trans (b2.mono B1.size)
  have S2 := cont.out v2 B2
  have Hn2 := Lib.hid hn2
  clear C1 S1 o1 b2 B1 hn2
  try (go_wp2_with fail)
  refine hK.out _ _ (by (try dsimp only); assumption) (fun hHeld => ?_)
  clear hK K
  try simp only [Act.put, rP1, rP2, rP3]
  refine rBr 8 fun K hK => ?_
  go_simp
  go_at_call 36
  refine (C2.out v2 p2 q2 r2 Hn2.out o2).mono ?_
  rintro e v3 ⟨⟨p3, q3, r3, rfl, hn3, o3, w3⟩, b3⟩
  have B3 := B2.trans (b3.mono B2.size)
  have S3 := cont.out v3 B3
  have R3 : Hid (HoldQ w.heap.size v3 p3 q3 r3 LB) := Lib.hid ⟨hn3, o3, fun b hb => by have := w3 b hb; have := B2.size; have := bW.out.size; omega⟩
  clear C2 S2 o2 b3 B2 hn3 o3 w3
  try (go_wp2_with fail)
  refine hK.out _ _ (by (try dsimp only); assumption) (fun hHeld => ?_)
  clear hK K
  try simp only [Act.put, rP1, rP2, rP3]
  refine rTk 9 ?_; try simp only [Act.put, rP1, rP2, rP3]
  refine wpAnyH_done (by kernel_rfl) ?_ _
  refine NoPanic.normal ?_
  have BV := Lib.hid (bW.out.trans (B3.mono bW.out.size))
  have GV := Lib.hid (Gof.out v3 B3)
  clear S3 B3 hHeld cont Gof bW HLA Hn1 Hn2
  go_wp2_with fail
  go_loopw [3, 4] (fun v3 v4 V => ∃ (k : Nat) (a' : Option Addr) (n' c' : Nat), k ≤ n ∧ v4 = .int .i64 k ∧ v3 = .slice a' n' c' ∧ Hid (HoldQ w.heap.size V a' n' c' (LB ++ QT.encL QT.encSn (L.take k))) ∧ Hid (Below w.heap.size w V) ∧ Hid (V.heap[w.heap.size]? = some (.cells #[.slice a0 n0 c0, .slice a1 n1 c1, .slice a n c] 35))) (fun _ v _ => n - (intOf v).toNat)
  case atStart => exact ⟨0, p3, q3, r3, Nat.zero_le _, rfl, rfl, Lib.hid (by simpa [QT.encL] using R3.out), BV, GV⟩
  case round =>
    obtain ⟨k, a', n', c', hk, rfl, rfl, X1, Bv, Gv⟩ := hrel
    clear R3 BV GV
    obtain ⟨⟨t0, t1, t2⟩, _⟩ := cells3f Gv.out
    by_cases hlt : k < n
    · have h1 : (k : Int) < (n : Int) := by omega
      obtain ⟨x, hx⟩ : ∃ x, L[k]? = some x := ⟨_, List.getElem?_eq_getElem (by have := l1.out; omega)⟩
      obtain ⟨b, o, ea, q0, q1, q2, q3, q4, q5, q6⟩ := (HSb.out wr Bv.out).at k x hx
      subst ea
      have hfx := HF.out x (List.mem_of_getElem? hx)
      obtain ⟨f1, f2, f3⟩ := hfx
      simp only [QT.cap] at f1 f2
      have hnx := QT.encL_take QT.encSn hx
      have hle := QT.encL_take_le QT.encSn L k
      have hr := HR.out
      obtain ⟨Lk, hLk⟩ : ∃ l, l = LB ++ QT.encL QT.encSn (L.take k) := ⟨_, rfl⟩
      rw [← hLk] at X1
      have hkb : Lk.length + 4000 ≤ roomB := by rw [hLk, HLB.out, List.length_append, List.length_append]; omega
      obtain ⟨L1, hL1⟩ : ∃ l, l = Lk ++ PK.uB x.n := ⟨_, rfl⟩
      obtain ⟨L2, hL2⟩ : ∃ l, l = L1 ++ PK.uB x.sq := ⟨_, rfl⟩
      obtain ⟨L3, hL3⟩ : ∃ l, l = L2 ++ QT.bB (QT.encRp x.rp) := ⟨_, rfl⟩
      have e1 : L1.length ≤ Lk.length + 22 := by rw [hL1, List.length_append]; have := QT.uB_len64 x.n f1; omega
      have e2 : L2.length ≤ Lk.length + 44 := by rw [hL2, List.length_append]; have := QT.uB_len64 x.sq f2; omega
      have e3 := QT.encRp_len f3
      have hnext : LB ++ QT.encL QT.encSn (L.take (k + 1)) = L3 := by
        rw [hnx, hL3, hL2, hL1, hLk, QT.encSn]
        simp only [List.append_assoc]
      have Hnext := Lib.hid hnext
      have ww1 : IntKind.u64.wrap (x.n : Int) = (x.n : Int) := by rw [IntKind.wrap_u64]; omega
      have ww2 : IntKind.u64.wrap (x.sq : Int) = (x.sq : Int) := by rw [IntKind.wrap_u64]; omega
      have hBlt := (Array.getElem?_eq_some_iff.1 Gv.out).1
      have hMlt := World.block_lt_of_cell? _ _ q0
      have cont : Hid (∀ V, Below wr.heap.size wr V → (Hid (Below wr.heap.size wr V) ∧ V.cell? ⟨w.heap.size, 2, none⟩ = some (.slice (some ⟨b, o, none⟩) n c) ∧ V.cell? ⟨b, o + k * 7, none⟩ = some (.int .i64 x.n) ∧ V.cell? ⟨b, o + k * 7 + 1, none⟩ = some (.int .i64 x.sq))) := fun V h => ⟨Lib.hid h, (World.cell?_of_block (a := ⟨w.heap.size, 2, none⟩) (h.block _ hBlt)).trans t2, (World.cell?_of_block (a := ⟨b, o + k * 7, none⟩) (h.block _ hMlt)).trans q0, (World.cell?_of_block (a := ⟨b, o + k * 7 + 1, none⟩) (h.block _ hMlt)).trans q1⟩
      have more : Hid (∀ V, Below wr.heap.size wr V → V.cell? ⟨w.heap.size, 2, none⟩ = some (.slice (some ⟨b, o, none⟩) n c) ∧ V.cell? ⟨b, o + k * 7 + 2, none⟩ = some (.int .i64 x.rp.er) ∧ V.cell? ⟨b, o + k * 7 + 3, none⟩ = some (.int .i64 x.rp.se) ∧ V.cell? ⟨b, o + k * 7 + 4, none⟩ = some (.int .i64 x.rp.an.er) ∧ V.cell? ⟨b, o + k * 7 + 5, none⟩ = some (.complex .f64 (FL.fB x.rp.an.u1) (FL.fB x.rp.an.u2)) ∧ V.cell? ⟨b, o + k * 7 + 6, none⟩ = some (.complex .f64 (FL.fB x.rp.an.t1) (FL.fB x.rp.an.t2))) := fun V h =>
        ⟨(World.cell?_of_block (a := ⟨w.heap.size, 2, none⟩) (h.block _ hBlt)).trans t2, (World.cell?_of_block (a := ⟨b, o + k * 7 + 2, none⟩) (h.block _ hMlt)).trans q2, (World.cell?_of_block (a := ⟨b, o + k * 7 + 3, none⟩) (h.block _ hMlt)).trans q3, (World.cell?_of_block (a := ⟨b, o + k * 7 + 4, none⟩) (h.block _ hMlt)).trans q4, (World.cell?_of_block (a := ⟨b, o + k * 7 + 5, none⟩) (h.block _ hMlt)).trans q5, (World.cell?_of_block (a := ⟨b, o + k * 7 + 6, none⟩) (h.block _ hMlt)).trans q6⟩
      have fin : Hid (∀ V, Below wr.heap.size wr V → Below w.heap.size w V ∧ V.heap[w.heap.size]? = some (.cells #[.slice a0 n0 c0, .slice a1 n1 c1, .slice (some ⟨b, o, none⟩) n c] 35)) := fun V h => ⟨Bv.out.trans (h.mono Bv.out.size), (h.block _ hBlt).trans Gv.out⟩
      have S0 := cont.out wr.drew (Below.refl _ _).drew
      have X3 : Hid (HoldQ w.heap.size wr.drew a' n' c' Lk) := Lib.hid (X1.out.below (Below.refl _ _).drew)
      have step : Hid (∀ (V V' : World) (e : Ending) (l : List UInt8), (Hid (Below wr.heap.size wr V) ∧ V.cell? ⟨w.heap.size, 2, none⟩ = some (.slice (some ⟨b, o, none⟩) n c) ∧ V.cell? ⟨b, o + k * 7, none⟩ = some (.int .i64 x.n) ∧ V.cell? ⟨b, o + k * 7 + 1, none⟩ = some (.int .i64 x.sq)) → RW V V' e l → (∃ aa m cc, e = .returned (.slice aa m cc) ∧ Hid (HoldQ w.heap.size V' aa m cc l)) ∧ (Hid (Below wr.heap.size wr V') ∧ V'.cell? ⟨w.heap.size, 2, none⟩ = some (.slice (some ⟨b, o, none⟩) n c) ∧ V'.cell? ⟨b, o + k * 7, none⟩ = some (.int .i64 x.n) ∧ V'.cell? ⟨b, o + k * 7 + 1, none⟩ = some (.int .i64 x.sq))) := fun V V' e l h r => by
        obtain ⟨q, b⟩ := HoldQ.of r (fin.out V h.1.out).1.size
        exact ⟨q, cont.out V' (h.1.out.trans (b.mono h.1.out.size))⟩
      have C1 : Hid (∀ V aa m cc, (Hid (Below wr.heap.size wr V) ∧ V.cell? ⟨w.heap.size, 2, none⟩ = some (.slice (some ⟨b, o, none⟩) n c) ∧ V.cell? ⟨b, o + k * 7, none⟩ = some (.int .i64 x.n) ∧ V.cell? ⟨b, o + k * 7 + 1, none⟩ = some (.int .i64 x.sq)) → Hid (HoldQ w.heap.size V aa m cc Lk) → Calls Tryz.prog 36 #[.slice aa m cc, .int .u64 x.n] V fun e w' => (∃ aa m cc, e = .returned (.slice aa m cc) ∧ Hid (HoldQ w.heap.size w' aa m cc L1)) ∧ (Hid (Below wr.heap.size wr w') ∧ w'.cell? ⟨w.heap.size, 2, none⟩ = some (.slice (some ⟨b, o, none⟩) n c) ∧ w'.cell? ⟨b, o + k * 7, none⟩ = some (.int .i64 x.n) ∧ w'.cell? ⟨b, o + k * 7 + 1, none⟩ = some (.int .i64 x.sq))) := fun V aa m cc h hh => (ruint_w aa m cc Lk x.n V hh.out.1 hh.out.2.1.isB (by omega) (by have := hh.out.1; omega)).mono fun e w' r => by rw [hL1]; exact step.out V w' e _ h r
      have C2 : Hid (∀ V aa m cc, (Hid (Below wr.heap.size wr V) ∧ V.cell? ⟨w.heap.size, 2, none⟩ = some (.slice (some ⟨b, o, none⟩) n c) ∧ V.cell? ⟨b, o + k * 7, none⟩ = some (.int .i64 x.n) ∧ V.cell? ⟨b, o + k * 7 + 1, none⟩ = some (.int .i64 x.sq)) → Hid (HoldQ w.heap.size V aa m cc L1) → Calls Tryz.prog 36 #[.slice aa m cc, .int .u64 x.sq] V fun e w' => (∃ aa m cc, e = .returned (.slice aa m cc) ∧ Hid (HoldQ w.heap.size w' aa m cc L2)) ∧ (Hid (Below wr.heap.size wr w') ∧ w'.cell? ⟨w.heap.size, 2, none⟩ = some (.slice (some ⟨b, o, none⟩) n c) ∧ w'.cell? ⟨b, o + k * 7, none⟩ = some (.int .i64 x.n) ∧ w'.cell? ⟨b, o + k * 7 + 1, none⟩ = some (.int .i64 x.sq))) := fun V aa m cc h hh => (ruint_w aa m cc L1 x.sq V hh.out.1 hh.out.2.1.isB (by omega) (by have := hh.out.1; omega)).mono fun e w' r => by rw [hL2]; exact step.out V w' e _ h r
      have C3 := Lib.hid (fun V : World => rreply_w x.rp V f3)
      have C4 : Hid (∀ (V V' : World) aa m cc p q r, Below wr.heap.size wr V → Hid (HoldQ w.heap.size V aa m cc L2) → Below V.heap.size V V' → (QT.encRp x.rp).length = q → OwnB V' (.slice p q r) (QT.encRp x.rp) → Calls Tryz.prog 37 #[.slice aa m cc, .slice p q r] V' fun e w' => (∃ aa m cc, e = .returned (.slice aa m cc) ∧ Hid (HoldQ w.heap.size w' aa m cc L3)) ∧ Below wr.heap.size wr w') := Lib.hid (fun V V' aa m cc p q r bV hh b hq o => by
        have h2 := hh.out.below b
        have := rbytes_w aa m cc L2 p q r (QT.encRp x.rp) V' h2.1 hq h2.2.1.isB o.isB (by have := h2.1; omega)
        refine this.mono fun e w' z => ?_
        have bV' := bV.trans (b.mono bV.size)
        obtain ⟨z1, z2⟩ := HoldQ.of z (fin.out V' bV').1.size
        have e4 : L2 ++ (98 :: Lib.decDigits q ++ [58]) ++ QT.encRp x.rp = L3 := by rw [hL3, QT.bB, ← hq, List.append_assoc]
        rw [e4] at z1
        exact ⟨z1, bV'.trans (z2.mono bV'.size)⟩)
      clear hx f1 f2 f3 hnx hle hr hLk hkb hL1 hL2 hL3 e1 e2 e3 hnext hMlt hBlt cont step X1
      go_wp2_with fail
      clear t0 t1 t2 q0 q1 q2 q3 q4 q5 q6
      refine wp_region_noPanic ?_
      refine wp_region_held_drew (S := fun V => (Hid (Below wr.heap.size wr V) ∧ V.cell? ⟨w.heap.size, 2, none⟩ = some (.slice (some ⟨b, o, none⟩) n c) ∧ V.cell? ⟨b, o + k * 7, none⟩ = some (.int .i64 x.n) ∧ V.cell? ⟨b, o + k * 7 + 1, none⟩ = some (.int .i64 x.sq))) (by kernel_rfl) S0 (fun hHeld => ?_)
      refine rTk 0 ?_; try simp only [Act.put, rP1, rP2, rP3]
      refine rTk 1 ?_; try simp only [Act.put, rP1, rP2, rP3]
      refine rTk 2 ?_; try simp only [Act.put, rP1, rP2, rP3]
      refine rTk 3 ?_; try simp only [Act.put, rP1, rP2, rP3]
      refine rTk 4 ?_; try simp only [Act.put, rP1, rP2, rP3]
      refine rTk 5 ?_; try simp only [Act.put, rP1, rP2, rP3]
      refine rTk 6 ?_; try simp only [Act.put, rP1, rP2, rP3]
      refine rTk 7 ?_; try simp only [Act.put, rP1, rP2, rP3]
      refine rTk 9 ?_; try simp only [Act.put, rP1, rP2, rP3]
      refine rTk 10 ?_; try simp only [Act.put, rP1, rP2, rP3]
      refine rTk 11 ?_; try simp only [Act.put, rP1, rP2, rP3]
      refine rTk 12 ?_; try simp only [Act.put, rP1, rP2, rP3]
      refine rTk 13 ?_; try simp only [Act.put, rP1, rP2, rP3]
      refine rTk 14 ?_; try simp only [Act.put, rP1, rP2, rP3]
      refine rTk 15 ?_; try simp only [Act.put, rP1, rP2, rP3]
      refine rBr 8 fun K hK => ?_
      go_simp
      go_at_call 36
      refine (C1.out _ _ _ _ ?_ X3).mono ?_
      assumption
      rintro e v1 ⟨⟨g1, g2, g3, rfl, r1⟩, k1⟩
      clear C1 X3
      try (go_wp2_with fail)
      refine hK.out _ _ (by (try dsimp only); assumption) (fun hHeld => ?_)
      clear hK K
      try simp only [Act.put, rP1, rP2, rP3]
      refine rBr 16 fun K hK => ?_
      go_simp
      go_at_call 36
      refine (C2.out _ _ _ _ ?_ r1).mono ?_
      assumption
      rintro e v2 ⟨⟨j1, j2, j3, rfl, r2⟩, k2⟩
      clear C2 r1
      try (go_wp2_with fail)
      refine hK.out _ _ (by (try dsimp only); assumption) (fun hHeld => ?_)
      clear hK K
      try simp only [Act.put, rP1, rP2, rP3]
      refine rTk 17 ?_; try simp only [Act.put, rP1, rP2, rP3]
      refine wpAnyH_done (by kernel_rfl) ?_ _
      refine NoPanic.normal ?_
      have K2 := Lib.hid k2.1.out
      obtain ⟨m0, m1, m2, m3, m4, m5⟩ := more.out v2 K2.out
      clear S0 k1 k2 hHeld
      go_wp2_with fail
      refine (C3.out v2).mono ?_
      rintro e v4 ⟨⟨g1, g2, g3, rfl, hg, og, _⟩, b4⟩
      have C5 := Lib.hid (C4.out v2 v4 j1 j2 j3 g1 g2 g3 K2.out r2 b4 hg og)
      clear C3 C4 r2 b4 hg og m0 m1 m2 m3 m4 m5
      go_wp2_with fail
      refine C5.out.mono ?_
      rintro e v5 ⟨⟨y1, y2, y3, rfl, r5⟩, b5⟩
      have FX := Lib.hid (fin.out v5 b5)
      clear C5 b5 fin more
      go_wp2
      exact ⟨⟨k + 1, y1, y2, y3, hlt, by simp, rfl, by rw [Hnext.out]; exact r5, Lib.hid FX.out.1, Lib.hid FX.out.2⟩, by simp [intOf]; omega⟩
    · obtain rfl : n = k := by omega
      have X7 : Hid (HoldQ w.heap.size wr a' n' c' (LB ++ QT.encL QT.encSn L)) := Lib.hid (by have := X1.out; rw [List.take_of_length_le (by have := l1.out; omega)] at this; exact this)
      clear X1
      go_wp2
      go_ret
      exact ⟨⟨a', n', c', rfl, X7.out⟩, Bv.out⟩
end Go.Proofs.YtkanjdijmdjbaaaGreatDoor
