/-
  The document's answer of layer 1: ReadBytes, ReadBool, ReadCount, by contracts.
  Conditions: what the reader holds reads as bytes and is at most 2^47 bytes long; the bound is from 0 to 2^62.
-/
import Derived.Test.YtbgockggbpmhnaaGreatDoorRefB
import Derived.Test.YtbgockggbpmhnaaGreatDoorCount
namespace Go.Proofs.YtbgockggbpmhnaaGreatDoor
open Go Go.RowKit

set_option maxRecDepth 100000 in
set_option maxHeartbeats 2000000 in
/-- ReadBytes. -/
theorem rreadBytes_any (a : Option Addr) (c k : Nat) (l : List UInt8) (most : Int) (w : World) (hv : IsB w (.slice a l.length c) l) (hm : 0 ≤ most) (hm2 : most ≤ 4611686018427387904) (hl47 : l.length ≤ roomB) :
    Calls Tryz.prog 35 #[.agg #[.slice a l.length c, .int .i64 k], .int .i64 most] w fun v w' => RRunR w w' v (PK.runP 98 most l k) := by
  have HR := Lib.hid (fun W (h : IsB W (.slice a l.length c) l) => rrun_any a c k l 98 98 most W h rfl hm hm2 hl47)
  have Hv := Lib.hid hv
  clear hv hm hm2 hl47
  generalize PK.runP 98 most l k = R at *
  go_enter Tryz.func35, Tryz.ntmps35
  go_wp2_with fail
  refine (HR.out _ ((Hv.out.alloc _).alloc _)).mono ?_
  rintro v w1 ⟨⟨a1, c1, a2, c2, rfl, i1, i2⟩, b1⟩
  obtain ⟨g1, g2, bb⟩ := own2 b1
  obtain ⟨p0, p1, q0, q1⟩ := cells2 g2
  have h3 := stored2 g2 (.slice a1 R.2.1.length c1) (.int .i64 (R.2.2 : Nat))
  obtain ⟨e0, e1, _, _⟩ := cells2 h3
  have E0 := Lib.hid e0
  have E1 := Lib.hid e1
  have BB := Lib.hid (two_stores bb (M := w.heap.size + 1) (by omega) (.slice a1 R.2.1.length c1) (.int .i64 (R.2.2 : Nat)))
  -- what the call gave lies in other blocks than the result's
  have ff : Fr (fun j => j = w.heap.size + 1) w1 ((w1.setCell ⟨w.heap.size + 1, 0, none⟩ (.slice a1 R.2.1.length c1)).setCell ⟨w.heap.size + 1, 1, none⟩ (.int .i64 (R.2.2 : Nat))) := Fr.setCell (X := fun j => j = w.heap.size + 1) (Fr.setCell (X := fun j => j = w.heap.size + 1) (Fr.refl _ _) (fun _ => rfl) _) (fun _ => rfl) _
  have keep : ∀ {v : Value} {m : List UInt8}, IsB w1 v m → IsB ((w1.setCell ⟨w.heap.size + 1, 0, none⟩ (.slice a1 R.2.1.length c1)).setCell ⟨w.heap.size + 1, 1, none⟩ (.int .i64 (R.2.2 : Nat))) v m := by
    intro v m h
    by_cases hl : m = []
    · subst hl; exact h.empty
    · exact h.kept ff (fun b hb e => h.apart2 g2 (by simp) (by simp) hl (by rw [hb, e]))
  have I1 := Lib.hid (keep i1)
  have I2 := Lib.hid (keep i2)
  clear b1 g1 g2 bb h3 e0 e1 ff keep i1 i2 HR
  go_wp2
  generalize ((w1.setCell ⟨w.heap.size + 1, 0, none⟩ (.slice a1 R.2.1.length c1)).setCell ⟨w.heap.size + 1, 1, none⟩ (.int .i64 (R.2.2 : Nat))) = W at *
  refine bodyPost_ret (v := .tuple #[.agg #[.slice a1 R.2.1.length c1, .int .i64 (R.2.2 : Nat)], .slice a2 R.1.length c2]) (by simp [results, Tryz.results35, go_sem, E0.out, E1.out]) rfl ?_
  exact ⟨⟨a1, c1, a2, c2, rfl, I1.out, I2.out⟩, BB.out⟩

/-- What ReadBool and ReadCount answer. -/
def RValR (w w' : World) (v : Ending) (x : Value) (l : List UInt8) (k : Nat) : Prop :=
  (∃ a c, v = .returned (.tuple #[.agg #[.slice a l.length c, .int .i64 (k : Nat)], x]) ∧ IsB w' (.slice a l.length c) l) ∧ Below w.heap.size w w'

set_option maxRecDepth 100000 in
set_option maxHeartbeats 2000000 in
/-- ReadBool. -/
theorem rreadBool_any (a : Option Addr) (c k : Nat) (l : List UInt8) (w : World) (hv : IsB w (.slice a l.length c) l) :
    Calls Tryz.prog 34 #[.agg #[.slice a l.length c, .int .i64 k]] w fun v w' => RValR w w' v (.bool (PK.boolP l k).1) (PK.boolP l k).2.1 (PK.boolP l k).2.2 := by
  have Hv := Lib.hid hv
  by_cases hk : k = 0
  · subst hk
    cases l with
    | nil =>
      have e : PK.boolP [] 0 = (false, [], 12) := PK.bool_nil
      rw [e]
      have HF := Lib.hid (fun W => fail_any a 0 c 0 12 W)
      simp only [if_true] at HF
      clear hv e
      go_enter Tryz.func34, Tryz.ntmps34
      go_wp2_with fail
      refine (HF.out _).mono ?_
      rintro v w1 ⟨rfl, b1⟩
      obtain ⟨g1, g2, bb⟩ := own2 b1
      obtain ⟨p0, p1, q0, q1⟩ := cells2 g2
      have h3 := stored2 g2 (.slice a 0 c) (.int .i64 (12 : Nat))
      obtain ⟨e0, e1, _, _⟩ := cells2 h3
      have E0 := Lib.hid e0
      have E1 := Lib.hid e1
      have BB := Lib.hid (two_stores bb (M := w.heap.size + 1) (by omega) (.slice a 0 c) (.int .i64 (12 : Nat)))
      clear b1 g1 g2 bb h3 e0 e1 HF
      go_wp2
      generalize ((w1.setCell ⟨w.heap.size + 1, 0, none⟩ (.slice a 0 c)).setCell ⟨w.heap.size + 1, 1, none⟩ (.int .i64 12)) = W at *
      refine bodyPost_ret (v := .tuple #[.agg #[.slice a 0 c, .int .i64 (12 : Nat)], .bool false]) (by simp [results, Tryz.results34, go_sem, E0.out, E1.out]) rfl ?_
      exact ⟨⟨a, c, rfl, Hv.out.empty⟩, BB.out⟩
    | cons b r =>
      obtain ⟨_, hl1, hl2, bk, o, rfl, hc⟩ := hv.open_cons (by simp)
      have hx0 := hc 0 (by simp)
      rw [Nat.add_zero, show at8 (b :: r) 0 = (b.toNat : Int) from by simp [at8]] at hx0
      have hbl : bk < w.heap.size := World.block_lt_of_cell? w _ hx0
      have hp : 0 < (b :: r).length := by simp
      have hp2 : (1 : Int) ≤ ((b :: r).length : Int) := by simp; omega
      have hz : (((b :: r).length : Int) == 0) = false := by rw [beq_eq_false_iff_ne]; omega
      by_cases hb : b = 121 ∨ b = 122
      · have e : PK.boolP (b :: r) 0 = (b == 121, r, 0) := by
          rcases hb with rfl | rfl <;> simp [PK.boolP, PK.begP]
        rw [e]
        obtain ⟨hsl, hv4⟩ := rest_from (Hv.out) 1 (by simp)
        rw [show ((1 : Nat) : Int) = 1 from rfl] at hsl
        have hr1 : (b :: r).drop 1 = r := rfl
        rw [hr1] at hv4
        have HV4 := Lib.hid hv4
        have Hrl : Hid ((b :: r).length - 1 = r.length) := Lib.hid (by simp)
        have hb121 : ((b.toNat : Int) == 121) = (b == 121) := by rcases hb with rfl | rfl <;> rfl
        have hne : ((b.toNat : Int) != 121) = false ∨ (((b.toNat : Int) != 121) = true ∧ ((b.toNat : Int) != 122) = false) := by
          rcases hb with rfl | rfl
          · exact .inl rfl
          · exact .inr ⟨rfl, rfl⟩
        have Hb := Lib.hid hb121
        generalize hlen : (b :: r).length = n at *
        have Hlen := Lib.hid hlen
        clear hv hc e hv4 hr1 hb hb121 hlen hl1 hl2
        generalize (b.toNat : Int) = x at *
        rcases hne with hne | ⟨hne, hne2⟩
        · go_enter Tryz.func34, Tryz.ntmps34
          go_wp2
          refine bodyPost_ret (v := .tuple #[.agg #[.slice (cutAt (some ⟨bk, o, none⟩) 1 c) (n - 1) (c - 1), .int .i64 0], .bool (x == 121)]) (by simp [results, Tryz.results34, go_sem]) rfl ?_
          rw [Hb.out, Hrl.out]
          rw [Hrl.out] at HV4
          exact ⟨⟨_, _, rfl, (HV4.out.alloc _).alloc _⟩, ((Below.refl _ _).alloc (Nat.le_refl _) _).alloc (by simp) _⟩
        · go_enter Tryz.func34, Tryz.ntmps34
          go_wp2
          refine bodyPost_ret (v := .tuple #[.agg #[.slice (cutAt (some ⟨bk, o, none⟩) 1 c) (n - 1) (c - 1), .int .i64 0], .bool (x == 121)]) (by simp [results, Tryz.results34, go_sem]) rfl ?_
          rw [Hb.out, Hrl.out]
          rw [Hrl.out] at HV4
          exact ⟨⟨_, _, rfl, (HV4.out.alloc _).alloc _⟩, ((Below.refl _ _).alloc (Nat.le_refl _) _).alloc (by simp) _⟩
      · have e : PK.boolP (b :: r) 0 = (false, b :: r, 3) := PK.bool_other b r (fun q => hb (.inl q)) (fun q => hb (.inr q))
        rw [e]
        have hn1 : ((b.toNat : Int) != 121) = true := by
          rw [bne_iff_ne]; intro q
          exact hb (.inl (UInt8.toNat_inj.1 (by show b.toNat = 121; omega)))
        have hn2 : ((b.toNat : Int) != 122) = true := by
          rw [bne_iff_ne]; intro q
          exact hb (.inr (UInt8.toNat_inj.1 (by show b.toNat = 122; omega)))
        have HF := Lib.hid (fun W => fail_any (some ⟨bk, o, none⟩) (b :: r).length c 0 3 W)
        simp only [if_true] at HF
        generalize hlen : (b :: r).length = n at *
        have Hlen := Lib.hid hlen
        clear hv hc e hb hlen hl1 hl2 hp2
        generalize (b.toNat : Int) = x at *
        go_enter Tryz.func34, Tryz.ntmps34
        go_wp2_with fail
        refine (HF.out _).mono ?_
        rintro v w1 ⟨rfl, b1⟩
        obtain ⟨g1, g2, bb⟩ := own2 b1
        obtain ⟨p0, p1, q0, q1⟩ := cells2 g2
        have h3 := stored2 g2 (.slice (some ⟨bk, o, none⟩) n c) (.int .i64 (3 : Nat))
        obtain ⟨e0, e1, _, _⟩ := cells2 h3
        have E0 := Lib.hid e0
        have E1 := Lib.hid e1
        have BB := Lib.hid (two_stores bb (M := w.heap.size + 1) (by omega) (.slice (some ⟨bk, o, none⟩) n c) (.int .i64 (3 : Nat)))
        clear b1 g1 g2 bb h3 e0 e1 HF
        go_wp2
        generalize ((w1.setCell ⟨w.heap.size + 1, 0, none⟩ (.slice (some ⟨bk, o, none⟩) n c)).setCell ⟨w.heap.size + 1, 1, none⟩ (.int .i64 3)) = W at *
        refine bodyPost_ret (v := .tuple #[.agg #[.slice (some ⟨bk, o, none⟩) n c, .int .i64 (3 : Nat)], .bool false]) (by simp [results, Tryz.results34, go_sem, E0.out, E1.out]) rfl ?_
        exact ⟨⟨some ⟨bk, o, none⟩, c, by rw [Hlen.out], by rw [Hlen.out]; exact Hv.out.below BB.out⟩, BB.out⟩
  · have e : PK.boolP l k = (false, l, k) := by unfold PK.boolP; rw [if_pos hk]
    rw [e]
    have hk1 : ((k : Int) != 0) = true := by rw [bne_iff_ne]; omega
    clear hv e hk
    go_enter Tryz.func34, Tryz.ntmps34
    go_wp2
    refine bodyPost_ret (v := .tuple #[.agg #[.slice a l.length c, .int .i64 (k : Nat)], .bool false]) (by simp [results, Tryz.results34, go_sem]) rfl ?_
    exact ⟨⟨_, _, rfl, (Hv.out.alloc _).alloc _⟩, ((Below.refl _ _).alloc (Nat.le_refl _) _).alloc (by simp) _⟩

theorem PK.count_ref (l : List UInt8) (k : Nat) : PK.countP 64 l k = if (PK.uintP 64 l k).2.2 ≠ 0 then (0, l, (PK.uintP 64 l k).2.2) else if (PK.uintP 64 l k).2.1.length < (PK.uintP 64 l k).1 then (0, l, 2) else PK.uintP 64 l k := rfl
theorem PK.uint64_le (l : List UInt8) (k : Nat) : (PK.uintP 64 l k).1 ≤ 64 := by
  unfold PK.uintP
  split
  · simp
  · split
    · simp
    · simp only; omega
set_option maxRecDepth 100000 in
set_option maxHeartbeats 4000000 in
/-- ReadCount up to 64. -/
theorem rreadCount_any (a : Option Addr) (c k : Nat) (l : List UInt8) (w : World) (hv : IsB w (.slice a l.length c) l) :
    Calls Tryz.prog 36 #[.agg #[.slice a l.length c, .int .i64 k], .int .i64 64] w fun v w' => RValR w w' v (.int .i64 ((PK.countP 64 l k).1 : Nat)) (PK.countP 64 l k).2.1 (PK.countP 64 l k).2.2 := by
  have HU := Lib.hid (fun W (h : IsB W (.slice a l.length c) l) => rreadUint_any a c k 64 l W h)
  have Hv := Lib.hid hv
  have hlm := hv.len
  rw [PK.count_ref]
  have hn64 := PK.uint64_le l k
  have hkn : k ≠ 0 → (PK.uintP 64 l k) = (0, l, k) := by
    intro h
    obtain ⟨j, rfl⟩ : ∃ j, k = j + 1 := ⟨k - 1, by omega⟩
    exact PK.uint_err 64 j l
  have Hkn := Lib.hid hkn
  have hl2m : (PK.uintP 64 l k).2.1.length ≤ l.length := by
    unfold PK.uintP
    split
    · exact Nat.le_refl _
    · split
      · exact Nat.le_refl _
      · simp
  have hl63 : ((PK.uintP 64 l k).2.1.length : Int) ≤ 9223372036854775807 := by simp only [maxLen] at hlm; omega
  have Hlm := Lib.hid hlm
  clear hv hkn hl2m hlm
  generalize PK.uintP 64 l k = R at *
  obtain ⟨n, l2, e2⟩ := R
  simp only at hn64 hl63 HU ⊢
  go_enter Tryz.func36, Tryz.ntmps36
  go_wp2_with fail
  refine (HU.out _ ((Hv.out.alloc _).alloc _)).mono ?_
  rintro v w1 ⟨⟨a1, c1, rfl, i1⟩, b1⟩
  obtain ⟨g1, g2, bb⟩ := own2 b1
  obtain ⟨d0, d1, z0, z1⟩ := cells2 g1
  obtain ⟨p0, p1, q0, q1⟩ := cells2 g2
  have G2 := Lib.hid g2
  have BB1 := Lib.hid bb
  have I1 := Lib.hid i1
  have hM : w.heap.size < w1.heap.size := (Array.getElem?_eq_some_iff.1 g1).1
  have hM1 : w.heap.size + 1 < w1.heap.size := (Array.getElem?_eq_some_iff.1 g2).1
  clear b1 g1 g2 bb HU i1
  have fin : Hid (∀ (A : Option Addr) (nn cc e : Nat) (w3 : World), Below w1.heap.size w1 w3 → (w3.cell? ⟨w.heap.size + 1, 0, none⟩ = some (.slice none 0 0) ∧ w3.cell? ⟨w.heap.size + 1, 1, none⟩ = some (.int .i64 0) ∧ w3.frozen? ⟨w.heap.size + 1, 0, none⟩ = false ∧ w3.frozen? ⟨w.heap.size + 1, 1, none⟩ = false) ∧
      ((w3.setCell ⟨w.heap.size + 1, 0, none⟩ (.slice A nn cc)).setCell ⟨w.heap.size + 1, 1, none⟩ (.int .i64 (e : Nat))).cell? ⟨w.heap.size + 1, 0, none⟩ = some (.slice A nn cc) ∧ ((w3.setCell ⟨w.heap.size + 1, 0, none⟩ (.slice A nn cc)).setCell ⟨w.heap.size + 1, 1, none⟩ (.int .i64 (e : Nat))).cell? ⟨w.heap.size + 1, 1, none⟩ = some (.int .i64 (e : Nat)) ∧
      Below w.heap.size w ((w3.setCell ⟨w.heap.size + 1, 0, none⟩ (.slice A nn cc)).setCell ⟨w.heap.size + 1, 1, none⟩ (.int .i64 (e : Nat)))) := by
    intro A nn cc e w3 b3
    have g3 := (b3.block (w.heap.size + 1) hM1).trans G2.out
    have h3 := stored2 g3 (.slice A nn cc) (.int .i64 (e : Nat))
    obtain ⟨e0, e1, _, _⟩ := cells2 h3
    exact ⟨cells2 g3, e0, e1, two_stores (BB1.out.trans (b3.mono BB1.out.size)) (M := w.heap.size + 1) (by omega) (.slice A nn cc) (.int .i64 (e : Nat))⟩
  by_cases he : e2 = 0
  · subst he
    have hk0 : k = 0 := by
      by_cases h : k = 0
      · exact h
      · have := Hkn.out h; simp at this; omega
    subst hk0
    have hwl : IntKind.u64.wrap (l2.length : Int) = (l2.length : Int) := by rw [IntKind.wrap_u64]; omega
    by_cases hr : l2.length < n
    · have hr2 : (l2.length : Int) < (n : Int) := by omega
      have Hr := Lib.hid hr
      have HF := Lib.hid (fun W => fail_any a l.length c 0 2 W)
      simp only [if_true] at HF
      clear hr
      go_wp2_with fail
      refine (HF.out _).mono ?_
      rintro v w3 ⟨rfl, b3⟩
      have b13 : Below w1.heap.size w1 w3 := ((Below.refl _ _).alloc (Nat.le_refl _) _).trans (b3.mono (by simp))
      obtain ⟨⟨p0, p1, q0, q1⟩, e0, e1, bb⟩ := fin.out a l.length c 2 w3 b13
      have E0 := Lib.hid e0
      have E1 := Lib.hid e1
      have BB := Lib.hid bb
      clear b3 b13 e0 e1 bb HF fin
      go_wp2
      generalize ((w3.setCell ⟨w.heap.size + 1, 0, none⟩ (.slice a l.length c)).setCell ⟨w.heap.size + 1, 1, none⟩ (.int .i64 2)) = W at *
      refine bodyPost_ret (v := .tuple #[.agg #[.slice a l.length c, .int .i64 (2 : Nat)], .int .i64 0]) (by simp [results, Tryz.results36, go_sem, E0.out, E1.out]) rfl ?_
      exact ⟨⟨a, c, rfl, Hv.out.below BB.out⟩, BB.out⟩
    · have hr2 : ¬ ((l2.length : Int) < (n : Int)) := by omega
      have hn0 : (n : Int) ≤ 64 := by omega
      have Hr := Lib.hid hr
      obtain ⟨_, e0, e1, bb⟩ := fin.out a1 l2.length c1 0 w1 (Below.refl _ _)
      have hff : Fr (fun j => j = w.heap.size + 1) w1 ((w1.setCell ⟨w.heap.size + 1, 0, none⟩ (.slice a1 l2.length c1)).setCell ⟨w.heap.size + 1, 1, none⟩ (.int .i64 (0 : Nat))) :=
        Fr.setCell (X := fun j => j = w.heap.size + 1) (Fr.setCell (X := fun j => j = w.heap.size + 1) (Fr.refl _ _) (fun _ => rfl) _) (fun _ => rfl) _
      have I2 : Hid (IsB ((w1.setCell ⟨w.heap.size + 1, 0, none⟩ (.slice a1 l2.length c1)).setCell ⟨w.heap.size + 1, 1, none⟩ (.int .i64 (0 : Nat))) (.slice a1 l2.length c1) l2) := by
        by_cases hl : l2 = []
        · subst hl; exact I1.out.empty
        · exact I1.out.kept hff (fun b hb e => I1.out.apart2 G2.out (by simp) (by simp) hl (by rw [hb, e]))
      have hsz : w.heap.size + 1 < ((w1.setCell ⟨w.heap.size + 1, 0, none⟩ (.slice a1 l2.length c1)).setCell ⟨w.heap.size + 1, 1, none⟩ (.int .i64 (0 : Nat))).heap.size := by simp [World.setCell]; exact hM1
      have hge : w.heap.size ≤ ((w1.setCell ⟨w.heap.size + 1, 0, none⟩ (.slice a1 l2.length c1)).setCell ⟨w.heap.size + 1, 1, none⟩ (.int .i64 (0 : Nat))).heap.size := by omega
      have E0 := Lib.hid e0
      have E1 := Lib.hid e1
      have BB := Lib.hid bb
      have Hsz := Lib.hid hsz
      have Hge := Lib.hid hge
      clear hr e0 e1 bb hff fin hsz hge
      go_wp2
      generalize (w1.setCell ⟨w.heap.size + 1, 0, none⟩ (.slice a1 l2.length c1)).setCell ⟨w.heap.size + 1, 1, none⟩ (.int .i64 0) = W at *
      have f0 := (World.cell?_alloc_lt W (.cells #[.slice a1 l2.length c1, .int .i64 0] 63) ⟨w.heap.size + 1, 0, none⟩ Hsz.out).trans E0.out
      have f1 := (World.cell?_alloc_lt W (.cells #[.slice a1 l2.length c1, .int .i64 0] 63) ⟨w.heap.size + 1, 1, none⟩ Hsz.out).trans E1.out
      refine bodyPost_ret (v := .tuple #[.agg #[.slice a1 l2.length c1, .int .i64 (0 : Nat)], .int .i64 (n : Nat)]) (by simp [results, Tryz.results36, go_sem, f0, f1]) rfl ?_
      exact ⟨⟨a1, c1, rfl, I2.out.alloc _⟩, BB.out.alloc Hge.out _⟩
  · have he1 : ((e2 : Int) != 0) = true := by rw [bne_iff_ne]; omega
    have hif : (if k = 0 then e2 else k) = e2 := by
      by_cases h : k = 0
      · rw [if_pos h]
      · rw [if_neg h]; have := Hkn.out h; simp at this; exact this.2.2.symm
    have HF := Lib.hid (fun W => fail_any a l.length c k e2 W)
    rw [hif] at HF
    have He := Lib.hid he
    clear hif he
    go_wp2_with fail
    refine (HF.out _).mono ?_
    rintro v w3 ⟨rfl, b3⟩
    have b13 : Below w1.heap.size w1 w3 := ((Below.refl _ _).alloc (Nat.le_refl _) _).trans (b3.mono (by simp))
    obtain ⟨⟨p0, p1, q0, q1⟩, e0, e1, bb⟩ := fin.out a l.length c e2 w3 b13
    have E0 := Lib.hid e0
    have E1 := Lib.hid e1
    have BB := Lib.hid bb
    clear b3 b13 e0 e1 bb HF fin
    go_wp2
    generalize ((w3.setCell ⟨w.heap.size + 1, 0, none⟩ (.slice a l.length c)).setCell ⟨w.heap.size + 1, 1, none⟩ (.int .i64 e2)) = W at *
    refine bodyPost_ret (v := .tuple #[.agg #[.slice a l.length c, .int .i64 (e2 : Nat)], .int .i64 0]) (by simp [results, Tryz.results36, go_sem, E0.out, E1.out]) rfl ?_
    exact ⟨⟨a, c, rfl, Hv.out.below BB.out⟩, BB.out⟩
end Go.Proofs.YtbgockggbpmhnaaGreatDoor
