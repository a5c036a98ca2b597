/-
  pack.Reader's run by a contract (Text and Bytes read by it).
  Conditions: the listed variables read as listed ('Env'); what is read is at most 2^47 bytes long.
  pack.Reader's Text and Bytes, by contracts.
  pack.Reader's Count up to 64 by a contract.
  Conditions: the listed variables read as listed ('Env').
-/
import Derived.Test.YtkanjdijmdjbaaaGreatDoorG10
namespace Go.Proofs.YtkanjdijmdjbaaaGreatDoor
open Go Go.RowKit

/-- What run answers. -/
def RunR (N : Nat) (w w' : World) (v : Ending) (r : List UInt8 × List UInt8 × Nat) : Prop :=
  (∃ a n c, v = .returned (.slice a n c) ∧ r.1.length = n ∧ OwnB w' (.slice a n c) r.1) ∧ Rd w' N r.2.1 r.2.2 ∧ Fr (fun i => i = N) w w'

set_option maxRecDepth 100000 in
set_option maxHeartbeats 2000000 in
/-- run, where a number cannot be read. -/
theorem run_bad (N : Nat) (l : List UInt8) (k e : Nat) (t : ByteArray) (lc : UInt8) (most : Int) (w : World) (hE : Env w) (h : Rd w N l k) (ht : t.data.toList = [lc]) (hk : ¬ (k = 0 ∧ most < 0)) (he : PK.numP lc 58 1 l k = (0, 0, false, e)) :
    Calls Tryz.prog 53 #[.pointer (some ⟨N, 0, none⟩), .string t, .int .i64 most] w fun v w' => RunR N w w' v ([], l, e) := by
  have HC := Lib.hid (number_any N 1 l k t lc 58 58 w hE h ht rfl (fun h => List.length_pos_iff.2 h))
  rw [he] at HC
  unfold numV at HC
  obtain ⟨_, a, c, hh, _⟩ := h
  obtain ⟨p0, p1, _, _⟩ := cells2 hh
  clear hE ht he hh
  rcases Nat.eq_zero_or_pos k with rfl | hk0
  · have hm : 0 ≤ most := by omega
    replace p1 : w.cell? ⟨N, 1, none⟩ = some .nilIface := p1
    have hm1 : ¬ (most < 0) := by omega
    clear hk
    go_enter Tryz.func53, Tryz.ntmps53
    go_wp2_with fail
    refine HC.out.mono ?_
    rintro v w1 ⟨rfl, r1, f1⟩
    have R1 := Lib.hid r1
    have F1 := Lib.hid f1
    clear r1 f1
    go_wp2
    go_ret
    exact ⟨⟨none, 0, 0, rfl, rfl, OwnB.nil _⟩, R1.out, F1.out⟩
  · obtain ⟨j, rfl⟩ : ∃ j, k = j + 1 := ⟨k - 1, by omega⟩
    clear hk hk0
    go_enter Tryz.func53, Tryz.ntmps53
    unfold errV at p1
    go_wp2_with fail
    refine HC.out.mono ?_
    rintro v w1 ⟨rfl, r1, f1⟩
    have R1 := Lib.hid r1
    have F1 := Lib.hid f1
    clear r1 f1
    go_wp2
    go_ret
    exact ⟨⟨none, 0, 0, rfl, rfl, OwnB.nil _⟩, R1.out, F1.out⟩

set_option maxRecDepth 100000 in
set_option maxHeartbeats 2000000 in
/-- run, with a bound below 0. -/
theorem run_neg (N : Nat) (l : List UInt8) (t : ByteArray) (lc : UInt8) (most : Int) (w : World) (hE : Env w) (h : Rd w N l 0) (ht : t.data.toList = [lc]) (hk : most < 0) :
    Calls Tryz.prog 53 #[.pointer (some ⟨N, 0, none⟩), .string t, .int .i64 most] w fun v w' => RunR N w w' v ([], l, 1) := by
  have HF := Lib.hid (fails_yes N l 0 1 0 w h (by simp))
  have HC : Hid (∀ w1, Rd w1 N l 1 → Fr (fun i => i = N) w w1 → Calls Tryz.prog 101 #[.pointer (some ⟨N, 0, none⟩), .string t, .int .u8 58, .int .i64 (1 : Nat)] w1 fun v w' => v = .returned (numV (0, 0, false, 1)) ∧ Rd w' N l 1 ∧ Fr (fun i => i = N) w w') := by
    intro w1 r1 f1
    have := number_any N 1 l 1 t lc 58 58 w1 (hE.rd f1 h.glob) r1 ht rfl (fun h => List.length_pos_iff.2 h)
    rw [show PK.numP lc 58 1 l 1 = (0, 0, false, 1) from by unfold PK.numP; rw [if_pos (by simp)]] at this
    exact this.mono fun e w' hh => ⟨hh.1, hh.2.1, f1.trans hh.2.2⟩
  obtain ⟨_, a, c, hh, _⟩ := h
  obtain ⟨p0, p1, _, _⟩ := cells2 hh
  replace p1 : w.cell? ⟨N, 1, none⟩ = some .nilIface := p1
  unfold numV at HC
  clear hE ht hh
  go_enter Tryz.func53, Tryz.ntmps53
  go_wp2_with fail
  refine HF.out.mono ?_
  rintro v w1 ⟨rfl, r1, f1⟩
  have H1 := Lib.hid (HC.out w1 r1 f1)
  clear HF HC r1 f1 p0 p1
  go_wp2_with fail
  refine H1.out.mono ?_
  rintro v w2 ⟨rfl, r2, f2⟩
  have R2 := Lib.hid r2
  have F2 := Lib.hid f2
  clear r2 f2
  go_wp2
  go_ret
  exact ⟨⟨none, 0, 0, rfl, rfl, OwnB.nil _⟩, R2.out, F2.out⟩

set_option maxRecDepth 100000 in
set_option maxHeartbeats 4000000 in
/-- run, where a number is read. -/
theorem run_ok (N : Nat) (l : List UInt8) (n e : Nat) (t : ByteArray) (lc : UInt8) (most : Int) (w : World) (hE : Env w) (h : Rd w N l 0) (ht : t.data.toList = [lc]) (hm : 0 ≤ most) (hm2 : most ≤ 9223372036854775807) (hn : n < 18446744073709551616) (hel : e ≤ l.length) (hl47 : l.length ≤ roomB)
    (he : PK.numP lc 58 1 l 0 = (n, e, true, 0)) :
    Calls Tryz.prog 53 #[.pointer (some ⟨N, 0, none⟩), .string t, .int .i64 most] w fun v w' => RunR N w w' v
      (if most < (n : Int) then ([], l, 2) else if l.length - e < n then ([], l, 12) else ((l.drop e).take n, l.drop (e + n), 0)) := by
  have HC := Lib.hid (number_any N 1 l 0 t lc 58 58 w hE h ht rfl (fun h => List.length_pos_iff.2 h))
  rw [he] at HC
  unfold numV at HC
  obtain ⟨_, a, c, hh, _⟩ := h
  obtain ⟨p0, p1, _, _⟩ := cells2 hh
  replace p1 : w.cell? ⟨N, 1, none⟩ = some .nilIface := p1
  have hm1 : ¬ (most < 0) := by omega
  have hwm : IntKind.u64.wrap most = most := by rw [IntKind.wrap_u64]; omega
  clear hE ht he hh
  by_cases hg : most < (n : Int)
  · rw [if_pos hg]
    clear hn hel hl47 hm2
    go_enter Tryz.func53, Tryz.ntmps53
    go_wp2_with fail
    refine HC.out.mono ?_
    rintro v w1 ⟨rfl, r1, f1⟩
    have F1 := Lib.hid f1
    have HF := Lib.hid (fails_yes N l 0 2 1 w1 r1 (by simp))
    clear r1 f1 p0 p1 HC
    go_wp2_with fail
    refine HF.out.mono ?_
    rintro v w2 ⟨rfl, r2, f2⟩
    have R2 := Lib.hid r2
    have F2 := Lib.hid f2
    clear r2 f2
    go_wp2
    go_ret
    exact ⟨⟨none, 0, 0, rfl, rfl, OwnB.nil _⟩, R2.out, F1.out.trans F2.out⟩
  · rw [if_neg hg]
    have hw2 : IntKind.i64.wrap ((l.length : Int) - (e : Int)) = (l.length : Int) - e := by simp only [roomB] at hl47; rw [IntKind.wrap_i64]; omega
    have hw3 : IntKind.u64.wrap ((l.length : Int) - (e : Int)) = (l.length : Int) - e := by simp only [roomB] at hl47; rw [IntKind.wrap_u64]; omega
    by_cases hr : l.length - e < n
    · rw [if_pos hr]
      have hr2 : (l.length : Int) - e < n := by omega
      clear hn hel hl47 hm2 hr
      go_enter Tryz.func53, Tryz.ntmps53
      go_wp2_with fail
      refine HC.out.mono ?_
      rintro v w1 ⟨rfl, r1, f1⟩
      have F1 := Lib.hid f1
      have HF := Lib.hid (fails_yes N l 0 12 11 w1 r1 (by simp))
      obtain ⟨_, a1, c1, hh, _⟩ := r1
      obtain ⟨p0, p1, _, _⟩ := cells2 hh
      clear f1 HC hh
      go_wp2_with fail
      refine HF.out.mono ?_
      rintro v w2 ⟨rfl, r2, f2⟩
      have R2 := Lib.hid r2
      have F2 := Lib.hid f2
      clear r2 f2
      go_wp2
      go_ret
      exact ⟨⟨none, 0, 0, rfl, rfl, OwnB.nil _⟩, R2.out, F1.out.trans F2.out⟩
    · rw [if_neg hr]
      have hr2 : ¬ ((l.length : Int) - e < n) := by omega
      have hw4 : IntKind.i64.wrap (n : Int) = n := by simp only [roomB] at hl47; rw [IntKind.wrap_i64]; omega
      have hw5 : IntKind.i64.wrap ((e : Int) + (n : Int)) = (e : Int) + n := by simp only [roomB] at hl47; rw [IntKind.wrap_i64]; omega
      have Hen : Hid (e + n ≤ l.length) := Lib.hid (by omega)
      have Hl := Lib.hid hl47
      clear hn hel hl47 hm2 hr
      go_enter Tryz.func53, Tryz.ntmps53
      go_wp2_with fail
      refine HC.out.mono ?_
      rintro v w1 ⟨rfl, r1, f1⟩
      have F1 := Lib.hid f1
      have R1 := Lib.hid r1
      obtain ⟨_, a1, c1, hh, hv⟩ := r1
      obtain ⟨q0, q1, _, _⟩ := cells2 hh
      have hcut := isB_cut hv e (e + n) (by omega) Hen.out
      have hs1 : ∀ W : World, (Instr.sliceAt 22 (.slice a1 l.length c1) (some (.int .i64 (e : Int))) (some (.int .i64 ((e : Int) + n))) none).run Tryz.prog W = .ok (.slice (cutAt a1 e c1) n (c1 - e)) W := by
        intro W
        have hcl : l.length ≤ c1 := by obtain ⟨_, cap', he', h1, _⟩ := hv; simp at he'; omega
        have hle := Hen.out
        have := run_sliceAt_lh T22 a1 l.length c1 (e : Int) ((e : Int) + n) (by omega) (by omega) (by omega) W
        rw [this]
        congr 2
        · congr 1
          omega
      have HK : Hid (Calls Tryz.prog 82 #[.slice (cutAt a1 e c1) n (c1 - e)] w1 fun e' w' => (∃ a' c', e' = .returned (.slice a' n c') ∧ OwnB w' (.slice a' n c') ((l.drop e).take n) ∧ ∀ b, Value.ownBlock (.slice a' n c') = some b → w1.heap.size ≤ b) ∧ Below w1.heap.size w1 w') := by
        have hlist : (l.take (e + n)).drop e = (l.drop e).take n := by rw [List.drop_take]; congr 1; omega
        have hlen : ((l.drop e).take n).length = n := by have := Hen.out; simp; omega
        have h2 := hcut.1
        rw [hlist, show e + n - e = n from by omega] at h2
        refine (clone_any _ _ w1 h2 (by rw [hlen]; have := Hen.out; have := Hl.out; omega)).mono ?_
        rintro e' w' ⟨⟨a', c', rfl, o, o2⟩, b⟩
        rw [hlen] at o o2 ⊢
        exact ⟨⟨a', c', rfl, o, o2⟩, b⟩
      clear f1 HC hh hv hcut p0 p1
      go_wp2_with fail
      refine HK.out.mono ?_
      rintro v w2 ⟨⟨a2, c2, rfl, o2, ob2⟩, b2⟩
      have R2 := Lib.hid (R1.out.below b2)
      have hN : N < w1.heap.size := R1.out.lt
      obtain ⟨_, a3, c3, hh3, hv3⟩ := R2.out
      obtain ⟨s0, _, z0, _⟩ := cells2 hh3
      obtain ⟨hsl, hv4⟩ := rest_from hv3 (e + n) Hen.out
      rw [show ((e + n : Nat) : Int) = (e : Int) + n from by simp] at hsl
      obtain ⟨R4, F4⟩ := R2.out.setRest (cutAt a3 (e + n) c3) (l.length - (e + n)) (c3 - (e + n)) (by simp) hv4
      have O4 := Lib.hid (o2.kept F4 (fun b hb e' => by have := ob2 b hb; omega))
      have HR4 := Lib.hid R4
      have FF : Hid (Fr (fun i => i = N) w (w2.setCell ⟨N, 0, none⟩ (.slice (cutAt a3 (e + n) c3) (l.length - (e + n)) (c3 - (e + n))))) := F1.out.trans ((Fr.of_below b2).trans F4)
      have HlenN : Hid (((l.drop e).take n).length = n) := Lib.hid (by have := Hen.out; simp; omega)
      clear hh3 hv3 hv4 R4 F4 o2 ob2 b2 hN HK q0 q1 hs1
      go_wp2
      go_ret
      exact ⟨⟨a2, n, c2, rfl, HlenN.out, O4.out⟩, HR4.out, FF.out⟩
theorem run_any (N : Nat) (l : List UInt8) (k : Nat) (t : ByteArray) (lc : UInt8) (most : Int) (w : World) (hE : Env w) (h : Rd w N l k) (ht : t.data.toList = [lc]) (hm2 : most ≤ 9223372036854775807) (hl47 : l.length ≤ roomB) :
    Calls Tryz.prog 53 #[.pointer (some ⟨N, 0, none⟩), .string t, .int .i64 most] w fun v w' => RunR N w w' v (PK.runP lc most l k) := by
  by_cases hk : k = 0 ∧ most < 0
  · have e : PK.runP lc most l k = ([], l, 1) := by unfold PK.runP; rw [if_pos hk]
    obtain ⟨rfl, hm⟩ := hk
    rw [e]
    exact run_neg N l t lc most w hE h ht hm
  · rcases PK.numP_cases lc 58 1 l k with ⟨e, he, _⟩ | ⟨h1, h2, h3, h4⟩
    · have er : PK.runP lc most l k = ([], l, e + 1) := by unfold PK.runP; rw [if_neg hk, if_pos (by rw [he]), he]
      rw [er]
      exact run_bad N l k (e + 1) t lc most w hE h ht hk he
    · obtain ⟨k0, _, _, b2, b3, _⟩ := PK.numP_ok (lc := lc) (s := 58) (f := 1) (l := l) (k := k) (by rw [h4])
      subst k0
      have er : PK.runP lc most l 0 = if most < ((PK.numP lc 58 1 l 0).1 : Int) then ([], l, 2) else if l.length - (PK.numP lc 58 1 l 0).2.1 < (PK.numP lc 58 1 l 0).1 then ([], l, 12) else ((l.drop (PK.numP lc 58 1 l 0).2.1).take (PK.numP lc 58 1 l 0).1, l.drop ((PK.numP lc 58 1 l 0).2.1 + (PK.numP lc 58 1 l 0).1), 0) := by
        unfold PK.runP
        rw [if_neg hk, if_neg (by rw [h4]; simp)]
      rw [er]
      have he : PK.numP lc 58 1 l 0 = ((PK.numP lc 58 1 l 0).1, (PK.numP lc 58 1 l 0).2.1, true, 0) := by rw [h4]
      generalize (PK.numP lc 58 1 l 0).1 = n at *
      generalize (PK.numP lc 58 1 l 0).2.1 = e at *
      exact run_ok N l n e t lc most w hE h ht (by omega) hm2 b3 b2 hl47 he

/-- Bytes. -/
theorem bytes_any (N : Nat) (l : List UInt8) (k : Nat) (most : Int) (w : World) (hE : Env w) (h : Rd w N l k) (hm2 : most ≤ 9223372036854775807) (hl47 : l.length ≤ roomB) :
    Calls Tryz.prog 17 #[.pointer (some ⟨N, 0, none⟩), .int .i64 most] w fun v w' => RunR N w w' v (PK.runP 98 most l k) := by
  have HC := Lib.hid (run_any N l k ⟨#[98]⟩ 98 most w hE h rfl hm2 hl47)
  clear hE h hm2 hl47
  generalize PK.runP 98 most l k = R at *
  go_enter Tryz.func17, Tryz.ntmps17
  go_wp2_with fail
  refine HC.out.mono ?_
  rintro v w1 ⟨⟨a, n, c, rfl, h1⟩, h2⟩
  have H1 := Lib.hid h1
  have H2 := Lib.hid h2
  clear h1 h2 HC
  go_wp2
  go_ret
  exact ⟨⟨a, n, c, rfl, H1.out⟩, H2.out⟩

/-- Text. -/
theorem text_any (N : Nat) (l : List UInt8) (k : Nat) (most : Int) (w : World) (hE : Env w) (h : Rd w N l k) (hm2 : most ≤ 9223372036854775807) (hl47 : l.length ≤ roomB) :
    Calls Tryz.prog 48 #[.pointer (some ⟨N, 0, none⟩), .int .i64 most] w fun v w' => v = .returned (.string (str (PK.runP 116 most l k).1)) ∧ Rd w' N (PK.runP 116 most l k).2.1 (PK.runP 116 most l k).2.2 ∧ Fr (fun i => i = N) w w' := by
  have HC := Lib.hid (run_any N l k ⟨#[116]⟩ 116 most w hE h rfl hm2 hl47)
  clear hE h hm2 hl47
  generalize PK.runP 116 most l k = R at *
  go_enter Tryz.func48, Tryz.ntmps48
  go_wp2_with fail
  refine HC.out.mono ?_
  rintro v w1 ⟨⟨a, n, c, rfl, _, o1⟩, h2⟩
  have e1 := run_toStr T22 U9 o1.isB
  have H2 := Lib.hid h2
  clear o1 h2 HC
  go_wp2
  go_ret
  exact ⟨rfl, H2.out⟩
theorem PK.count_cases (l : List UInt8) (k : Nat) : (∃ e, PK.bndP 64 l k = (0, 0, false, e + 1) ∧ PK.countP 64 l k = (0, l, e + 1)) ∨
    (∃ n e, PK.bndP 64 l k = (n, e, true, 0) ∧ k = 0 ∧ n ≤ 64 ∧ e ≤ l.length ∧ PK.countP 64 l k = if l.length - e < n then (0, l, 2) else (n, l.drop e, 0)) := by
  have h64 : (64 : Int).toNat = 64 := rfl
  rcases PK.numP_cases 110 59 1 l k with ⟨e, he, _⟩ | ⟨h1, h2, h3, h4⟩
  · have hb : PK.bndP 64 l k = (0, 0, false, e + 1) := by unfold PK.bndP; rw [if_neg (by rw [he]; simp), he]
    have hu : PK.uintP 64 l k = (0, l, e + 1) := by unfold PK.uintP; rw [he]; simp
    refine .inl ⟨e, hb, ?_⟩
    unfold PK.countP
    rw [h64, hu]
    simp
  · have hok := PK.numP_ok (lc := 110) (s := 59) (f := 1) (l := l) (k := k) (by rw [h4])
    rw [h4] at hok
    obtain ⟨_, _, _, hle, _⟩ := hok
    generalize (PK.digs 59 (l.drop 1)).1 = n at *
    generalize 1 + (PK.digs 59 (l.drop 1)).2.1 + 1 = e at *
    by_cases hg : 64 < n
    · have hb : PK.bndP 64 l k = (0, 0, false, 4) := by unfold PK.bndP; rw [h4, if_pos ⟨rfl, hg⟩]
      have hu : PK.uintP 64 l k = (0, l, 4) := by unfold PK.uintP; rw [h4]; simp [hg]
      refine .inl ⟨3, hb, ?_⟩
      unfold PK.countP
      rw [h64, hu]
      simp
    · have hb : PK.bndP 64 l k = (n, e, true, 0) := by unfold PK.bndP; rw [h4, if_neg (by simp; omega)]
      have hu : PK.uintP 64 l k = (n, l.drop e, 0) := by unfold PK.uintP; rw [h4]; simp [hg]
      refine .inr ⟨n, e, hb, h1, by omega, hle, ?_⟩
      unfold PK.countP
      rw [h64, hu]
      simp

set_option maxHeartbeats 2000000 in
theorem count_any (N : Nat) (l : List UInt8) (k : Nat) (w : World) (hE : Env w) (h : Rd w N l k) :
    Calls Tryz.prog 18 #[.pointer (some ⟨N, 0, none⟩), .int .i64 64] w fun v w' => v = .returned (.int .i64 ((PK.countP 64 l k).1 : Nat)) ∧ Rd w' N (PK.countP 64 l k).2.1 (PK.countP 64 l k).2.2 ∧ Fr (fun i => i = N) w w' := by
  have HC := Lib.hid (bounded_any N 64 l k w hE h)
  have HL := Lib.hid h.lenBound
  clear hE h
  rcases PK.count_cases l k with ⟨e, hb, hc⟩ | ⟨n, e, hb, rfl, hn, he, hc⟩
  · rw [hb] at HC
    rw [hc]
    unfold numV at HC
    clear hb hc
    go_enter Tryz.func18, Tryz.ntmps18
    go_wp2_with fail
    refine HC.out.mono ?_
    rintro v w1 ⟨rfl, r1, f1⟩
    have R1 := Lib.hid r1
    have F1 := Lib.hid f1
    clear r1 f1 HC
    go_wp2
    go_ret
    exact ⟨rfl, R1.out, F1.out⟩
  · rw [hb] at HC
    rw [hc]
    unfold numV at HC
    have hl63 : (l.length : Int) ≤ 9223372036854775807 := by have := HL.out; simp only [maxLen] at this; omega
    have hw2 : IntKind.i64.wrap ((l.length : Int) - (e : Int)) = (l.length : Int) - e := by rw [IntKind.wrap_i64]; omega
    have hw3 : IntKind.u64.wrap ((l.length : Int) - (e : Int)) = (l.length : Int) - e := by rw [IntKind.wrap_u64]; omega
    have Hel : Hid (e ≤ l.length) := he
    by_cases hg : l.length - e < n
    · rw [if_pos hg]
      have hg2 : (l.length : Int) - e < (n : Int) := by omega
      clear hb hc hg hn he
      go_enter Tryz.func18, Tryz.ntmps18
      go_wp2_with fail
      refine HC.out.mono ?_
      rintro v w1 ⟨rfl, r1, f1⟩
      have F1 := Lib.hid f1
      have HF := Lib.hid (fails_yes N l 0 2 1 w1 r1 (by simp))
      obtain ⟨_, a1, c1, hh, _⟩ := r1
      obtain ⟨p0, p1, _, _⟩ := cells2 hh
      clear f1 HC hh
      go_wp2_with fail
      refine HF.out.mono ?_
      rintro v w2 ⟨rfl, r2, f2⟩
      have R2 := Lib.hid r2
      have F2 := Lib.hid f2
      clear r2 f2
      go_wp2
      go_ret
      exact ⟨rfl, R2.out, F1.out.trans F2.out⟩
    · rw [if_neg hg]
      have hg2 : ¬ ((l.length : Int) - e < (n : Int)) := by omega
      have hn0 : (n : Int) ≤ 64 := by omega
      clear hb hc hg hn he
      go_enter Tryz.func18, Tryz.ntmps18
      go_wp2_with fail
      refine HC.out.mono ?_
      rintro v w1 ⟨rfl, r1, f1⟩
      have F1 := Lib.hid f1
      obtain ⟨_, a, c, hh, hv⟩ := id r1
      obtain ⟨p0, p1, p2, p3⟩ := cells2 hh
      obtain ⟨hsl, hv2⟩ := rest_from hv e Hel.out
      obtain ⟨R3, F3⟩ := r1.setRest (cutAt a e c) (l.length - e) (c - e) (by simp) hv2
      have HR := Lib.hid R3
      have HF3 := Lib.hid F3
      clear r1 f1 hh hv hv2 R3 F3 HC
      go_wp2
      go_ret
      exact ⟨rfl, HR.out, F1.out.trans HF3.out⟩
end Go.Proofs.YtkanjdijmdjbaaaGreatDoor
