/-
  pack.Reader's run by a contract (Text and Bytes read by it).
  Conditions: the listed variables read as listed ('Env'); what is read is at most 2^47 bytes long.
-/
import Derived.Test.YtbgockggbpmhnaaGreatDoorRd6
namespace Go.Proofs.YtbgockggbpmhnaaGreatDoor
open Go Go.RowKit

/-- What run answers. -/
def RunR (N : Nat) (w w' : World) (v : Ending) (r : List UInt8 × List UInt8 × Nat) : Prop :=
  (∃ a n c, v = .returned (.slice a n c) ∧ r.1.length = n ∧ OwnB w' (.slice a n c) r.1) ∧ Rd w' N r.2.1 r.2.2 ∧ Fr (fun i => i = N) w w'

set_option maxRecDepth 100000 in
set_option maxHeartbeats 2000000 in
/-- run, where a number cannot be read. -/
theorem run_bad (N : Nat) (l : List UInt8) (k e : Nat) (t : ByteArray) (lc : UInt8) (most : Int) (w : World) (hE : Env w) (h : Rd w N l k) (ht : t.data.toList = [lc]) (hk : ¬ (k = 0 ∧ most < 0)) (he : PK.numP lc 58 1 l k = (0, 0, false, e)) :
    Calls Tryz.prog 60 #[.pointer (some ⟨N, 0, none⟩), .string t, .int .i64 most] w fun v w' => RunR N w w' v ([], l, e) := by
  have HC := Lib.hid (number_any N 1 l k t lc 58 58 w hE h ht rfl (fun h => List.length_pos_iff.2 h))
  rw [he] at HC
  unfold numV at HC
  obtain ⟨_, a, c, hh, _⟩ := h
  obtain ⟨p0, p1, _, _⟩ := cells2 hh
  clear hE ht he hh
  rcases Nat.eq_zero_or_pos k with rfl | hk0
  · have hm : 0 ≤ most := by omega
    replace p1 : w.cell? ⟨N, 1, none⟩ = some .nilIface := p1
    have hm1 : ¬ (most < 0) := by omega
    clear hk
    go_enter Tryz.func60, Tryz.ntmps60
    go_wp2_with fail
    refine HC.out.mono ?_
    rintro v w1 ⟨rfl, r1, f1⟩
    have R1 := Lib.hid r1
    have F1 := Lib.hid f1
    clear r1 f1
    go_wp2
    go_ret
    exact ⟨⟨none, 0, 0, rfl, rfl, OwnB.nil _⟩, R1.out, F1.out⟩
  · obtain ⟨j, rfl⟩ : ∃ j, k = j + 1 := ⟨k - 1, by omega⟩
    clear hk hk0
    go_enter Tryz.func60, Tryz.ntmps60
    unfold errV at p1
    go_wp2_with fail
    refine HC.out.mono ?_
    rintro v w1 ⟨rfl, r1, f1⟩
    have R1 := Lib.hid r1
    have F1 := Lib.hid f1
    clear r1 f1
    go_wp2
    go_ret
    exact ⟨⟨none, 0, 0, rfl, rfl, OwnB.nil _⟩, R1.out, F1.out⟩

set_option maxRecDepth 100000 in
set_option maxHeartbeats 2000000 in
/-- run, with a bound below 0. -/
theorem run_neg (N : Nat) (l : List UInt8) (t : ByteArray) (lc : UInt8) (most : Int) (w : World) (hE : Env w) (h : Rd w N l 0) (ht : t.data.toList = [lc]) (hk : most < 0) :
    Calls Tryz.prog 60 #[.pointer (some ⟨N, 0, none⟩), .string t, .int .i64 most] w fun v w' => RunR N w w' v ([], l, 1) := by
  have HF := Lib.hid (fails_yes N l 0 1 0 w h (by simp))
  have HC : Hid (∀ w1, Rd w1 N l 1 → Fr (fun i => i = N) w w1 → Calls Tryz.prog 81 #[.pointer (some ⟨N, 0, none⟩), .string t, .int .u8 58, .int .i64 (1 : Nat)] w1 fun v w' => v = .returned (numV (0, 0, false, 1)) ∧ Rd w' N l 1 ∧ Fr (fun i => i = N) w w') := by
    intro w1 r1 f1
    have := number_any N 1 l 1 t lc 58 58 w1 (hE.rd f1 h.glob) r1 ht rfl (fun h => List.length_pos_iff.2 h)
    rw [show PK.numP lc 58 1 l 1 = (0, 0, false, 1) from by unfold PK.numP; rw [if_pos (by simp)]] at this
    exact this.mono fun e w' hh => ⟨hh.1, hh.2.1, f1.trans hh.2.2⟩
  obtain ⟨_, a, c, hh, _⟩ := h
  obtain ⟨p0, p1, _, _⟩ := cells2 hh
  replace p1 : w.cell? ⟨N, 1, none⟩ = some .nilIface := p1
  unfold numV at HC
  clear hE ht hh
  go_enter Tryz.func60, Tryz.ntmps60
  go_wp2_with fail
  refine HF.out.mono ?_
  rintro v w1 ⟨rfl, r1, f1⟩
  have H1 := Lib.hid (HC.out w1 r1 f1)
  clear HF HC r1 f1 p0 p1
  go_wp2_with fail
  refine H1.out.mono ?_
  rintro v w2 ⟨rfl, r2, f2⟩
  have R2 := Lib.hid r2
  have F2 := Lib.hid f2
  clear r2 f2
  go_wp2
  go_ret
  exact ⟨⟨none, 0, 0, rfl, rfl, OwnB.nil _⟩, R2.out, F2.out⟩

set_option maxRecDepth 100000 in
set_option maxHeartbeats 4000000 in
/-- run, where a number is read. -/
theorem run_ok (N : Nat) (l : List UInt8) (n e : Nat) (t : ByteArray) (lc : UInt8) (most : Int) (w : World) (hE : Env w) (h : Rd w N l 0) (ht : t.data.toList = [lc]) (hm : 0 ≤ most) (hm2 : most ≤ 9223372036854775807) (hn : n < 18446744073709551616) (hel : e ≤ l.length) (hl47 : l.length ≤ roomB)
    (he : PK.numP lc 58 1 l 0 = (n, e, true, 0)) :
    Calls Tryz.prog 60 #[.pointer (some ⟨N, 0, none⟩), .string t, .int .i64 most] w fun v w' => RunR N w w' v
      (if most < (n : Int) then ([], l, 2) else if l.length - e < n then ([], l, 12) else ((l.drop e).take n, l.drop (e + n), 0)) := by
  have HC := Lib.hid (number_any N 1 l 0 t lc 58 58 w hE h ht rfl (fun h => List.length_pos_iff.2 h))
  rw [he] at HC
  unfold numV at HC
  obtain ⟨_, a, c, hh, _⟩ := h
  obtain ⟨p0, p1, _, _⟩ := cells2 hh
  replace p1 : w.cell? ⟨N, 1, none⟩ = some .nilIface := p1
  have hm1 : ¬ (most < 0) := by omega
  have hwm : IntKind.u64.wrap most = most := by rw [IntKind.wrap_u64]; omega
  clear hE ht he hh
  by_cases hg : most < (n : Int)
  · rw [if_pos hg]
    clear hn hel hl47 hm2
    go_enter Tryz.func60, Tryz.ntmps60
    go_wp2_with fail
    refine HC.out.mono ?_
    rintro v w1 ⟨rfl, r1, f1⟩
    have F1 := Lib.hid f1
    have HF := Lib.hid (fails_yes N l 0 2 1 w1 r1 (by simp))
    clear r1 f1 p0 p1 HC
    go_wp2_with fail
    refine HF.out.mono ?_
    rintro v w2 ⟨rfl, r2, f2⟩
    have R2 := Lib.hid r2
    have F2 := Lib.hid f2
    clear r2 f2
    go_wp2
    go_ret
    exact ⟨⟨none, 0, 0, rfl, rfl, OwnB.nil _⟩, R2.out, F1.out.trans F2.out⟩
  · rw [if_neg hg]
    have hw2 : IntKind.i64.wrap ((l.length : Int) - (e : Int)) = (l.length : Int) - e := by simp only [roomB] at hl47; rw [IntKind.wrap_i64]; omega
    have hw3 : IntKind.u64.wrap ((l.length : Int) - (e : Int)) = (l.length : Int) - e := by simp only [roomB] at hl47; rw [IntKind.wrap_u64]; omega
    by_cases hr : l.length - e < n
    · rw [if_pos hr]
      have hr2 : (l.length : Int) - e < n := by omega
      clear hn hel hl47 hm2 hr
      go_enter Tryz.func60, Tryz.ntmps60
      go_wp2_with fail
      refine HC.out.mono ?_
      rintro v w1 ⟨rfl, r1, f1⟩
      have F1 := Lib.hid f1
      have HF := Lib.hid (fails_yes N l 0 12 11 w1 r1 (by simp))
      obtain ⟨_, a1, c1, hh, _⟩ := r1
      obtain ⟨p0, p1, _, _⟩ := cells2 hh
      clear f1 HC hh
      go_wp2_with fail
      refine HF.out.mono ?_
      rintro v w2 ⟨rfl, r2, f2⟩
      have R2 := Lib.hid r2
      have F2 := Lib.hid f2
      clear r2 f2
      go_wp2
      go_ret
      exact ⟨⟨none, 0, 0, rfl, rfl, OwnB.nil _⟩, R2.out, F1.out.trans F2.out⟩
    · rw [if_neg hr]
      have hr2 : ¬ ((l.length : Int) - e < n) := by omega
      have hw4 : IntKind.i64.wrap (n : Int) = n := by simp only [roomB] at hl47; rw [IntKind.wrap_i64]; omega
      have hw5 : IntKind.i64.wrap ((e : Int) + (n : Int)) = (e : Int) + n := by simp only [roomB] at hl47; rw [IntKind.wrap_i64]; omega
      have Hen : Hid (e + n ≤ l.length) := Lib.hid (by omega)
      have Hl := Lib.hid hl47
      clear hn hel hl47 hm2 hr
      go_enter Tryz.func60, Tryz.ntmps60
      go_wp2_with fail
      refine HC.out.mono ?_
      rintro v w1 ⟨rfl, r1, f1⟩
      have F1 := Lib.hid f1
      have R1 := Lib.hid r1
      obtain ⟨_, a1, c1, hh, hv⟩ := r1
      obtain ⟨q0, q1, _, _⟩ := cells2 hh
      have hcut := isB_cut hv e (e + n) (by omega) Hen.out
      have hs1 : ∀ W : World, (Instr.sliceAt 22 (.slice a1 l.length c1) (some (.int .i64 (e : Int))) (some (.int .i64 ((e : Int) + n))) none).run Tryz.prog W = .ok (.slice (cutAt a1 e c1) n (c1 - e)) W := by
        intro W
        have hcl : l.length ≤ c1 := by obtain ⟨_, cap', he', h1, _⟩ := hv; simp at he'; omega
        have hle := Hen.out
        have := run_sliceAt_lh T22 a1 l.length c1 (e : Int) ((e : Int) + n) (by omega) (by omega) (by omega) W
        rw [this]
        congr 2
        · congr 1
          omega
      have HK : Hid (Calls Tryz.prog 72 #[.slice (cutAt a1 e c1) n (c1 - e)] w1 fun e' w' => (∃ a' c', e' = .returned (.slice a' n c') ∧ OwnB w' (.slice a' n c') ((l.drop e).take n) ∧ ∀ b, Value.ownBlock (.slice a' n c') = some b → w1.heap.size ≤ b) ∧ Below w1.heap.size w1 w') := by
        have hlist : (l.take (e + n)).drop e = (l.drop e).take n := by rw [List.drop_take]; congr 1; omega
        have hlen : ((l.drop e).take n).length = n := by have := Hen.out; simp; omega
        have h2 := hcut.1
        rw [hlist, show e + n - e = n from by omega] at h2
        refine (clone_any _ _ w1 h2 (by rw [hlen]; have := Hen.out; have := Hl.out; omega)).mono ?_
        rintro e' w' ⟨⟨a', c', rfl, o, o2⟩, b⟩
        rw [hlen] at o o2 ⊢
        exact ⟨⟨a', c', rfl, o, o2⟩, b⟩
      clear f1 HC hh hv hcut p0 p1
      go_wp2_with fail
      refine HK.out.mono ?_
      rintro v w2 ⟨⟨a2, c2, rfl, o2, ob2⟩, b2⟩
      have R2 := Lib.hid (R1.out.below b2)
      have hN : N < w1.heap.size := R1.out.lt
      obtain ⟨_, a3, c3, hh3, hv3⟩ := R2.out
      obtain ⟨s0, _, z0, _⟩ := cells2 hh3
      obtain ⟨hsl, hv4⟩ := rest_from hv3 (e + n) Hen.out
      rw [show ((e + n : Nat) : Int) = (e : Int) + n from by simp] at hsl
      obtain ⟨R4, F4⟩ := R2.out.setRest (cutAt a3 (e + n) c3) (l.length - (e + n)) (c3 - (e + n)) (by simp) hv4
      have O4 := Lib.hid (o2.kept F4 (fun b hb e' => by have := ob2 b hb; omega))
      have HR4 := Lib.hid R4
      have FF : Hid (Fr (fun i => i = N) w (w2.setCell ⟨N, 0, none⟩ (.slice (cutAt a3 (e + n) c3) (l.length - (e + n)) (c3 - (e + n))))) := F1.out.trans ((Fr.of_below b2).trans F4)
      have HlenN : Hid (((l.drop e).take n).length = n) := Lib.hid (by have := Hen.out; simp; omega)
      clear hh3 hv3 hv4 R4 F4 o2 ob2 b2 hN HK q0 q1 hs1
      go_wp2
      go_ret
      exact ⟨⟨a2, n, c2, rfl, HlenN.out, O4.out⟩, HR4.out, FF.out⟩
end Go.Proofs.YtbgockggbpmhnaaGreatDoor
