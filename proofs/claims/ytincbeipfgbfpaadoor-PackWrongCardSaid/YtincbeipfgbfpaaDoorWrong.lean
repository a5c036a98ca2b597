/-
  tollbarlaw01.PackWrong by a contract: it answers true.
  Conditions: the listed variables read as listed ('Env'); the parameters fit their kinds; the thing's bytes are at most 2^47 - 100 long.
-/
import Derived.Test.YtincbeipfgbfpaaDoorLay
import Derived.Test.YtincbeipfgbfpaaDoorSure
import Derived.Test.YtincbeipfgbfpaaDoorRd8
import Derived.Deep.RegionHeld3
namespace Go.Proofs.YtincbeipfgbfpaaDoor
open Go Go.RowKit

theorem Fr.belowN' {N : Nat} {w0 w w' : World} (b : Below N w0 w) (f : Fr (fun i => i = N) w w') (hN : N < w.heap.size) : Below N w0 w' :=
  b.trans ⟨f.os, f.tape, f.output, f.size, fun k hk => f.block k (by omega) (by omega)⟩

/-- What a take by a method answers. -/
def TakeR (N : Nat) (w w' : World) (v : Ending) (q : List UInt8 × Nat) : Prop := (∃ x, v = .returned x) ∧ Rd w' N q.1 q.2 ∧ Fr (fun i => i = N) w w'

set_option maxRecDepth 100000 in
set_option maxHeartbeats 8000000 in
theorem wrong_same (kd n ak : Int) (a : Option Addr) (m c : Nat) (b : List UInt8) (w : World) (hE : Env w) (hv : IsB w (.slice a m c) b)
    (hn0 : -9223372036854775808 ≤ n) (hn1 : n ≤ 9223372036854775807) (hb : b.length + 100 ≤ roomB) (heq : PK.u64 ak % 5 = PK.u64 kd % 5) :
    Calls Tryd.prog 8 #[.agg #[.int .i64 kd, .int .i64 n, .slice a m c], .int .i64 ak] w fun e w' => e = .returned (.bool true) ∧ Below w.heap.size w w' := by
  have hm : m = b.length := by obtain ⟨_, _, e, _⟩ := hv; simp at e; exact e.2.1
  subst hm
  obtain ⟨x, hx⟩ : ∃ x : PK.Th, x = ⟨PK.u64 kd % 5, n, b⟩ := ⟨_, rfl⟩
  have hxb' : x.b = b := by rw [hx]
  have hxk : x.k = PK.u64 kd % 5 := by rw [hx]
  have hmay : x.May := by rw [hx]; exact ⟨hn0, hn1, by simp only [roomB] at hb; simp only; omega⟩
  obtain ⟨L, hL⟩ : ∃ L, L = PK.layP x := ⟨_, rfl⟩
  have hLl : L.length ≤ b.length + 25 := by rw [hL, ← hxb']; exact PK.lay_length x hmay
  have hwk := wrap_u64_nat kd
  have hwa := wrap_u64_nat ak
  have hu := PK.u64_lt kd
  have hua := PK.u64_lt ak
  have HN : Hid (∀ W, Env W → Calls Tryd.prog 17 #[] W fun e w' => e = .returned (.pointer (some ⟨W.heap.size, 0, none⟩)) ∧ Wr w' W.heap.size W.heap.size [] ∧ Below W.heap.size W w') := fun W h => new_any W h
  have HLay : Hid (∀ (W : World) (B : Nat), Env W → Wr W B B [] → IsB W (.slice a b.length c) b → w.heap.size ≤ B → Calls Tryd.prog 30 #[.pointer (some ⟨B, 0, none⟩), .agg #[.int .i64 kd, .int .i64 n, .slice a b.length c]] W fun e w' => e = .returned (.pointer (some ⟨B, 0, none⟩)) ∧ Wr w' B B L ∧ Below B W w') := fun W B hE hW hI hB => by
    have := lay_of B B [] kd n a b.length c b W hW hI (fun hb k hk => Nat.lt_of_lt_of_le (hv.own_lt hb k hk) hB) hn0 hn1 (by simp; omega) hE
    rw [List.nil_append, ← hx, ← hL] at this
    exact this
  have HD : Hid (∀ (W : World) (B : Nat), Wr W B B L → Calls Tryd.prog 24 #[.pointer (some ⟨B, 0, none⟩)] W fun e w' => (∃ a' c', e = .returned (.slice a' L.length c') ∧ OwnB w' (.slice a' L.length c') L) ∧ Below W.heap.size W w') := fun W B h =>
    (wdone_any B B L W h (by omega)).mono fun e w' ⟨⟨a', c', e1, e2, _⟩, b'⟩ => ⟨⟨a', c', e1, e2⟩, b'⟩
  have HE := Lib.hid hE
  have HV := Lib.hid hv
  clear hE hv hn0 hn1
  go_enter Tryd.func8, Tryd.ntmps8
  go_wp2_with fail
  have q0 : (w.alloc (.cells #[.int .i64 kd, .int .i64 n, .slice a b.length c] 61)).cell? ⟨w.heap.size, 0, none⟩ = some (.int .i64 kd) := World.cell?_alloc_new _ _ _ 0
  have q1 : (w.alloc (.cells #[.int .i64 kd, .int .i64 n, .slice a b.length c] 61)).cell? ⟨w.heap.size, 1, none⟩ = some (.int .i64 n) := World.cell?_alloc_new _ _ _ 1
  have q2 : (w.alloc (.cells #[.int .i64 kd, .int .i64 n, .slice a b.length c] 61)).cell? ⟨w.heap.size, 2, none⟩ = some (.slice a b.length c) := World.cell?_alloc_new _ _ _ 2
  have Ba : Below w.heap.size w (w.alloc (.cells #[.int .i64 kd, .int .i64 n, .slice a b.length c] 61)) := (Below.refl _ _).alloc (Nat.le_refl _) _
  have hsz : w.heap.size < (w.alloc (.cells #[.int .i64 kd, .int .i64 n, .slice a b.length c] 61)).heap.size := by simp
  generalize w.alloc (.cells #[.int .i64 kd, .int .i64 n, .slice a b.length c] 61) = Wa at *
  have Ea := Lib.hid (HE.out.below Ba)
  have Va := Lib.hid (HV.out.below Ba)
  have BA := Lib.hid Ba
  obtain ⟨M, hM⟩ : ∃ M, Wa.heap.size = M := ⟨_, rfl⟩
  have HM := Lib.hid hM
  have next : Hid (∀ W W' : World, (Hid (Below M Wa W) ∧ W.cell? ⟨w.heap.size, 0, none⟩ = some (.int .i64 kd) ∧ W.cell? ⟨w.heap.size, 1, none⟩ = some (.int .i64 n) ∧ W.cell? ⟨w.heap.size, 2, none⟩ = some (.slice a b.length c)) → Below M W W' → (Hid (Below M Wa W') ∧ W'.cell? ⟨w.heap.size, 0, none⟩ = some (.int .i64 kd) ∧ W'.cell? ⟨w.heap.size, 1, none⟩ = some (.int .i64 n) ∧ W'.cell? ⟨w.heap.size, 2, none⟩ = some (.slice a b.length c))) := by
    rintro W W' ⟨h, _⟩ b
    have bb : Below M Wa W' := h.out.trans b
    have hb := bb.block _ (show w.heap.size < M by omega)
    exact ⟨Lib.hid bb, (World.cell?_of_block hb).trans q0, (World.cell?_of_block hb).trans q1, (World.cell?_of_block hb).trans q2⟩
  have S0 : Hid (Below M Wa Wa.drew) ∧ Wa.drew.cell? ⟨w.heap.size, 0, none⟩ = some (.int .i64 kd) ∧ Wa.drew.cell? ⟨w.heap.size, 1, none⟩ = some (.int .i64 n) ∧ Wa.drew.cell? ⟨w.heap.size, 2, none⟩ = some (.slice a b.length c) := ⟨Lib.hid (Below.refl _ _).drew, q0, q1, q2⟩
  have C17 : Hid (Calls Tryd.prog 17 #[] Wa.drew fun e w' => e = .returned (.pointer (some ⟨M, 0, none⟩)) ∧ (Hid (Below M Wa w') ∧ w'.cell? ⟨w.heap.size, 0, none⟩ = some (.int .i64 kd) ∧ w'.cell? ⟨w.heap.size, 1, none⟩ = some (.int .i64 n) ∧ w'.cell? ⟨w.heap.size, 2, none⟩ = some (.slice a b.length c)) ∧ Hid (Wr w' M M [])) := by
    refine (HN.out Wa.drew (Ea.out.below (Below.refl _ _).drew)).mono ?_
    rintro e w' ⟨rfl, h, b⟩
    have hs : Wa.drew.heap.size = M := hM
    rw [hs] at h b ⊢
    exact ⟨rfl, next.out _ _ S0 b, h⟩
  have C30 : Hid (∀ W : World, (Hid (Below M Wa W) ∧ W.cell? ⟨w.heap.size, 0, none⟩ = some (.int .i64 kd) ∧ W.cell? ⟨w.heap.size, 1, none⟩ = some (.int .i64 n) ∧ W.cell? ⟨w.heap.size, 2, none⟩ = some (.slice a b.length c)) → Hid (Wr W M M []) → Calls Tryd.prog 30 #[.pointer (some ⟨M, 0, none⟩), .agg #[.int .i64 kd, .int .i64 n, .slice a b.length c]] W fun e w' =>
      e = .returned (.pointer (some ⟨M, 0, none⟩)) ∧ (Hid (Below M Wa w') ∧ w'.cell? ⟨w.heap.size, 0, none⟩ = some (.int .i64 kd) ∧ w'.cell? ⟨w.heap.size, 1, none⟩ = some (.int .i64 n) ∧ w'.cell? ⟨w.heap.size, 2, none⟩ = some (.slice a b.length c)) ∧ Hid (Wr w' M M L)) := fun W h hw =>
    (HLay.out W M (Ea.out.below (by rw [HM.out]; exact h.1.out)) hw.out (Va.out.below (by rw [HM.out]; exact h.1.out)) (by omega)).mono fun e w' ⟨e1, e2, e3⟩ => ⟨e1, next.out _ _ h e3, e2⟩
  have C24 : Hid (∀ W : World, (Hid (Below M Wa W) ∧ W.cell? ⟨w.heap.size, 0, none⟩ = some (.int .i64 kd) ∧ W.cell? ⟨w.heap.size, 1, none⟩ = some (.int .i64 n) ∧ W.cell? ⟨w.heap.size, 2, none⟩ = some (.slice a b.length c)) → Hid (Wr W M M L) → Calls Tryd.prog 24 #[.pointer (some ⟨M, 0, none⟩)] W fun e w' =>
      (∃ a' c', e = .returned (.slice a' L.length c') ∧ Hid (OwnB w' (.slice a' L.length c') L)) ∧ (Hid (Below M Wa w') ∧ w'.cell? ⟨w.heap.size, 0, none⟩ = some (.int .i64 kd) ∧ w'.cell? ⟨w.heap.size, 1, none⟩ = some (.int .i64 n) ∧ w'.cell? ⟨w.heap.size, 2, none⟩ = some (.slice a b.length c))) := fun W h hw =>
    (HD.out W M hw.out).mono fun e w' ⟨e1, e3⟩ => ⟨e1, next.out _ _ h (e3.mono (Nat.le_of_lt hw.out.lt))⟩
  have Hlt : Hid (w.heap.size < M) := by rw [← hM]; exact hsz
  have HLl := Lib.hid hLl
  have HbR := Lib.hid hb
  have Hx := Lib.hid hx
  have HL := Lib.hid hL
  have Hmay := Lib.hid hmay
  have Hxb := Lib.hid hxb'
  have Hxk := Lib.hid hxk
  clear Ba hsz hM next q0 q1 q2 HN HLay HD hLl hb hx hL hmay hxb' hxk
  go_region_held3 (fun W => Hid (Below M Wa W) ∧ W.cell? ⟨w.heap.size, 0, none⟩ = some (.int .i64 kd) ∧ W.cell? ⟨w.heap.size, 1, none⟩ = some (.int .i64 n) ∧ W.cell? ⟨w.heap.size, 2, none⟩ = some (.slice a b.length c)) (assumption)
    (first
      | (go_at_call 17; refine C17.out.mono ?_; rintro e w3 ⟨rfl, hk3, hw3⟩)
      | (go_at_call 30; refine (C30.out _ ?_ ?_).mono ?_; assumption; assumption; rintro e w4 ⟨rfl, hk4, hw4⟩)
      | (go_at_call 24; refine (C24.out _ ?_ ?_).mono ?_; assumption; assumption; rintro e w5 ⟨⟨a5, c5, rfl, ho5⟩, hk5⟩))
  obtain ⟨b5, d0, _, d2⟩ := hk5
  have B5 : Hid (Below w.heap.size w w5) := BA.out.trans (b5.out.mono (Nat.le_of_lt Hlt.out))
  have hM5 : w.heap.size < w5.heap.size := by have := b5.out.size; have := Hlt.out; have := HM.out; omega
  have HRd := Lib.hid (read_any a5 c5 L w5 (HE.out.below B5.out) ho5.out.isB)
  clear C17 C30 C24 S0 Ea Va hk3 hw3 hk4 hw4 BA b5
  go_wp2_with fail
  refine HRd.out.mono ?_
  rintro e w6 ⟨rfl, r6, b6⟩
  have f0 : w6.cell? ⟨w.heap.size, 0, none⟩ = some (.int .i64 kd) := (b6.cell (p := ⟨w.heap.size, 0, none⟩) hM5).trans d0
  have f2 : w6.cell? ⟨w.heap.size, 2, none⟩ = some (.slice a b.length c) := (b6.cell (p := ⟨w.heap.size, 2, none⟩) hM5).trans d2
  have B6 : Hid (Below w.heap.size w w6) := B5.out.trans (b6.mono (Nat.le_of_lt hM5))
  obtain ⟨N, hN⟩ : ∃ N, w5.heap.size = N := ⟨_, rfl⟩
  rw [hN] at r6 b6 hM5 ⊢
  have R6 := Lib.hid r6
  have HRU : Hid (∀ W, Env W → Rd W N L 0 → Calls Tryd.prog 22 #[.pointer (some ⟨N, 0, none⟩), .int .u64 18446744073709551615] W fun v w' => TakeR N W w' v (PK.takeP 0 b.length L 0)) := fun W hE hr =>
    (uint_any N 18446744073709551615 L 0 W hE hr).mono fun e w' ⟨e1, e2, e3⟩ => ⟨⟨_, e1⟩, e2, e3⟩
  have HRI : Hid (∀ W, Env W → Rd W N L 0 → Calls Tryd.prog 10 #[.pointer (some ⟨N, 0, none⟩)] W fun v w' => TakeR N W w' v (PK.takeP 1 b.length L 0)) := fun W hE hr =>
    (int_any N L 0 W hE hr).mono fun e w' ⟨e1, e2, e3⟩ => ⟨⟨_, e1⟩, e2, e3⟩
  have HRB : Hid (∀ W, Env W → Rd W N L 0 → Calls Tryd.prog 31 #[.pointer (some ⟨N, 0, none⟩)] W fun v w' => TakeR N W w' v (PK.takeP 2 b.length L 0)) := fun W hE hr =>
    (bool_any N L 0 W hr).mono fun e w' ⟨e1, e2, e3⟩ => ⟨⟨_, e1⟩, e2, e3⟩
  have HRT : Hid (∀ W, Env W → Rd W N L 0 → Calls Tryd.prog 32 #[.pointer (some ⟨N, 0, none⟩), .int .i64 (b.length : Int)] W fun v w' => TakeR N W w' v (PK.takeP 3 b.length L 0)) := fun W hE hr =>
    (text_any N L 0 b.length W hE hr (by have := HbR.out; simp only [roomB] at this; omega) (by have := HbR.out; have := HLl.out; omega)).mono fun e w' ⟨e1, e2, e3⟩ => ⟨⟨_, e1⟩, e2, e3⟩
  have HRX : Hid (∀ W, Env W → Rd W N L 0 → Calls Tryd.prog 33 #[.pointer (some ⟨N, 0, none⟩), .int .i64 (b.length : Int)] W fun v w' => TakeR N W w' v (PK.takeP 4 b.length L 0)) := fun W hE hr =>
    (bytes_any N L 0 b.length W hE hr (by have := HbR.out; simp only [roomB] at this; omega) (by have := HbR.out; have := HLl.out; omega)).mono fun e w' ⟨⟨a, m, c, e1, _⟩, e2, e3⟩ => ⟨⟨_, e1⟩, e2, e3⟩
  have HN5 := Lib.hid hN
  have HM5 := Lib.hid hM5
  clear hN HRd r6 d0 d2 b6 ho5
  -- HERE
  have Htk : ∀ k, PK.u64 ak % 5 = k → PK.takeP k b.length L 0 = ([], 0) := by
    intro k hk
    have := PK.take_full x Hmay.out []
    rw [List.append_nil, ← HL.out, Hxb.out, Hxk.out, ← heq, hk] at this
    exact this
  have HT := Lib.hid Htk
  clear Htk
  have h5 : PK.u64 ak % 5 = 0 ∨ PK.u64 ak % 5 = 1 ∨ PK.u64 ak % 5 = 2 ∨ PK.u64 ak % 5 = 3 ∨ PK.u64 ak % 5 = 4 := by omega
  rcases h5 with h5 | h5 | h5 | h5 | h5
  · have hma : (PK.u64 ak : Int) % 5 = 0 := by omega
    have hmq : (PK.u64 kd : Int).tmod 5 = 0 := by rw [Int.tmod_eq_emod_of_nonneg (by omega)]; omega
    have hwq : IntKind.i64.wrap 0 = 0 := by decide
    rw [HT.out _ h5] at HRU
    clear h5 heq HT
    generalize PK.u64 ak = ua at *
    generalize PK.u64 kd = u at *
    go_wp2_with fail
    refine (HRU.out w6 (HE.out.below B6.out) R6.out).mono ?_
    rintro v w7 ⟨⟨y, rfl⟩, r7, f7⟩
    have g0 : w7.cell? ⟨w.heap.size, 0, none⟩ = some (.int .i64 kd) := f7.cell f0 (fun e => by have : w.heap.size = N := e; have := HM5.out; omega)
    have HDn : Hid (∀ W, Rd W N [] 0 → Calls Tryd.prog 13 #[.pointer (some ⟨N, 0, none⟩)] W fun e w' => e = .returned (.nilIface) ∧ W = w') := fun W h => done_any N [] 0 W h
    have R7 := Lib.hid r7
    have B7 : Hid (Below w.heap.size w w7) := B6.out.trans ⟨f7.os, f7.tape, f7.output, f7.size, fun k hk => f7.block k (by have := R6.out.lt; have := HM5.out; omega) (fun e => by have : k = N := e; have := HM5.out; omega)⟩
    clear r7 f7 R6 B6 f0 f2 HRU HRI HRB HRT HRX
    go_wp2_with fail
    refine (HDn.out w7 R7.out).mono ?_
    rintro e w8 ⟨rfl, rfl⟩
    clear HDn
    have hlt7 : w.heap.size < w7.heap.size := World.block_lt_of_cell? w7 _ g0
    have next : Hid (∀ W W' : World, (Hid (Below w7.heap.size w7 W) ∧ W.cell? ⟨w.heap.size, 0, none⟩ = some (.int .i64 kd)) → Below W.heap.size W W' → (Hid (Below w7.heap.size w7 W') ∧ W'.cell? ⟨w.heap.size, 0, none⟩ = some (.int .i64 kd))) := by
      rintro W W' ⟨h, _⟩ b
      have bb : Below w7.heap.size w7 W' := h.out.trans (b.mono h.out.size)
      exact ⟨Lib.hid bb, (World.cell?_of_block (bb.block _ hlt7)).trans g0⟩
    have C16 : Hid (∀ W : World, (Hid (Below w7.heap.size w7 W) ∧ W.cell? ⟨w.heap.size, 0, none⟩ = some (.int .i64 kd)) → Calls Tryd.prog 16 #[] W fun e w' => e = .returned (.bool true) ∧ (Hid (Below w7.heap.size w7 w') ∧ w'.cell? ⟨w.heap.size, 0, none⟩ = some (.int .i64 kd))) := fun W h =>
      (sure_any W ((HE.out.below B7.out).below h.1.out)).mono fun e w' hw => ⟨hw.1, next.out W w' h hw.2⟩
    have S7 : Hid (Below w7.heap.size w7 w7.drew) ∧ w7.drew.cell? ⟨w.heap.size, 0, none⟩ = some (.int .i64 kd) := ⟨Lib.hid (Below.refl _ _).drew, g0⟩
    have HB := B7
    clear next B7 R7 HE HV hlt7 g0
    go_wp2_with fail
    refine wp_region_noPanic ?_
    refine wp_region_held_drew (S := fun W => Hid (Below w7.heap.size w7 W) ∧ W.cell? ⟨w.heap.size, 0, none⟩ = some (.int .i64 kd)) (by kernel_rfl) S7 (fun hHeld => ?_)
    refine wpAnyH_take (i := 0) (v := ?hva0) (List.getElem?_toArray.trans rfl) (by kernel_rfl) (by kernel_rfl) (by kernel_rfl) (fun _ _ _ h => h) (Or.inl ⟨by rfl, ?hya0⟩) (by assumption) ?hra0
    case hya0 => (intro wt hSw; (try dsimp only at hSw); go_simp; try (with_reducible rfl))
    try simp only [Act.put, List.setIfInBounds_toArray, List.set_cons_zero, List.set_cons_succ]
    refine wpAnyH_take (i := 1) (v := ?hva1) (List.getElem?_toArray.trans rfl) (by kernel_rfl) (by kernel_rfl) (by kernel_rfl) (fun _ _ _ h => h) (Or.inl ⟨by rfl, ?hya1⟩) (by assumption) ?hra1
    case hya1 => (intro wt hSw; (try dsimp only at hSw); go_simp; try (with_reducible rfl))
    try simp only [Act.put, List.setIfInBounds_toArray, List.set_cons_zero, List.set_cons_succ]
    refine wpAnyH_take (i := 2) (v := ?hva2) (List.getElem?_toArray.trans rfl) (by kernel_rfl) (by kernel_rfl) (by kernel_rfl) (fun _ _ _ h => h) (Or.inl ⟨by rfl, ?hya2⟩) (by assumption) ?hra2
    case hya2 => (intro wt hSw; (try dsimp only at hSw); go_simp; try (with_reducible rfl))
    try simp only [Act.put, List.setIfInBounds_toArray, List.set_cons_zero, List.set_cons_succ]
    refine wpAnyH_take (i := 3) (v := ?hva3) (List.getElem?_toArray.trans rfl) (by kernel_rfl) (by kernel_rfl) (by kernel_rfl) (fun _ _ _ h => h) (Or.inl ⟨by rfl, ?hya3⟩) (by assumption) ?hra3
    case hya3 => (intro wt hSw; (try dsimp only at hSw); go_simp; try (with_reducible rfl))
    try simp only [Act.put, List.setIfInBounds_toArray, List.set_cons_zero, List.set_cons_succ]
    refine wpAnyH_take (i := 4) (v := ?hva4) (List.getElem?_toArray.trans rfl) (by kernel_rfl) (by kernel_rfl) (by kernel_rfl) (fun _ _ _ h => h) (Or.inl ⟨by rfl, ?hya4⟩) (by assumption) ?hra4
    case hya4 => (intro wt hSw; (try dsimp only at hSw); go_simp; try (with_reducible rfl))
    try simp only [Act.put, List.setIfInBounds_toArray, List.set_cons_zero, List.set_cons_succ]
    refine wpAnyH_take (i := 5) (v := ?hva5) (List.getElem?_toArray.trans rfl) (by kernel_rfl) (by kernel_rfl) (by kernel_rfl) (fun _ _ _ h => h) (Or.inl ⟨by rfl, ?hya5⟩) (by assumption) ?hra5
    case hya5 => (intro wt hSw; (try dsimp only at hSw); go_simp; try (with_reducible rfl))
    try simp only [Act.put, List.setIfInBounds_toArray, List.set_cons_zero, List.set_cons_succ]
    refine wpAnyH_take (i := 6) (v := ?hva6) (List.getElem?_toArray.trans rfl) (by kernel_rfl) (by kernel_rfl) (by kernel_rfl) (fun _ _ _ h => h) (Or.inl ⟨by rfl, ?hya6⟩) (by assumption) ?hra6
    case hya6 => (intro wt hSw; (try dsimp only at hSw); go_simp; try (with_reducible rfl))
    try simp only [Act.put, List.setIfInBounds_toArray, List.set_cons_zero, List.set_cons_succ]
    refine wpAnyH_take (i := 7) (v := ?hva7) (List.getElem?_toArray.trans rfl) (by kernel_rfl) (by kernel_rfl) (by kernel_rfl) (fun _ _ _ h => h) (Or.inl ⟨by rfl, ?hya7⟩) (by assumption) ?hra7
    case hya7 => (intro wt hSw; (try dsimp only at hSw); go_simp; try (with_reducible rfl))
    try simp only [Act.put, List.setIfInBounds_toArray, List.set_cons_zero, List.set_cons_succ]
    refine wpAnyH_take (i := 8) (v := ?hva8) (List.getElem?_toArray.trans rfl) (by kernel_rfl) (by kernel_rfl) (by kernel_rfl) (fun _ _ _ h => h) (Or.inl ⟨by rfl, ?hya8⟩) (by assumption) ?hra8
    case hya8 => (intro wt hSw; (try dsimp only at hSw); go_simp; try (with_reducible rfl))
    try simp only [Act.put, List.setIfInBounds_toArray, List.set_cons_zero, List.set_cons_succ]
    refine wpAnyH_take (i := 9) (v := ?hva9) (List.getElem?_toArray.trans rfl) (by kernel_rfl) (by kernel_rfl) (by kernel_rfl) (fun _ _ _ h => h) (Or.inl ⟨by rfl, ?hya9⟩) (by assumption) ?hra9
    case hya9 => (intro wt hSw; (try dsimp only at hSw); go_simp; try (with_reducible rfl))
    try simp only [Act.put, List.setIfInBounds_toArray, List.set_cons_zero, List.set_cons_succ]
    refine wpAnyH_take (i := 10) (v := ?hva10) (List.getElem?_toArray.trans rfl) (by kernel_rfl) (by kernel_rfl) (by kernel_rfl) (fun _ _ _ h => h) (Or.inl ⟨by rfl, ?hya10⟩) (by assumption) ?hra10
    case hya10 => (intro wt hSw; (try dsimp only at hSw); go_simp; try (with_reducible rfl))
    try simp only [Act.put, List.setIfInBounds_toArray, List.set_cons_zero, List.set_cons_succ]
    refine wpAnyH_take (i := 11) (v := ?hva11) (List.getElem?_toArray.trans rfl) (by kernel_rfl) (by kernel_rfl) (by kernel_rfl) (fun _ _ _ h => h) (Or.inl ⟨by rfl, ?hya11⟩) (by assumption) ?hra11
    case hya11 => (intro wt hSw; (try dsimp only at hSw); go_simp; try (with_reducible rfl))
    try simp only [Act.put, List.setIfInBounds_toArray, List.set_cons_zero, List.set_cons_succ]
    refine wpAnyH_take (i := 12) (v := ?hva12) (List.getElem?_toArray.trans rfl) (by kernel_rfl) (by kernel_rfl) (by kernel_rfl) (fun _ _ _ h => h) (Or.inl ⟨by rfl, ?hya12⟩) (by assumption) ?hra12
    case hya12 => (intro wt hSw; (try dsimp only at hSw); go_simp; try (with_reducible rfl))
    try simp only [Act.put, List.setIfInBounds_toArray, List.set_cons_zero, List.set_cons_succ]
    refine wpAnyH_take (i := 13) (v := ?hva13) (List.getElem?_toArray.trans rfl) (by kernel_rfl) (by kernel_rfl) (by kernel_rfl) (fun _ _ _ h => h) (Or.inl ⟨by rfl, ?hya13⟩) (by assumption) ?hra13
    case hya13 => (intro wt hSw; (try dsimp only at hSw); go_simp; try (with_reducible rfl))
    try simp only [Act.put, List.setIfInBounds_toArray, List.set_cons_zero, List.set_cons_succ]
    refine wpAnyH_take (i := 14) (v := undef) (List.getElem?_toArray.trans rfl) (by kernel_rfl) (by kernel_rfl) (by kernel_rfl) (fun _ _ _ h => h) (Or.inr ⟨by rfl, rfl⟩) (by assumption) ?_
    try simp only [Act.put, List.setIfInBounds_toArray, List.set_cons_zero, List.set_cons_succ]
    refine wpAnyH_take (i := 15) (v := undef) (List.getElem?_toArray.trans rfl) (by kernel_rfl) (by kernel_rfl) (by kernel_rfl) (fun _ _ _ h => h) (Or.inr ⟨by rfl, rfl⟩) (by assumption) ?_
    try simp only [Act.put, List.setIfInBounds_toArray, List.set_cons_zero, List.set_cons_succ]
    refine wpAnyH_take (i := 16) (v := undef) (List.getElem?_toArray.trans rfl) (by kernel_rfl) (by kernel_rfl) (by kernel_rfl) (fun _ _ _ h => h) (Or.inr ⟨by rfl, rfl⟩) (by assumption) ?_
    try simp only [Act.put, List.setIfInBounds_toArray, List.set_cons_zero, List.set_cons_succ]
    refine wpAnyH_take (i := 17) (v := undef) (List.getElem?_toArray.trans rfl) (by kernel_rfl) (by kernel_rfl) (by kernel_rfl) (fun _ _ _ h => h) (Or.inr ⟨by rfl, rfl⟩) (by assumption) ?_
    try simp only [Act.put, List.setIfInBounds_toArray, List.set_cons_zero, List.set_cons_succ]
    refine wpAnyH_take (i := 18) (v := undef) (List.getElem?_toArray.trans rfl) (by kernel_rfl) (by kernel_rfl) (by kernel_rfl) (fun _ _ _ h => h) (Or.inr ⟨by rfl, rfl⟩) (by assumption) ?_
    try simp only [Act.put, List.setIfInBounds_toArray, List.set_cons_zero, List.set_cons_succ]
    refine wpAnyH_take (i := 19) (v := undef) (List.getElem?_toArray.trans rfl) (by kernel_rfl) (by kernel_rfl) (by kernel_rfl) (fun _ _ _ h => h) (Or.inr ⟨by rfl, rfl⟩) (by assumption) ?_
    try simp only [Act.put, List.setIfInBounds_toArray, List.set_cons_zero, List.set_cons_succ]
    refine wpAnyH_take (i := 20) (v := undef) (List.getElem?_toArray.trans rfl) (by kernel_rfl) (by kernel_rfl) (by kernel_rfl) (fun _ _ _ h => h) (Or.inr ⟨by rfl, rfl⟩) (by assumption) ?_
    try simp only [Act.put, List.setIfInBounds_toArray, List.set_cons_zero, List.set_cons_succ]
    refine wpAnyH_take (i := 21) (v := undef) (List.getElem?_toArray.trans rfl) (by kernel_rfl) (by kernel_rfl) (by kernel_rfl) (fun _ _ _ h => h) (Or.inr ⟨by rfl, rfl⟩) (by assumption) ?_
    try simp only [Act.put, List.setIfInBounds_toArray, List.set_cons_zero, List.set_cons_succ]
    refine wpAnyH_take (i := 22) (v := undef) (List.getElem?_toArray.trans rfl) (by kernel_rfl) (by kernel_rfl) (by kernel_rfl) (fun _ _ _ h => h) (Or.inr ⟨by rfl, rfl⟩) (by assumption) ?_
    try simp only [Act.put, List.setIfInBounds_toArray, List.set_cons_zero, List.set_cons_succ]
    refine wpAnyH_take (i := 23) (v := undef) (List.getElem?_toArray.trans rfl) (by kernel_rfl) (by kernel_rfl) (by kernel_rfl) (fun _ _ _ h => h) (Or.inr ⟨by rfl, rfl⟩) (by assumption) ?_
    try simp only [Act.put, List.setIfInBounds_toArray, List.set_cons_zero, List.set_cons_succ]
    refine wpAnyH_take (i := 24) (v := ?hva24) (List.getElem?_toArray.trans rfl) (by kernel_rfl) (by kernel_rfl) (by kernel_rfl) (fun _ _ _ h => h) (Or.inl ⟨by rfl, ?hya24⟩) (by assumption) ?hra24
    case hya24 => (intro wt hSw; (try dsimp only at hSw); go_simp; try (with_reducible rfl))
    try simp only [Act.put, List.setIfInBounds_toArray, List.set_cons_zero, List.set_cons_succ]
    refine wpAnyH_take (i := 25) (v := ?hva25) (List.getElem?_toArray.trans rfl) (by kernel_rfl) (by kernel_rfl) (by kernel_rfl) (fun _ _ _ h => h) (Or.inl ⟨by rfl, ?hya25⟩) (by assumption) ?hra25
    case hya25 => (intro wt hSw; (try dsimp only at hSw); go_simp; try (with_reducible rfl))
    try simp only [Act.put, List.setIfInBounds_toArray, List.set_cons_zero, List.set_cons_succ]
    refine wpAnyH_take (i := 26) (v := ?hva26) (List.getElem?_toArray.trans rfl) (by kernel_rfl) (by kernel_rfl) (by kernel_rfl) (fun _ _ _ h => h) (Or.inl ⟨by rfl, ?hya26⟩) (by assumption) ?hra26
    case hya26 => (intro wt hSw; (try dsimp only at hSw); go_simp; try (with_reducible rfl))
    try simp only [Act.put, List.setIfInBounds_toArray, List.set_cons_zero, List.set_cons_succ]
    refine wpAnyH_ready (rs := [27]) (by kernel_rfl) (by simp) ?_
    refine AllReadyH.cons (List.getElem?_toArray.trans rfl) (fun K hK => ?_) AllReadyH.nil
    go_simp
    go_at_call 16
    refine (C16.out _ ?_).mono ?_
    · assumption
    rintro e w16 ⟨rfl, hk16⟩
    try (go_wp2_with fail)
    refine hK.out _ _ ?_ (fun hHeld => ?_)
    · (try dsimp only)
      assumption
    clear hK K
    try simp only [Act.put, List.setIfInBounds_toArray, List.set_cons_zero, List.set_cons_succ]
    refine wpAnyH_take (i := 28) (v := ?hva28) (List.getElem?_toArray.trans rfl) (by kernel_rfl) (by kernel_rfl) (by kernel_rfl) (fun _ _ _ h => h) (Or.inl ⟨by rfl, ?hya28⟩) (by assumption) ?hra28
    case hya28 => (intro wt hSw; (try dsimp only at hSw); go_simp; try (with_reducible rfl))
    try simp only [Act.put, List.setIfInBounds_toArray, List.set_cons_zero, List.set_cons_succ]
    refine wpAnyH_take (i := 29) (v := ?hva29) (List.getElem?_toArray.trans rfl) (by kernel_rfl) (by kernel_rfl) (by kernel_rfl) (fun _ _ _ h => h) (Or.inl ⟨by rfl, ?hya29⟩) (by assumption) ?hra29
    case hya29 => (intro wt hSw; (try dsimp only at hSw); go_simp; try (with_reducible rfl))
    try simp only [Act.put, List.setIfInBounds_toArray, List.set_cons_zero, List.set_cons_succ]
    refine wpAnyH_done (by kernel_rfl) ?_ _
    refine NoPanic.normal ?_
    go_wp2
    go_ret
    exact ⟨rfl, HB.out.trans (hk16.1.out.mono (by have := HB.out.size; omega))⟩
  · have hma : (PK.u64 ak : Int) % 5 = 1 := by omega
    have hmq : (PK.u64 kd : Int).tmod 5 = 1 := by rw [Int.tmod_eq_emod_of_nonneg (by omega)]; omega
    have hwq : IntKind.i64.wrap 1 = 1 := by decide
    rw [HT.out _ h5] at HRI
    clear h5 heq HT
    generalize PK.u64 ak = ua at *
    generalize PK.u64 kd = u at *
    go_wp2_with fail
    refine (HRI.out w6 (HE.out.below B6.out) R6.out).mono ?_
    rintro v w7 ⟨⟨y, rfl⟩, r7, f7⟩
    have g0 : w7.cell? ⟨w.heap.size, 0, none⟩ = some (.int .i64 kd) := f7.cell f0 (fun e => by have : w.heap.size = N := e; have := HM5.out; omega)
    have HDn : Hid (∀ W, Rd W N [] 0 → Calls Tryd.prog 13 #[.pointer (some ⟨N, 0, none⟩)] W fun e w' => e = .returned (.nilIface) ∧ W = w') := fun W h => done_any N [] 0 W h
    have R7 := Lib.hid r7
    have B7 : Hid (Below w.heap.size w w7) := B6.out.trans ⟨f7.os, f7.tape, f7.output, f7.size, fun k hk => f7.block k (by have := R6.out.lt; have := HM5.out; omega) (fun e => by have : k = N := e; have := HM5.out; omega)⟩
    clear r7 f7 R6 B6 f0 f2 HRU HRI HRB HRT HRX
    go_wp2_with fail
    refine (HDn.out w7 R7.out).mono ?_
    rintro e w8 ⟨rfl, rfl⟩
    clear HDn
    have hlt7 : w.heap.size < w7.heap.size := World.block_lt_of_cell? w7 _ g0
    have next : Hid (∀ W W' : World, (Hid (Below w7.heap.size w7 W) ∧ W.cell? ⟨w.heap.size, 0, none⟩ = some (.int .i64 kd)) → Below W.heap.size W W' → (Hid (Below w7.heap.size w7 W') ∧ W'.cell? ⟨w.heap.size, 0, none⟩ = some (.int .i64 kd))) := by
      rintro W W' ⟨h, _⟩ b
      have bb : Below w7.heap.size w7 W' := h.out.trans (b.mono h.out.size)
      exact ⟨Lib.hid bb, (World.cell?_of_block (bb.block _ hlt7)).trans g0⟩
    have C16 : Hid (∀ W : World, (Hid (Below w7.heap.size w7 W) ∧ W.cell? ⟨w.heap.size, 0, none⟩ = some (.int .i64 kd)) → Calls Tryd.prog 16 #[] W fun e w' => e = .returned (.bool true) ∧ (Hid (Below w7.heap.size w7 w') ∧ w'.cell? ⟨w.heap.size, 0, none⟩ = some (.int .i64 kd))) := fun W h =>
      (sure_any W ((HE.out.below B7.out).below h.1.out)).mono fun e w' hw => ⟨hw.1, next.out W w' h hw.2⟩
    have S7 : Hid (Below w7.heap.size w7 w7.drew) ∧ w7.drew.cell? ⟨w.heap.size, 0, none⟩ = some (.int .i64 kd) := ⟨Lib.hid (Below.refl _ _).drew, g0⟩
    have HB := B7
    clear next B7 R7 HE HV hlt7 g0
    go_wp2_with fail
    refine wp_region_noPanic ?_
    refine wp_region_held_drew (S := fun W => Hid (Below w7.heap.size w7 W) ∧ W.cell? ⟨w.heap.size, 0, none⟩ = some (.int .i64 kd)) (by kernel_rfl) S7 (fun hHeld => ?_)
    refine wpAnyH_take (i := 0) (v := ?hvb0) (List.getElem?_toArray.trans rfl) (by kernel_rfl) (by kernel_rfl) (by kernel_rfl) (fun _ _ _ h => h) (Or.inl ⟨by rfl, ?hyb0⟩) (by assumption) ?hrb0
    case hyb0 => (intro wt hSw; (try dsimp only at hSw); go_simp; try (with_reducible rfl))
    try simp only [Act.put, List.setIfInBounds_toArray, List.set_cons_zero, List.set_cons_succ]
    refine wpAnyH_take (i := 1) (v := ?hvb1) (List.getElem?_toArray.trans rfl) (by kernel_rfl) (by kernel_rfl) (by kernel_rfl) (fun _ _ _ h => h) (Or.inl ⟨by rfl, ?hyb1⟩) (by assumption) ?hrb1
    case hyb1 => (intro wt hSw; (try dsimp only at hSw); go_simp; try (with_reducible rfl))
    try simp only [Act.put, List.setIfInBounds_toArray, List.set_cons_zero, List.set_cons_succ]
    refine wpAnyH_take (i := 2) (v := ?hvb2) (List.getElem?_toArray.trans rfl) (by kernel_rfl) (by kernel_rfl) (by kernel_rfl) (fun _ _ _ h => h) (Or.inl ⟨by rfl, ?hyb2⟩) (by assumption) ?hrb2
    case hyb2 => (intro wt hSw; (try dsimp only at hSw); go_simp; try (with_reducible rfl))
    try simp only [Act.put, List.setIfInBounds_toArray, List.set_cons_zero, List.set_cons_succ]
    refine wpAnyH_take (i := 3) (v := ?hvb3) (List.getElem?_toArray.trans rfl) (by kernel_rfl) (by kernel_rfl) (by kernel_rfl) (fun _ _ _ h => h) (Or.inl ⟨by rfl, ?hyb3⟩) (by assumption) ?hrb3
    case hyb3 => (intro wt hSw; (try dsimp only at hSw); go_simp; try (with_reducible rfl))
    try simp only [Act.put, List.setIfInBounds_toArray, List.set_cons_zero, List.set_cons_succ]
    refine wpAnyH_take (i := 4) (v := ?hvb4) (List.getElem?_toArray.trans rfl) (by kernel_rfl) (by kernel_rfl) (by kernel_rfl) (fun _ _ _ h => h) (Or.inl ⟨by rfl, ?hyb4⟩) (by assumption) ?hrb4
    case hyb4 => (intro wt hSw; (try dsimp only at hSw); go_simp; try (with_reducible rfl))
    try simp only [Act.put, List.setIfInBounds_toArray, List.set_cons_zero, List.set_cons_succ]
    refine wpAnyH_take (i := 5) (v := ?hvb5) (List.getElem?_toArray.trans rfl) (by kernel_rfl) (by kernel_rfl) (by kernel_rfl) (fun _ _ _ h => h) (Or.inl ⟨by rfl, ?hyb5⟩) (by assumption) ?hrb5
    case hyb5 => (intro wt hSw; (try dsimp only at hSw); go_simp; try (with_reducible rfl))
    try simp only [Act.put, List.setIfInBounds_toArray, List.set_cons_zero, List.set_cons_succ]
    refine wpAnyH_take (i := 6) (v := ?hvb6) (List.getElem?_toArray.trans rfl) (by kernel_rfl) (by kernel_rfl) (by kernel_rfl) (fun _ _ _ h => h) (Or.inl ⟨by rfl, ?hyb6⟩) (by assumption) ?hrb6
    case hyb6 => (intro wt hSw; (try dsimp only at hSw); go_simp; try (with_reducible rfl))
    try simp only [Act.put, List.setIfInBounds_toArray, List.set_cons_zero, List.set_cons_succ]
    refine wpAnyH_take (i := 7) (v := ?hvb7) (List.getElem?_toArray.trans rfl) (by kernel_rfl) (by kernel_rfl) (by kernel_rfl) (fun _ _ _ h => h) (Or.inl ⟨by rfl, ?hyb7⟩) (by assumption) ?hrb7
    case hyb7 => (intro wt hSw; (try dsimp only at hSw); go_simp; try (with_reducible rfl))
    try simp only [Act.put, List.setIfInBounds_toArray, List.set_cons_zero, List.set_cons_succ]
    refine wpAnyH_take (i := 8) (v := ?hvb8) (List.getElem?_toArray.trans rfl) (by kernel_rfl) (by kernel_rfl) (by kernel_rfl) (fun _ _ _ h => h) (Or.inl ⟨by rfl, ?hyb8⟩) (by assumption) ?hrb8
    case hyb8 => (intro wt hSw; (try dsimp only at hSw); go_simp; try (with_reducible rfl))
    try simp only [Act.put, List.setIfInBounds_toArray, List.set_cons_zero, List.set_cons_succ]
    refine wpAnyH_take (i := 9) (v := ?hvb9) (List.getElem?_toArray.trans rfl) (by kernel_rfl) (by kernel_rfl) (by kernel_rfl) (fun _ _ _ h => h) (Or.inl ⟨by rfl, ?hyb9⟩) (by assumption) ?hrb9
    case hyb9 => (intro wt hSw; (try dsimp only at hSw); go_simp; try (with_reducible rfl))
    try simp only [Act.put, List.setIfInBounds_toArray, List.set_cons_zero, List.set_cons_succ]
    refine wpAnyH_take (i := 10) (v := ?hvb10) (List.getElem?_toArray.trans rfl) (by kernel_rfl) (by kernel_rfl) (by kernel_rfl) (fun _ _ _ h => h) (Or.inl ⟨by rfl, ?hyb10⟩) (by assumption) ?hrb10
    case hyb10 => (intro wt hSw; (try dsimp only at hSw); go_simp; try (with_reducible rfl))
    try simp only [Act.put, List.setIfInBounds_toArray, List.set_cons_zero, List.set_cons_succ]
    refine wpAnyH_take (i := 11) (v := ?hvb11) (List.getElem?_toArray.trans rfl) (by kernel_rfl) (by kernel_rfl) (by kernel_rfl) (fun _ _ _ h => h) (Or.inl ⟨by rfl, ?hyb11⟩) (by assumption) ?hrb11
    case hyb11 => (intro wt hSw; (try dsimp only at hSw); go_simp; try (with_reducible rfl))
    try simp only [Act.put, List.setIfInBounds_toArray, List.set_cons_zero, List.set_cons_succ]
    refine wpAnyH_take (i := 12) (v := ?hvb12) (List.getElem?_toArray.trans rfl) (by kernel_rfl) (by kernel_rfl) (by kernel_rfl) (fun _ _ _ h => h) (Or.inl ⟨by rfl, ?hyb12⟩) (by assumption) ?hrb12
    case hyb12 => (intro wt hSw; (try dsimp only at hSw); go_simp; try (with_reducible rfl))
    try simp only [Act.put, List.setIfInBounds_toArray, List.set_cons_zero, List.set_cons_succ]
    refine wpAnyH_take (i := 13) (v := ?hvb13) (List.getElem?_toArray.trans rfl) (by kernel_rfl) (by kernel_rfl) (by kernel_rfl) (fun _ _ _ h => h) (Or.inl ⟨by rfl, ?hyb13⟩) (by assumption) ?hrb13
    case hyb13 => (intro wt hSw; (try dsimp only at hSw); go_simp; try (with_reducible rfl))
    try simp only [Act.put, List.setIfInBounds_toArray, List.set_cons_zero, List.set_cons_succ]
    refine wpAnyH_take (i := 14) (v := undef) (List.getElem?_toArray.trans rfl) (by kernel_rfl) (by kernel_rfl) (by kernel_rfl) (fun _ _ _ h => h) (Or.inr ⟨by rfl, rfl⟩) (by assumption) ?_
    try simp only [Act.put, List.setIfInBounds_toArray, List.set_cons_zero, List.set_cons_succ]
    refine wpAnyH_take (i := 15) (v := undef) (List.getElem?_toArray.trans rfl) (by kernel_rfl) (by kernel_rfl) (by kernel_rfl) (fun _ _ _ h => h) (Or.inr ⟨by rfl, rfl⟩) (by assumption) ?_
    try simp only [Act.put, List.setIfInBounds_toArray, List.set_cons_zero, List.set_cons_succ]
    refine wpAnyH_take (i := 16) (v := undef) (List.getElem?_toArray.trans rfl) (by kernel_rfl) (by kernel_rfl) (by kernel_rfl) (fun _ _ _ h => h) (Or.inr ⟨by rfl, rfl⟩) (by assumption) ?_
    try simp only [Act.put, List.setIfInBounds_toArray, List.set_cons_zero, List.set_cons_succ]
    refine wpAnyH_take (i := 17) (v := undef) (List.getElem?_toArray.trans rfl) (by kernel_rfl) (by kernel_rfl) (by kernel_rfl) (fun _ _ _ h => h) (Or.inr ⟨by rfl, rfl⟩) (by assumption) ?_
    try simp only [Act.put, List.setIfInBounds_toArray, List.set_cons_zero, List.set_cons_succ]
    refine wpAnyH_take (i := 18) (v := undef) (List.getElem?_toArray.trans rfl) (by kernel_rfl) (by kernel_rfl) (by kernel_rfl) (fun _ _ _ h => h) (Or.inr ⟨by rfl, rfl⟩) (by assumption) ?_
    try simp only [Act.put, List.setIfInBounds_toArray, List.set_cons_zero, List.set_cons_succ]
    refine wpAnyH_take (i := 19) (v := undef) (List.getElem?_toArray.trans rfl) (by kernel_rfl) (by kernel_rfl) (by kernel_rfl) (fun _ _ _ h => h) (Or.inr ⟨by rfl, rfl⟩) (by assumption) ?_
    try simp only [Act.put, List.setIfInBounds_toArray, List.set_cons_zero, List.set_cons_succ]
    refine wpAnyH_take (i := 20) (v := undef) (List.getElem?_toArray.trans rfl) (by kernel_rfl) (by kernel_rfl) (by kernel_rfl) (fun _ _ _ h => h) (Or.inr ⟨by rfl, rfl⟩) (by assumption) ?_
    try simp only [Act.put, List.setIfInBounds_toArray, List.set_cons_zero, List.set_cons_succ]
    refine wpAnyH_take (i := 21) (v := undef) (List.getElem?_toArray.trans rfl) (by kernel_rfl) (by kernel_rfl) (by kernel_rfl) (fun _ _ _ h => h) (Or.inr ⟨by rfl, rfl⟩) (by assumption) ?_
    try simp only [Act.put, List.setIfInBounds_toArray, List.set_cons_zero, List.set_cons_succ]
    refine wpAnyH_take (i := 22) (v := undef) (List.getElem?_toArray.trans rfl) (by kernel_rfl) (by kernel_rfl) (by kernel_rfl) (fun _ _ _ h => h) (Or.inr ⟨by rfl, rfl⟩) (by assumption) ?_
    try simp only [Act.put, List.setIfInBounds_toArray, List.set_cons_zero, List.set_cons_succ]
    refine wpAnyH_take (i := 23) (v := undef) (List.getElem?_toArray.trans rfl) (by kernel_rfl) (by kernel_rfl) (by kernel_rfl) (fun _ _ _ h => h) (Or.inr ⟨by rfl, rfl⟩) (by assumption) ?_
    try simp only [Act.put, List.setIfInBounds_toArray, List.set_cons_zero, List.set_cons_succ]
    refine wpAnyH_take (i := 24) (v := ?hvb24) (List.getElem?_toArray.trans rfl) (by kernel_rfl) (by kernel_rfl) (by kernel_rfl) (fun _ _ _ h => h) (Or.inl ⟨by rfl, ?hyb24⟩) (by assumption) ?hrb24
    case hyb24 => (intro wt hSw; (try dsimp only at hSw); go_simp; try (with_reducible rfl))
    try simp only [Act.put, List.setIfInBounds_toArray, List.set_cons_zero, List.set_cons_succ]
    refine wpAnyH_take (i := 25) (v := ?hvb25) (List.getElem?_toArray.trans rfl) (by kernel_rfl) (by kernel_rfl) (by kernel_rfl) (fun _ _ _ h => h) (Or.inl ⟨by rfl, ?hyb25⟩) (by assumption) ?hrb25
    case hyb25 => (intro wt hSw; (try dsimp only at hSw); go_simp; try (with_reducible rfl))
    try simp only [Act.put, List.setIfInBounds_toArray, List.set_cons_zero, List.set_cons_succ]
    refine wpAnyH_take (i := 26) (v := ?hvb26) (List.getElem?_toArray.trans rfl) (by kernel_rfl) (by kernel_rfl) (by kernel_rfl) (fun _ _ _ h => h) (Or.inl ⟨by rfl, ?hyb26⟩) (by assumption) ?hrb26
    case hyb26 => (intro wt hSw; (try dsimp only at hSw); go_simp; try (with_reducible rfl))
    try simp only [Act.put, List.setIfInBounds_toArray, List.set_cons_zero, List.set_cons_succ]
    refine wpAnyH_ready (rs := [27]) (by kernel_rfl) (by simp) ?_
    refine AllReadyH.cons (List.getElem?_toArray.trans rfl) (fun K hK => ?_) AllReadyH.nil
    go_simp
    go_at_call 16
    refine (C16.out _ ?_).mono ?_
    · assumption
    rintro e w16 ⟨rfl, hk16⟩
    try (go_wp2_with fail)
    refine hK.out _ _ ?_ (fun hHeld => ?_)
    · (try dsimp only)
      assumption
    clear hK K
    try simp only [Act.put, List.setIfInBounds_toArray, List.set_cons_zero, List.set_cons_succ]
    refine wpAnyH_take (i := 28) (v := ?hvb28) (List.getElem?_toArray.trans rfl) (by kernel_rfl) (by kernel_rfl) (by kernel_rfl) (fun _ _ _ h => h) (Or.inl ⟨by rfl, ?hyb28⟩) (by assumption) ?hrb28
    case hyb28 => (intro wt hSw; (try dsimp only at hSw); go_simp; try (with_reducible rfl))
    try simp only [Act.put, List.setIfInBounds_toArray, List.set_cons_zero, List.set_cons_succ]
    refine wpAnyH_take (i := 29) (v := ?hvb29) (List.getElem?_toArray.trans rfl) (by kernel_rfl) (by kernel_rfl) (by kernel_rfl) (fun _ _ _ h => h) (Or.inl ⟨by rfl, ?hyb29⟩) (by assumption) ?hrb29
    case hyb29 => (intro wt hSw; (try dsimp only at hSw); go_simp; try (with_reducible rfl))
    try simp only [Act.put, List.setIfInBounds_toArray, List.set_cons_zero, List.set_cons_succ]
    refine wpAnyH_done (by kernel_rfl) ?_ _
    refine NoPanic.normal ?_
    go_wp2
    go_ret
    exact ⟨rfl, HB.out.trans (hk16.1.out.mono (by have := HB.out.size; omega))⟩
  · have hma : (PK.u64 ak : Int) % 5 = 2 := by omega
    have hmq : (PK.u64 kd : Int).tmod 5 = 2 := by rw [Int.tmod_eq_emod_of_nonneg (by omega)]; omega
    have hwq : IntKind.i64.wrap 2 = 2 := by decide
    rw [HT.out _ h5] at HRB
    clear h5 heq HT
    generalize PK.u64 ak = ua at *
    generalize PK.u64 kd = u at *
    go_wp2_with fail
    refine (HRB.out w6 (HE.out.below B6.out) R6.out).mono ?_
    rintro v w7 ⟨⟨y, rfl⟩, r7, f7⟩
    have g0 : w7.cell? ⟨w.heap.size, 0, none⟩ = some (.int .i64 kd) := f7.cell f0 (fun e => by have : w.heap.size = N := e; have := HM5.out; omega)
    have HDn : Hid (∀ W, Rd W N [] 0 → Calls Tryd.prog 13 #[.pointer (some ⟨N, 0, none⟩)] W fun e w' => e = .returned (.nilIface) ∧ W = w') := fun W h => done_any N [] 0 W h
    have R7 := Lib.hid r7
    have B7 : Hid (Below w.heap.size w w7) := B6.out.trans ⟨f7.os, f7.tape, f7.output, f7.size, fun k hk => f7.block k (by have := R6.out.lt; have := HM5.out; omega) (fun e => by have : k = N := e; have := HM5.out; omega)⟩
    clear r7 f7 R6 B6 f0 f2 HRU HRI HRB HRT HRX
    go_wp2_with fail
    refine (HDn.out w7 R7.out).mono ?_
    rintro e w8 ⟨rfl, rfl⟩
    clear HDn
    have hlt7 : w.heap.size < w7.heap.size := World.block_lt_of_cell? w7 _ g0
    have next : Hid (∀ W W' : World, (Hid (Below w7.heap.size w7 W) ∧ W.cell? ⟨w.heap.size, 0, none⟩ = some (.int .i64 kd)) → Below W.heap.size W W' → (Hid (Below w7.heap.size w7 W') ∧ W'.cell? ⟨w.heap.size, 0, none⟩ = some (.int .i64 kd))) := by
      rintro W W' ⟨h, _⟩ b
      have bb : Below w7.heap.size w7 W' := h.out.trans (b.mono h.out.size)
      exact ⟨Lib.hid bb, (World.cell?_of_block (bb.block _ hlt7)).trans g0⟩
    have C16 : Hid (∀ W : World, (Hid (Below w7.heap.size w7 W) ∧ W.cell? ⟨w.heap.size, 0, none⟩ = some (.int .i64 kd)) → Calls Tryd.prog 16 #[] W fun e w' => e = .returned (.bool true) ∧ (Hid (Below w7.heap.size w7 w') ∧ w'.cell? ⟨w.heap.size, 0, none⟩ = some (.int .i64 kd))) := fun W h =>
      (sure_any W ((HE.out.below B7.out).below h.1.out)).mono fun e w' hw => ⟨hw.1, next.out W w' h hw.2⟩
    have S7 : Hid (Below w7.heap.size w7 w7.drew) ∧ w7.drew.cell? ⟨w.heap.size, 0, none⟩ = some (.int .i64 kd) := ⟨Lib.hid (Below.refl _ _).drew, g0⟩
    have HB := B7
    clear next B7 R7 HE HV hlt7 g0
    go_wp2_with fail
    refine wp_region_noPanic ?_
    refine wp_region_held_drew (S := fun W => Hid (Below w7.heap.size w7 W) ∧ W.cell? ⟨w.heap.size, 0, none⟩ = some (.int .i64 kd)) (by kernel_rfl) S7 (fun hHeld => ?_)
    refine wpAnyH_take (i := 0) (v := ?hvc0) (List.getElem?_toArray.trans rfl) (by kernel_rfl) (by kernel_rfl) (by kernel_rfl) (fun _ _ _ h => h) (Or.inl ⟨by rfl, ?hyc0⟩) (by assumption) ?hrc0
    case hyc0 => (intro wt hSw; (try dsimp only at hSw); go_simp; try (with_reducible rfl))
    try simp only [Act.put, List.setIfInBounds_toArray, List.set_cons_zero, List.set_cons_succ]
    refine wpAnyH_take (i := 1) (v := ?hvc1) (List.getElem?_toArray.trans rfl) (by kernel_rfl) (by kernel_rfl) (by kernel_rfl) (fun _ _ _ h => h) (Or.inl ⟨by rfl, ?hyc1⟩) (by assumption) ?hrc1
    case hyc1 => (intro wt hSw; (try dsimp only at hSw); go_simp; try (with_reducible rfl))
    try simp only [Act.put, List.setIfInBounds_toArray, List.set_cons_zero, List.set_cons_succ]
    refine wpAnyH_take (i := 2) (v := ?hvc2) (List.getElem?_toArray.trans rfl) (by kernel_rfl) (by kernel_rfl) (by kernel_rfl) (fun _ _ _ h => h) (Or.inl ⟨by rfl, ?hyc2⟩) (by assumption) ?hrc2
    case hyc2 => (intro wt hSw; (try dsimp only at hSw); go_simp; try (with_reducible rfl))
    try simp only [Act.put, List.setIfInBounds_toArray, List.set_cons_zero, List.set_cons_succ]
    refine wpAnyH_take (i := 3) (v := ?hvc3) (List.getElem?_toArray.trans rfl) (by kernel_rfl) (by kernel_rfl) (by kernel_rfl) (fun _ _ _ h => h) (Or.inl ⟨by rfl, ?hyc3⟩) (by assumption) ?hrc3
    case hyc3 => (intro wt hSw; (try dsimp only at hSw); go_simp; try (with_reducible rfl))
    try simp only [Act.put, List.setIfInBounds_toArray, List.set_cons_zero, List.set_cons_succ]
    refine wpAnyH_take (i := 4) (v := ?hvc4) (List.getElem?_toArray.trans rfl) (by kernel_rfl) (by kernel_rfl) (by kernel_rfl) (fun _ _ _ h => h) (Or.inl ⟨by rfl, ?hyc4⟩) (by assumption) ?hrc4
    case hyc4 => (intro wt hSw; (try dsimp only at hSw); go_simp; try (with_reducible rfl))
    try simp only [Act.put, List.setIfInBounds_toArray, List.set_cons_zero, List.set_cons_succ]
    refine wpAnyH_take (i := 5) (v := ?hvc5) (List.getElem?_toArray.trans rfl) (by kernel_rfl) (by kernel_rfl) (by kernel_rfl) (fun _ _ _ h => h) (Or.inl ⟨by rfl, ?hyc5⟩) (by assumption) ?hrc5
    case hyc5 => (intro wt hSw; (try dsimp only at hSw); go_simp; try (with_reducible rfl))
    try simp only [Act.put, List.setIfInBounds_toArray, List.set_cons_zero, List.set_cons_succ]
    refine wpAnyH_take (i := 6) (v := ?hvc6) (List.getElem?_toArray.trans rfl) (by kernel_rfl) (by kernel_rfl) (by kernel_rfl) (fun _ _ _ h => h) (Or.inl ⟨by rfl, ?hyc6⟩) (by assumption) ?hrc6
    case hyc6 => (intro wt hSw; (try dsimp only at hSw); go_simp; try (with_reducible rfl))
    try simp only [Act.put, List.setIfInBounds_toArray, List.set_cons_zero, List.set_cons_succ]
    refine wpAnyH_take (i := 7) (v := ?hvc7) (List.getElem?_toArray.trans rfl) (by kernel_rfl) (by kernel_rfl) (by kernel_rfl) (fun _ _ _ h => h) (Or.inl ⟨by rfl, ?hyc7⟩) (by assumption) ?hrc7
    case hyc7 => (intro wt hSw; (try dsimp only at hSw); go_simp; try (with_reducible rfl))
    try simp only [Act.put, List.setIfInBounds_toArray, List.set_cons_zero, List.set_cons_succ]
    refine wpAnyH_take (i := 8) (v := ?hvc8) (List.getElem?_toArray.trans rfl) (by kernel_rfl) (by kernel_rfl) (by kernel_rfl) (fun _ _ _ h => h) (Or.inl ⟨by rfl, ?hyc8⟩) (by assumption) ?hrc8
    case hyc8 => (intro wt hSw; (try dsimp only at hSw); go_simp; try (with_reducible rfl))
    try simp only [Act.put, List.setIfInBounds_toArray, List.set_cons_zero, List.set_cons_succ]
    refine wpAnyH_take (i := 9) (v := ?hvc9) (List.getElem?_toArray.trans rfl) (by kernel_rfl) (by kernel_rfl) (by kernel_rfl) (fun _ _ _ h => h) (Or.inl ⟨by rfl, ?hyc9⟩) (by assumption) ?hrc9
    case hyc9 => (intro wt hSw; (try dsimp only at hSw); go_simp; try (with_reducible rfl))
    try simp only [Act.put, List.setIfInBounds_toArray, List.set_cons_zero, List.set_cons_succ]
    refine wpAnyH_take (i := 10) (v := ?hvc10) (List.getElem?_toArray.trans rfl) (by kernel_rfl) (by kernel_rfl) (by kernel_rfl) (fun _ _ _ h => h) (Or.inl ⟨by rfl, ?hyc10⟩) (by assumption) ?hrc10
    case hyc10 => (intro wt hSw; (try dsimp only at hSw); go_simp; try (with_reducible rfl))
    try simp only [Act.put, List.setIfInBounds_toArray, List.set_cons_zero, List.set_cons_succ]
    refine wpAnyH_take (i := 11) (v := ?hvc11) (List.getElem?_toArray.trans rfl) (by kernel_rfl) (by kernel_rfl) (by kernel_rfl) (fun _ _ _ h => h) (Or.inl ⟨by rfl, ?hyc11⟩) (by assumption) ?hrc11
    case hyc11 => (intro wt hSw; (try dsimp only at hSw); go_simp; try (with_reducible rfl))
    try simp only [Act.put, List.setIfInBounds_toArray, List.set_cons_zero, List.set_cons_succ]
    refine wpAnyH_take (i := 12) (v := ?hvc12) (List.getElem?_toArray.trans rfl) (by kernel_rfl) (by kernel_rfl) (by kernel_rfl) (fun _ _ _ h => h) (Or.inl ⟨by rfl, ?hyc12⟩) (by assumption) ?hrc12
    case hyc12 => (intro wt hSw; (try dsimp only at hSw); go_simp; try (with_reducible rfl))
    try simp only [Act.put, List.setIfInBounds_toArray, List.set_cons_zero, List.set_cons_succ]
    refine wpAnyH_take (i := 13) (v := ?hvc13) (List.getElem?_toArray.trans rfl) (by kernel_rfl) (by kernel_rfl) (by kernel_rfl) (fun _ _ _ h => h) (Or.inl ⟨by rfl, ?hyc13⟩) (by assumption) ?hrc13
    case hyc13 => (intro wt hSw; (try dsimp only at hSw); go_simp; try (with_reducible rfl))
    try simp only [Act.put, List.setIfInBounds_toArray, List.set_cons_zero, List.set_cons_succ]
    refine wpAnyH_take (i := 14) (v := undef) (List.getElem?_toArray.trans rfl) (by kernel_rfl) (by kernel_rfl) (by kernel_rfl) (fun _ _ _ h => h) (Or.inr ⟨by rfl, rfl⟩) (by assumption) ?_
    try simp only [Act.put, List.setIfInBounds_toArray, List.set_cons_zero, List.set_cons_succ]
    refine wpAnyH_take (i := 15) (v := undef) (List.getElem?_toArray.trans rfl) (by kernel_rfl) (by kernel_rfl) (by kernel_rfl) (fun _ _ _ h => h) (Or.inr ⟨by rfl, rfl⟩) (by assumption) ?_
    try simp only [Act.put, List.setIfInBounds_toArray, List.set_cons_zero, List.set_cons_succ]
    refine wpAnyH_take (i := 16) (v := undef) (List.getElem?_toArray.trans rfl) (by kernel_rfl) (by kernel_rfl) (by kernel_rfl) (fun _ _ _ h => h) (Or.inr ⟨by rfl, rfl⟩) (by assumption) ?_
    try simp only [Act.put, List.setIfInBounds_toArray, List.set_cons_zero, List.set_cons_succ]
    refine wpAnyH_take (i := 17) (v := undef) (List.getElem?_toArray.trans rfl) (by kernel_rfl) (by kernel_rfl) (by kernel_rfl) (fun _ _ _ h => h) (Or.inr ⟨by rfl, rfl⟩) (by assumption) ?_
    try simp only [Act.put, List.setIfInBounds_toArray, List.set_cons_zero, List.set_cons_succ]
    refine wpAnyH_take (i := 18) (v := undef) (List.getElem?_toArray.trans rfl) (by kernel_rfl) (by kernel_rfl) (by kernel_rfl) (fun _ _ _ h => h) (Or.inr ⟨by rfl, rfl⟩) (by assumption) ?_
    try simp only [Act.put, List.setIfInBounds_toArray, List.set_cons_zero, List.set_cons_succ]
    refine wpAnyH_take (i := 19) (v := undef) (List.getElem?_toArray.trans rfl) (by kernel_rfl) (by kernel_rfl) (by kernel_rfl) (fun _ _ _ h => h) (Or.inr ⟨by rfl, rfl⟩) (by assumption) ?_
    try simp only [Act.put, List.setIfInBounds_toArray, List.set_cons_zero, List.set_cons_succ]
    refine wpAnyH_take (i := 20) (v := undef) (List.getElem?_toArray.trans rfl) (by kernel_rfl) (by kernel_rfl) (by kernel_rfl) (fun _ _ _ h => h) (Or.inr ⟨by rfl, rfl⟩) (by assumption) ?_
    try simp only [Act.put, List.setIfInBounds_toArray, List.set_cons_zero, List.set_cons_succ]
    refine wpAnyH_take (i := 21) (v := undef) (List.getElem?_toArray.trans rfl) (by kernel_rfl) (by kernel_rfl) (by kernel_rfl) (fun _ _ _ h => h) (Or.inr ⟨by rfl, rfl⟩) (by assumption) ?_
    try simp only [Act.put, List.setIfInBounds_toArray, List.set_cons_zero, List.set_cons_succ]
    refine wpAnyH_take (i := 22) (v := undef) (List.getElem?_toArray.trans rfl) (by kernel_rfl) (by kernel_rfl) (by kernel_rfl) (fun _ _ _ h => h) (Or.inr ⟨by rfl, rfl⟩) (by assumption) ?_
    try simp only [Act.put, List.setIfInBounds_toArray, List.set_cons_zero, List.set_cons_succ]
    refine wpAnyH_take (i := 23) (v := undef) (List.getElem?_toArray.trans rfl) (by kernel_rfl) (by kernel_rfl) (by kernel_rfl) (fun _ _ _ h => h) (Or.inr ⟨by rfl, rfl⟩) (by assumption) ?_
    try simp only [Act.put, List.setIfInBounds_toArray, List.set_cons_zero, List.set_cons_succ]
    refine wpAnyH_take (i := 24) (v := ?hvc24) (List.getElem?_toArray.trans rfl) (by kernel_rfl) (by kernel_rfl) (by kernel_rfl) (fun _ _ _ h => h) (Or.inl ⟨by rfl, ?hyc24⟩) (by assumption) ?hrc24
    case hyc24 => (intro wt hSw; (try dsimp only at hSw); go_simp; try (with_reducible rfl))
    try simp only [Act.put, List.setIfInBounds_toArray, List.set_cons_zero, List.set_cons_succ]
    refine wpAnyH_take (i := 25) (v := ?hvc25) (List.getElem?_toArray.trans rfl) (by kernel_rfl) (by kernel_rfl) (by kernel_rfl) (fun _ _ _ h => h) (Or.inl ⟨by rfl, ?hyc25⟩) (by assumption) ?hrc25
    case hyc25 => (intro wt hSw; (try dsimp only at hSw); go_simp; try (with_reducible rfl))
    try simp only [Act.put, List.setIfInBounds_toArray, List.set_cons_zero, List.set_cons_succ]
    refine wpAnyH_take (i := 26) (v := ?hvc26) (List.getElem?_toArray.trans rfl) (by kernel_rfl) (by kernel_rfl) (by kernel_rfl) (fun _ _ _ h => h) (Or.inl ⟨by rfl, ?hyc26⟩) (by assumption) ?hrc26
    case hyc26 => (intro wt hSw; (try dsimp only at hSw); go_simp; try (with_reducible rfl))
    try simp only [Act.put, List.setIfInBounds_toArray, List.set_cons_zero, List.set_cons_succ]
    refine wpAnyH_ready (rs := [27]) (by kernel_rfl) (by simp) ?_
    refine AllReadyH.cons (List.getElem?_toArray.trans rfl) (fun K hK => ?_) AllReadyH.nil
    go_simp
    go_at_call 16
    refine (C16.out _ ?_).mono ?_
    · assumption
    rintro e w16 ⟨rfl, hk16⟩
    try (go_wp2_with fail)
    refine hK.out _ _ ?_ (fun hHeld => ?_)
    · (try dsimp only)
      assumption
    clear hK K
    try simp only [Act.put, List.setIfInBounds_toArray, List.set_cons_zero, List.set_cons_succ]
    refine wpAnyH_take (i := 28) (v := ?hvc28) (List.getElem?_toArray.trans rfl) (by kernel_rfl) (by kernel_rfl) (by kernel_rfl) (fun _ _ _ h => h) (Or.inl ⟨by rfl, ?hyc28⟩) (by assumption) ?hrc28
    case hyc28 => (intro wt hSw; (try dsimp only at hSw); go_simp; try (with_reducible rfl))
    try simp only [Act.put, List.setIfInBounds_toArray, List.set_cons_zero, List.set_cons_succ]
    refine wpAnyH_take (i := 29) (v := ?hvc29) (List.getElem?_toArray.trans rfl) (by kernel_rfl) (by kernel_rfl) (by kernel_rfl) (fun _ _ _ h => h) (Or.inl ⟨by rfl, ?hyc29⟩) (by assumption) ?hrc29
    case hyc29 => (intro wt hSw; (try dsimp only at hSw); go_simp; try (with_reducible rfl))
    try simp only [Act.put, List.setIfInBounds_toArray, List.set_cons_zero, List.set_cons_succ]
    refine wpAnyH_done (by kernel_rfl) ?_ _
    refine NoPanic.normal ?_
    go_wp2
    go_ret
    exact ⟨rfl, HB.out.trans (hk16.1.out.mono (by have := HB.out.size; omega))⟩
  · have hma : (PK.u64 ak : Int) % 5 = 3 := by omega
    have hmq : (PK.u64 kd : Int).tmod 5 = 3 := by rw [Int.tmod_eq_emod_of_nonneg (by omega)]; omega
    have hwq : IntKind.i64.wrap 3 = 3 := by decide
    rw [HT.out _ h5] at HRT
    clear h5 heq HT
    generalize PK.u64 ak = ua at *
    generalize PK.u64 kd = u at *
    go_wp2_with fail
    refine (HRT.out w6 (HE.out.below B6.out) R6.out).mono ?_
    rintro v w7 ⟨⟨y, rfl⟩, r7, f7⟩
    have g0 : w7.cell? ⟨w.heap.size, 0, none⟩ = some (.int .i64 kd) := f7.cell f0 (fun e => by have : w.heap.size = N := e; have := HM5.out; omega)
    have HDn : Hid (∀ W, Rd W N [] 0 → Calls Tryd.prog 13 #[.pointer (some ⟨N, 0, none⟩)] W fun e w' => e = .returned (.nilIface) ∧ W = w') := fun W h => done_any N [] 0 W h
    have R7 := Lib.hid r7
    have B7 : Hid (Below w.heap.size w w7) := B6.out.trans ⟨f7.os, f7.tape, f7.output, f7.size, fun k hk => f7.block k (by have := R6.out.lt; have := HM5.out; omega) (fun e => by have : k = N := e; have := HM5.out; omega)⟩
    clear r7 f7 R6 B6 f0 f2 HRU HRI HRB HRT HRX
    go_wp2_with fail
    refine (HDn.out w7 R7.out).mono ?_
    rintro e w8 ⟨rfl, rfl⟩
    clear HDn
    have hlt7 : w.heap.size < w7.heap.size := World.block_lt_of_cell? w7 _ g0
    have next : Hid (∀ W W' : World, (Hid (Below w7.heap.size w7 W) ∧ W.cell? ⟨w.heap.size, 0, none⟩ = some (.int .i64 kd)) → Below W.heap.size W W' → (Hid (Below w7.heap.size w7 W') ∧ W'.cell? ⟨w.heap.size, 0, none⟩ = some (.int .i64 kd))) := by
      rintro W W' ⟨h, _⟩ b
      have bb : Below w7.heap.size w7 W' := h.out.trans (b.mono h.out.size)
      exact ⟨Lib.hid bb, (World.cell?_of_block (bb.block _ hlt7)).trans g0⟩
    have C16 : Hid (∀ W : World, (Hid (Below w7.heap.size w7 W) ∧ W.cell? ⟨w.heap.size, 0, none⟩ = some (.int .i64 kd)) → Calls Tryd.prog 16 #[] W fun e w' => e = .returned (.bool true) ∧ (Hid (Below w7.heap.size w7 w') ∧ w'.cell? ⟨w.heap.size, 0, none⟩ = some (.int .i64 kd))) := fun W h =>
      (sure_any W ((HE.out.below B7.out).below h.1.out)).mono fun e w' hw => ⟨hw.1, next.out W w' h hw.2⟩
    have S7 : Hid (Below w7.heap.size w7 w7.drew) ∧ w7.drew.cell? ⟨w.heap.size, 0, none⟩ = some (.int .i64 kd) := ⟨Lib.hid (Below.refl _ _).drew, g0⟩
    have HB := B7
    clear next B7 R7 HE HV hlt7 g0
    go_wp2_with fail
    refine wp_region_noPanic ?_
    refine wp_region_held_drew (S := fun W => Hid (Below w7.heap.size w7 W) ∧ W.cell? ⟨w.heap.size, 0, none⟩ = some (.int .i64 kd)) (by kernel_rfl) S7 (fun hHeld => ?_)
    refine wpAnyH_take (i := 0) (v := ?hvd0) (List.getElem?_toArray.trans rfl) (by kernel_rfl) (by kernel_rfl) (by kernel_rfl) (fun _ _ _ h => h) (Or.inl ⟨by rfl, ?hyd0⟩) (by assumption) ?hrd0
    case hyd0 => (intro wt hSw; (try dsimp only at hSw); go_simp; try (with_reducible rfl))
    try simp only [Act.put, List.setIfInBounds_toArray, List.set_cons_zero, List.set_cons_succ]
    refine wpAnyH_take (i := 1) (v := ?hvd1) (List.getElem?_toArray.trans rfl) (by kernel_rfl) (by kernel_rfl) (by kernel_rfl) (fun _ _ _ h => h) (Or.inl ⟨by rfl, ?hyd1⟩) (by assumption) ?hrd1
    case hyd1 => (intro wt hSw; (try dsimp only at hSw); go_simp; try (with_reducible rfl))
    try simp only [Act.put, List.setIfInBounds_toArray, List.set_cons_zero, List.set_cons_succ]
    refine wpAnyH_take (i := 2) (v := ?hvd2) (List.getElem?_toArray.trans rfl) (by kernel_rfl) (by kernel_rfl) (by kernel_rfl) (fun _ _ _ h => h) (Or.inl ⟨by rfl, ?hyd2⟩) (by assumption) ?hrd2
    case hyd2 => (intro wt hSw; (try dsimp only at hSw); go_simp; try (with_reducible rfl))
    try simp only [Act.put, List.setIfInBounds_toArray, List.set_cons_zero, List.set_cons_succ]
    refine wpAnyH_take (i := 3) (v := ?hvd3) (List.getElem?_toArray.trans rfl) (by kernel_rfl) (by kernel_rfl) (by kernel_rfl) (fun _ _ _ h => h) (Or.inl ⟨by rfl, ?hyd3⟩) (by assumption) ?hrd3
    case hyd3 => (intro wt hSw; (try dsimp only at hSw); go_simp; try (with_reducible rfl))
    try simp only [Act.put, List.setIfInBounds_toArray, List.set_cons_zero, List.set_cons_succ]
    refine wpAnyH_take (i := 4) (v := ?hvd4) (List.getElem?_toArray.trans rfl) (by kernel_rfl) (by kernel_rfl) (by kernel_rfl) (fun _ _ _ h => h) (Or.inl ⟨by rfl, ?hyd4⟩) (by assumption) ?hrd4
    case hyd4 => (intro wt hSw; (try dsimp only at hSw); go_simp; try (with_reducible rfl))
    try simp only [Act.put, List.setIfInBounds_toArray, List.set_cons_zero, List.set_cons_succ]
    refine wpAnyH_take (i := 5) (v := ?hvd5) (List.getElem?_toArray.trans rfl) (by kernel_rfl) (by kernel_rfl) (by kernel_rfl) (fun _ _ _ h => h) (Or.inl ⟨by rfl, ?hyd5⟩) (by assumption) ?hrd5
    case hyd5 => (intro wt hSw; (try dsimp only at hSw); go_simp; try (with_reducible rfl))
    try simp only [Act.put, List.setIfInBounds_toArray, List.set_cons_zero, List.set_cons_succ]
    refine wpAnyH_take (i := 6) (v := ?hvd6) (List.getElem?_toArray.trans rfl) (by kernel_rfl) (by kernel_rfl) (by kernel_rfl) (fun _ _ _ h => h) (Or.inl ⟨by rfl, ?hyd6⟩) (by assumption) ?hrd6
    case hyd6 => (intro wt hSw; (try dsimp only at hSw); go_simp; try (with_reducible rfl))
    try simp only [Act.put, List.setIfInBounds_toArray, List.set_cons_zero, List.set_cons_succ]
    refine wpAnyH_take (i := 7) (v := ?hvd7) (List.getElem?_toArray.trans rfl) (by kernel_rfl) (by kernel_rfl) (by kernel_rfl) (fun _ _ _ h => h) (Or.inl ⟨by rfl, ?hyd7⟩) (by assumption) ?hrd7
    case hyd7 => (intro wt hSw; (try dsimp only at hSw); go_simp; try (with_reducible rfl))
    try simp only [Act.put, List.setIfInBounds_toArray, List.set_cons_zero, List.set_cons_succ]
    refine wpAnyH_take (i := 8) (v := ?hvd8) (List.getElem?_toArray.trans rfl) (by kernel_rfl) (by kernel_rfl) (by kernel_rfl) (fun _ _ _ h => h) (Or.inl ⟨by rfl, ?hyd8⟩) (by assumption) ?hrd8
    case hyd8 => (intro wt hSw; (try dsimp only at hSw); go_simp; try (with_reducible rfl))
    try simp only [Act.put, List.setIfInBounds_toArray, List.set_cons_zero, List.set_cons_succ]
    refine wpAnyH_take (i := 9) (v := ?hvd9) (List.getElem?_toArray.trans rfl) (by kernel_rfl) (by kernel_rfl) (by kernel_rfl) (fun _ _ _ h => h) (Or.inl ⟨by rfl, ?hyd9⟩) (by assumption) ?hrd9
    case hyd9 => (intro wt hSw; (try dsimp only at hSw); go_simp; try (with_reducible rfl))
    try simp only [Act.put, List.setIfInBounds_toArray, List.set_cons_zero, List.set_cons_succ]
    refine wpAnyH_take (i := 10) (v := ?hvd10) (List.getElem?_toArray.trans rfl) (by kernel_rfl) (by kernel_rfl) (by kernel_rfl) (fun _ _ _ h => h) (Or.inl ⟨by rfl, ?hyd10⟩) (by assumption) ?hrd10
    case hyd10 => (intro wt hSw; (try dsimp only at hSw); go_simp; try (with_reducible rfl))
    try simp only [Act.put, List.setIfInBounds_toArray, List.set_cons_zero, List.set_cons_succ]
    refine wpAnyH_take (i := 11) (v := ?hvd11) (List.getElem?_toArray.trans rfl) (by kernel_rfl) (by kernel_rfl) (by kernel_rfl) (fun _ _ _ h => h) (Or.inl ⟨by rfl, ?hyd11⟩) (by assumption) ?hrd11
    case hyd11 => (intro wt hSw; (try dsimp only at hSw); go_simp; try (with_reducible rfl))
    try simp only [Act.put, List.setIfInBounds_toArray, List.set_cons_zero, List.set_cons_succ]
    refine wpAnyH_take (i := 12) (v := ?hvd12) (List.getElem?_toArray.trans rfl) (by kernel_rfl) (by kernel_rfl) (by kernel_rfl) (fun _ _ _ h => h) (Or.inl ⟨by rfl, ?hyd12⟩) (by assumption) ?hrd12
    case hyd12 => (intro wt hSw; (try dsimp only at hSw); go_simp; try (with_reducible rfl))
    try simp only [Act.put, List.setIfInBounds_toArray, List.set_cons_zero, List.set_cons_succ]
    refine wpAnyH_take (i := 13) (v := ?hvd13) (List.getElem?_toArray.trans rfl) (by kernel_rfl) (by kernel_rfl) (by kernel_rfl) (fun _ _ _ h => h) (Or.inl ⟨by rfl, ?hyd13⟩) (by assumption) ?hrd13
    case hyd13 => (intro wt hSw; (try dsimp only at hSw); go_simp; try (with_reducible rfl))
    try simp only [Act.put, List.setIfInBounds_toArray, List.set_cons_zero, List.set_cons_succ]
    refine wpAnyH_take (i := 14) (v := undef) (List.getElem?_toArray.trans rfl) (by kernel_rfl) (by kernel_rfl) (by kernel_rfl) (fun _ _ _ h => h) (Or.inr ⟨by rfl, rfl⟩) (by assumption) ?_
    try simp only [Act.put, List.setIfInBounds_toArray, List.set_cons_zero, List.set_cons_succ]
    refine wpAnyH_take (i := 15) (v := undef) (List.getElem?_toArray.trans rfl) (by kernel_rfl) (by kernel_rfl) (by kernel_rfl) (fun _ _ _ h => h) (Or.inr ⟨by rfl, rfl⟩) (by assumption) ?_
    try simp only [Act.put, List.setIfInBounds_toArray, List.set_cons_zero, List.set_cons_succ]
    refine wpAnyH_take (i := 16) (v := undef) (List.getElem?_toArray.trans rfl) (by kernel_rfl) (by kernel_rfl) (by kernel_rfl) (fun _ _ _ h => h) (Or.inr ⟨by rfl, rfl⟩) (by assumption) ?_
    try simp only [Act.put, List.setIfInBounds_toArray, List.set_cons_zero, List.set_cons_succ]
    refine wpAnyH_take (i := 17) (v := undef) (List.getElem?_toArray.trans rfl) (by kernel_rfl) (by kernel_rfl) (by kernel_rfl) (fun _ _ _ h => h) (Or.inr ⟨by rfl, rfl⟩) (by assumption) ?_
    try simp only [Act.put, List.setIfInBounds_toArray, List.set_cons_zero, List.set_cons_succ]
    refine wpAnyH_take (i := 18) (v := undef) (List.getElem?_toArray.trans rfl) (by kernel_rfl) (by kernel_rfl) (by kernel_rfl) (fun _ _ _ h => h) (Or.inr ⟨by rfl, rfl⟩) (by assumption) ?_
    try simp only [Act.put, List.setIfInBounds_toArray, List.set_cons_zero, List.set_cons_succ]
    refine wpAnyH_take (i := 19) (v := undef) (List.getElem?_toArray.trans rfl) (by kernel_rfl) (by kernel_rfl) (by kernel_rfl) (fun _ _ _ h => h) (Or.inr ⟨by rfl, rfl⟩) (by assumption) ?_
    try simp only [Act.put, List.setIfInBounds_toArray, List.set_cons_zero, List.set_cons_succ]
    refine wpAnyH_take (i := 20) (v := undef) (List.getElem?_toArray.trans rfl) (by kernel_rfl) (by kernel_rfl) (by kernel_rfl) (fun _ _ _ h => h) (Or.inr ⟨by rfl, rfl⟩) (by assumption) ?_
    try simp only [Act.put, List.setIfInBounds_toArray, List.set_cons_zero, List.set_cons_succ]
    refine wpAnyH_take (i := 21) (v := undef) (List.getElem?_toArray.trans rfl) (by kernel_rfl) (by kernel_rfl) (by kernel_rfl) (fun _ _ _ h => h) (Or.inr ⟨by rfl, rfl⟩) (by assumption) ?_
    try simp only [Act.put, List.setIfInBounds_toArray, List.set_cons_zero, List.set_cons_succ]
    refine wpAnyH_take (i := 22) (v := undef) (List.getElem?_toArray.trans rfl) (by kernel_rfl) (by kernel_rfl) (by kernel_rfl) (fun _ _ _ h => h) (Or.inr ⟨by rfl, rfl⟩) (by assumption) ?_
    try simp only [Act.put, List.setIfInBounds_toArray, List.set_cons_zero, List.set_cons_succ]
    refine wpAnyH_take (i := 23) (v := undef) (List.getElem?_toArray.trans rfl) (by kernel_rfl) (by kernel_rfl) (by kernel_rfl) (fun _ _ _ h => h) (Or.inr ⟨by rfl, rfl⟩) (by assumption) ?_
    try simp only [Act.put, List.setIfInBounds_toArray, List.set_cons_zero, List.set_cons_succ]
    refine wpAnyH_take (i := 24) (v := ?hvd24) (List.getElem?_toArray.trans rfl) (by kernel_rfl) (by kernel_rfl) (by kernel_rfl) (fun _ _ _ h => h) (Or.inl ⟨by rfl, ?hyd24⟩) (by assumption) ?hrd24
    case hyd24 => (intro wt hSw; (try dsimp only at hSw); go_simp; try (with_reducible rfl))
    try simp only [Act.put, List.setIfInBounds_toArray, List.set_cons_zero, List.set_cons_succ]
    refine wpAnyH_take (i := 25) (v := ?hvd25) (List.getElem?_toArray.trans rfl) (by kernel_rfl) (by kernel_rfl) (by kernel_rfl) (fun _ _ _ h => h) (Or.inl ⟨by rfl, ?hyd25⟩) (by assumption) ?hrd25
    case hyd25 => (intro wt hSw; (try dsimp only at hSw); go_simp; try (with_reducible rfl))
    try simp only [Act.put, List.setIfInBounds_toArray, List.set_cons_zero, List.set_cons_succ]
    refine wpAnyH_take (i := 26) (v := ?hvd26) (List.getElem?_toArray.trans rfl) (by kernel_rfl) (by kernel_rfl) (by kernel_rfl) (fun _ _ _ h => h) (Or.inl ⟨by rfl, ?hyd26⟩) (by assumption) ?hrd26
    case hyd26 => (intro wt hSw; (try dsimp only at hSw); go_simp; try (with_reducible rfl))
    try simp only [Act.put, List.setIfInBounds_toArray, List.set_cons_zero, List.set_cons_succ]
    refine wpAnyH_ready (rs := [27]) (by kernel_rfl) (by simp) ?_
    refine AllReadyH.cons (List.getElem?_toArray.trans rfl) (fun K hK => ?_) AllReadyH.nil
    go_simp
    go_at_call 16
    refine (C16.out _ ?_).mono ?_
    · assumption
    rintro e w16 ⟨rfl, hk16⟩
    try (go_wp2_with fail)
    refine hK.out _ _ ?_ (fun hHeld => ?_)
    · (try dsimp only)
      assumption
    clear hK K
    try simp only [Act.put, List.setIfInBounds_toArray, List.set_cons_zero, List.set_cons_succ]
    refine wpAnyH_take (i := 28) (v := ?hvd28) (List.getElem?_toArray.trans rfl) (by kernel_rfl) (by kernel_rfl) (by kernel_rfl) (fun _ _ _ h => h) (Or.inl ⟨by rfl, ?hyd28⟩) (by assumption) ?hrd28
    case hyd28 => (intro wt hSw; (try dsimp only at hSw); go_simp; try (with_reducible rfl))
    try simp only [Act.put, List.setIfInBounds_toArray, List.set_cons_zero, List.set_cons_succ]
    refine wpAnyH_take (i := 29) (v := ?hvd29) (List.getElem?_toArray.trans rfl) (by kernel_rfl) (by kernel_rfl) (by kernel_rfl) (fun _ _ _ h => h) (Or.inl ⟨by rfl, ?hyd29⟩) (by assumption) ?hrd29
    case hyd29 => (intro wt hSw; (try dsimp only at hSw); go_simp; try (with_reducible rfl))
    try simp only [Act.put, List.setIfInBounds_toArray, List.set_cons_zero, List.set_cons_succ]
    refine wpAnyH_done (by kernel_rfl) ?_ _
    refine NoPanic.normal ?_
    go_wp2
    go_ret
    exact ⟨rfl, HB.out.trans (hk16.1.out.mono (by have := HB.out.size; omega))⟩
  · have hma : (PK.u64 ak : Int) % 5 = 4 := by omega
    have hmq : (PK.u64 kd : Int).tmod 5 = 4 := by rw [Int.tmod_eq_emod_of_nonneg (by omega)]; omega
    have hwq : IntKind.i64.wrap 4 = 4 := by decide
    rw [HT.out _ h5] at HRX
    clear h5 heq HT
    generalize PK.u64 ak = ua at *
    generalize PK.u64 kd = u at *
    go_wp2_with fail
    refine (HRX.out w6 (HE.out.below B6.out) R6.out).mono ?_
    rintro v w7 ⟨⟨y, rfl⟩, r7, f7⟩
    have g0 : w7.cell? ⟨w.heap.size, 0, none⟩ = some (.int .i64 kd) := f7.cell f0 (fun e => by have : w.heap.size = N := e; have := HM5.out; omega)
    have HDn : Hid (∀ W, Rd W N [] 0 → Calls Tryd.prog 13 #[.pointer (some ⟨N, 0, none⟩)] W fun e w' => e = .returned (.nilIface) ∧ W = w') := fun W h => done_any N [] 0 W h
    have R7 := Lib.hid r7
    have B7 : Hid (Below w.heap.size w w7) := B6.out.trans ⟨f7.os, f7.tape, f7.output, f7.size, fun k hk => f7.block k (by have := R6.out.lt; have := HM5.out; omega) (fun e => by have : k = N := e; have := HM5.out; omega)⟩
    clear r7 f7 R6 B6 f0 f2 HRU HRI HRB HRT HRX
    go_wp2_with fail
    refine (HDn.out w7 R7.out).mono ?_
    rintro e w8 ⟨rfl, rfl⟩
    clear HDn
    have hlt7 : w.heap.size < w7.heap.size := World.block_lt_of_cell? w7 _ g0
    have next : Hid (∀ W W' : World, (Hid (Below w7.heap.size w7 W) ∧ W.cell? ⟨w.heap.size, 0, none⟩ = some (.int .i64 kd)) → Below W.heap.size W W' → (Hid (Below w7.heap.size w7 W') ∧ W'.cell? ⟨w.heap.size, 0, none⟩ = some (.int .i64 kd))) := by
      rintro W W' ⟨h, _⟩ b
      have bb : Below w7.heap.size w7 W' := h.out.trans (b.mono h.out.size)
      exact ⟨Lib.hid bb, (World.cell?_of_block (bb.block _ hlt7)).trans g0⟩
    have C16 : Hid (∀ W : World, (Hid (Below w7.heap.size w7 W) ∧ W.cell? ⟨w.heap.size, 0, none⟩ = some (.int .i64 kd)) → Calls Tryd.prog 16 #[] W fun e w' => e = .returned (.bool true) ∧ (Hid (Below w7.heap.size w7 w') ∧ w'.cell? ⟨w.heap.size, 0, none⟩ = some (.int .i64 kd))) := fun W h =>
      (sure_any W ((HE.out.below B7.out).below h.1.out)).mono fun e w' hw => ⟨hw.1, next.out W w' h hw.2⟩
    have S7 : Hid (Below w7.heap.size w7 w7.drew) ∧ w7.drew.cell? ⟨w.heap.size, 0, none⟩ = some (.int .i64 kd) := ⟨Lib.hid (Below.refl _ _).drew, g0⟩
    have HB := B7
    clear next B7 R7 HE HV hlt7 g0
    go_wp2_with fail
    refine wp_region_noPanic ?_
    refine wp_region_held_drew (S := fun W => Hid (Below w7.heap.size w7 W) ∧ W.cell? ⟨w.heap.size, 0, none⟩ = some (.int .i64 kd)) (by kernel_rfl) S7 (fun hHeld => ?_)
    refine wpAnyH_take (i := 0) (v := ?hve0) (List.getElem?_toArray.trans rfl) (by kernel_rfl) (by kernel_rfl) (by kernel_rfl) (fun _ _ _ h => h) (Or.inl ⟨by rfl, ?hye0⟩) (by assumption) ?hre0
    case hye0 => (intro wt hSw; (try dsimp only at hSw); go_simp; try (with_reducible rfl))
    try simp only [Act.put, List.setIfInBounds_toArray, List.set_cons_zero, List.set_cons_succ]
    refine wpAnyH_take (i := 1) (v := ?hve1) (List.getElem?_toArray.trans rfl) (by kernel_rfl) (by kernel_rfl) (by kernel_rfl) (fun _ _ _ h => h) (Or.inl ⟨by rfl, ?hye1⟩) (by assumption) ?hre1
    case hye1 => (intro wt hSw; (try dsimp only at hSw); go_simp; try (with_reducible rfl))
    try simp only [Act.put, List.setIfInBounds_toArray, List.set_cons_zero, List.set_cons_succ]
    refine wpAnyH_take (i := 2) (v := ?hve2) (List.getElem?_toArray.trans rfl) (by kernel_rfl) (by kernel_rfl) (by kernel_rfl) (fun _ _ _ h => h) (Or.inl ⟨by rfl, ?hye2⟩) (by assumption) ?hre2
    case hye2 => (intro wt hSw; (try dsimp only at hSw); go_simp; try (with_reducible rfl))
    try simp only [Act.put, List.setIfInBounds_toArray, List.set_cons_zero, List.set_cons_succ]
    refine wpAnyH_take (i := 3) (v := ?hve3) (List.getElem?_toArray.trans rfl) (by kernel_rfl) (by kernel_rfl) (by kernel_rfl) (fun _ _ _ h => h) (Or.inl ⟨by rfl, ?hye3⟩) (by assumption) ?hre3
    case hye3 => (intro wt hSw; (try dsimp only at hSw); go_simp; try (with_reducible rfl))
    try simp only [Act.put, List.setIfInBounds_toArray, List.set_cons_zero, List.set_cons_succ]
    refine wpAnyH_take (i := 4) (v := ?hve4) (List.getElem?_toArray.trans rfl) (by kernel_rfl) (by kernel_rfl) (by kernel_rfl) (fun _ _ _ h => h) (Or.inl ⟨by rfl, ?hye4⟩) (by assumption) ?hre4
    case hye4 => (intro wt hSw; (try dsimp only at hSw); go_simp; try (with_reducible rfl))
    try simp only [Act.put, List.setIfInBounds_toArray, List.set_cons_zero, List.set_cons_succ]
    refine wpAnyH_take (i := 5) (v := ?hve5) (List.getElem?_toArray.trans rfl) (by kernel_rfl) (by kernel_rfl) (by kernel_rfl) (fun _ _ _ h => h) (Or.inl ⟨by rfl, ?hye5⟩) (by assumption) ?hre5
    case hye5 => (intro wt hSw; (try dsimp only at hSw); go_simp; try (with_reducible rfl))
    try simp only [Act.put, List.setIfInBounds_toArray, List.set_cons_zero, List.set_cons_succ]
    refine wpAnyH_take (i := 6) (v := ?hve6) (List.getElem?_toArray.trans rfl) (by kernel_rfl) (by kernel_rfl) (by kernel_rfl) (fun _ _ _ h => h) (Or.inl ⟨by rfl, ?hye6⟩) (by assumption) ?hre6
    case hye6 => (intro wt hSw; (try dsimp only at hSw); go_simp; try (with_reducible rfl))
    try simp only [Act.put, List.setIfInBounds_toArray, List.set_cons_zero, List.set_cons_succ]
    refine wpAnyH_take (i := 7) (v := ?hve7) (List.getElem?_toArray.trans rfl) (by kernel_rfl) (by kernel_rfl) (by kernel_rfl) (fun _ _ _ h => h) (Or.inl ⟨by rfl, ?hye7⟩) (by assumption) ?hre7
    case hye7 => (intro wt hSw; (try dsimp only at hSw); go_simp; try (with_reducible rfl))
    try simp only [Act.put, List.setIfInBounds_toArray, List.set_cons_zero, List.set_cons_succ]
    refine wpAnyH_take (i := 8) (v := ?hve8) (List.getElem?_toArray.trans rfl) (by kernel_rfl) (by kernel_rfl) (by kernel_rfl) (fun _ _ _ h => h) (Or.inl ⟨by rfl, ?hye8⟩) (by assumption) ?hre8
    case hye8 => (intro wt hSw; (try dsimp only at hSw); go_simp; try (with_reducible rfl))
    try simp only [Act.put, List.setIfInBounds_toArray, List.set_cons_zero, List.set_cons_succ]
    refine wpAnyH_take (i := 9) (v := ?hve9) (List.getElem?_toArray.trans rfl) (by kernel_rfl) (by kernel_rfl) (by kernel_rfl) (fun _ _ _ h => h) (Or.inl ⟨by rfl, ?hye9⟩) (by assumption) ?hre9
    case hye9 => (intro wt hSw; (try dsimp only at hSw); go_simp; try (with_reducible rfl))
    try simp only [Act.put, List.setIfInBounds_toArray, List.set_cons_zero, List.set_cons_succ]
    refine wpAnyH_take (i := 10) (v := ?hve10) (List.getElem?_toArray.trans rfl) (by kernel_rfl) (by kernel_rfl) (by kernel_rfl) (fun _ _ _ h => h) (Or.inl ⟨by rfl, ?hye10⟩) (by assumption) ?hre10
    case hye10 => (intro wt hSw; (try dsimp only at hSw); go_simp; try (with_reducible rfl))
    try simp only [Act.put, List.setIfInBounds_toArray, List.set_cons_zero, List.set_cons_succ]
    refine wpAnyH_take (i := 11) (v := ?hve11) (List.getElem?_toArray.trans rfl) (by kernel_rfl) (by kernel_rfl) (by kernel_rfl) (fun _ _ _ h => h) (Or.inl ⟨by rfl, ?hye11⟩) (by assumption) ?hre11
    case hye11 => (intro wt hSw; (try dsimp only at hSw); go_simp; try (with_reducible rfl))
    try simp only [Act.put, List.setIfInBounds_toArray, List.set_cons_zero, List.set_cons_succ]
    refine wpAnyH_take (i := 12) (v := ?hve12) (List.getElem?_toArray.trans rfl) (by kernel_rfl) (by kernel_rfl) (by kernel_rfl) (fun _ _ _ h => h) (Or.inl ⟨by rfl, ?hye12⟩) (by assumption) ?hre12
    case hye12 => (intro wt hSw; (try dsimp only at hSw); go_simp; try (with_reducible rfl))
    try simp only [Act.put, List.setIfInBounds_toArray, List.set_cons_zero, List.set_cons_succ]
    refine wpAnyH_take (i := 13) (v := ?hve13) (List.getElem?_toArray.trans rfl) (by kernel_rfl) (by kernel_rfl) (by kernel_rfl) (fun _ _ _ h => h) (Or.inl ⟨by rfl, ?hye13⟩) (by assumption) ?hre13
    case hye13 => (intro wt hSw; (try dsimp only at hSw); go_simp; try (with_reducible rfl))
    try simp only [Act.put, List.setIfInBounds_toArray, List.set_cons_zero, List.set_cons_succ]
    refine wpAnyH_take (i := 14) (v := undef) (List.getElem?_toArray.trans rfl) (by kernel_rfl) (by kernel_rfl) (by kernel_rfl) (fun _ _ _ h => h) (Or.inr ⟨by rfl, rfl⟩) (by assumption) ?_
    try simp only [Act.put, List.setIfInBounds_toArray, List.set_cons_zero, List.set_cons_succ]
    refine wpAnyH_take (i := 15) (v := undef) (List.getElem?_toArray.trans rfl) (by kernel_rfl) (by kernel_rfl) (by kernel_rfl) (fun _ _ _ h => h) (Or.inr ⟨by rfl, rfl⟩) (by assumption) ?_
    try simp only [Act.put, List.setIfInBounds_toArray, List.set_cons_zero, List.set_cons_succ]
    refine wpAnyH_take (i := 16) (v := undef) (List.getElem?_toArray.trans rfl) (by kernel_rfl) (by kernel_rfl) (by kernel_rfl) (fun _ _ _ h => h) (Or.inr ⟨by rfl, rfl⟩) (by assumption) ?_
    try simp only [Act.put, List.setIfInBounds_toArray, List.set_cons_zero, List.set_cons_succ]
    refine wpAnyH_take (i := 17) (v := undef) (List.getElem?_toArray.trans rfl) (by kernel_rfl) (by kernel_rfl) (by kernel_rfl) (fun _ _ _ h => h) (Or.inr ⟨by rfl, rfl⟩) (by assumption) ?_
    try simp only [Act.put, List.setIfInBounds_toArray, List.set_cons_zero, List.set_cons_succ]
    refine wpAnyH_take (i := 18) (v := undef) (List.getElem?_toArray.trans rfl) (by kernel_rfl) (by kernel_rfl) (by kernel_rfl) (fun _ _ _ h => h) (Or.inr ⟨by rfl, rfl⟩) (by assumption) ?_
    try simp only [Act.put, List.setIfInBounds_toArray, List.set_cons_zero, List.set_cons_succ]
    refine wpAnyH_take (i := 19) (v := undef) (List.getElem?_toArray.trans rfl) (by kernel_rfl) (by kernel_rfl) (by kernel_rfl) (fun _ _ _ h => h) (Or.inr ⟨by rfl, rfl⟩) (by assumption) ?_
    try simp only [Act.put, List.setIfInBounds_toArray, List.set_cons_zero, List.set_cons_succ]
    refine wpAnyH_take (i := 20) (v := undef) (List.getElem?_toArray.trans rfl) (by kernel_rfl) (by kernel_rfl) (by kernel_rfl) (fun _ _ _ h => h) (Or.inr ⟨by rfl, rfl⟩) (by assumption) ?_
    try simp only [Act.put, List.setIfInBounds_toArray, List.set_cons_zero, List.set_cons_succ]
    refine wpAnyH_take (i := 21) (v := undef) (List.getElem?_toArray.trans rfl) (by kernel_rfl) (by kernel_rfl) (by kernel_rfl) (fun _ _ _ h => h) (Or.inr ⟨by rfl, rfl⟩) (by assumption) ?_
    try simp only [Act.put, List.setIfInBounds_toArray, List.set_cons_zero, List.set_cons_succ]
    refine wpAnyH_take (i := 22) (v := undef) (List.getElem?_toArray.trans rfl) (by kernel_rfl) (by kernel_rfl) (by kernel_rfl) (fun _ _ _ h => h) (Or.inr ⟨by rfl, rfl⟩) (by assumption) ?_
    try simp only [Act.put, List.setIfInBounds_toArray, List.set_cons_zero, List.set_cons_succ]
    refine wpAnyH_take (i := 23) (v := undef) (List.getElem?_toArray.trans rfl) (by kernel_rfl) (by kernel_rfl) (by kernel_rfl) (fun _ _ _ h => h) (Or.inr ⟨by rfl, rfl⟩) (by assumption) ?_
    try simp only [Act.put, List.setIfInBounds_toArray, List.set_cons_zero, List.set_cons_succ]
    refine wpAnyH_take (i := 24) (v := ?hve24) (List.getElem?_toArray.trans rfl) (by kernel_rfl) (by kernel_rfl) (by kernel_rfl) (fun _ _ _ h => h) (Or.inl ⟨by rfl, ?hye24⟩) (by assumption) ?hre24
    case hye24 => (intro wt hSw; (try dsimp only at hSw); go_simp; try (with_reducible rfl))
    try simp only [Act.put, List.setIfInBounds_toArray, List.set_cons_zero, List.set_cons_succ]
    refine wpAnyH_take (i := 25) (v := ?hve25) (List.getElem?_toArray.trans rfl) (by kernel_rfl) (by kernel_rfl) (by kernel_rfl) (fun _ _ _ h => h) (Or.inl ⟨by rfl, ?hye25⟩) (by assumption) ?hre25
    case hye25 => (intro wt hSw; (try dsimp only at hSw); go_simp; try (with_reducible rfl))
    try simp only [Act.put, List.setIfInBounds_toArray, List.set_cons_zero, List.set_cons_succ]
    refine wpAnyH_take (i := 26) (v := ?hve26) (List.getElem?_toArray.trans rfl) (by kernel_rfl) (by kernel_rfl) (by kernel_rfl) (fun _ _ _ h => h) (Or.inl ⟨by rfl, ?hye26⟩) (by assumption) ?hre26
    case hye26 => (intro wt hSw; (try dsimp only at hSw); go_simp; try (with_reducible rfl))
    try simp only [Act.put, List.setIfInBounds_toArray, List.set_cons_zero, List.set_cons_succ]
    refine wpAnyH_ready (rs := [27]) (by kernel_rfl) (by simp) ?_
    refine AllReadyH.cons (List.getElem?_toArray.trans rfl) (fun K hK => ?_) AllReadyH.nil
    go_simp
    go_at_call 16
    refine (C16.out _ ?_).mono ?_
    · assumption
    rintro e w16 ⟨rfl, hk16⟩
    try (go_wp2_with fail)
    refine hK.out _ _ ?_ (fun hHeld => ?_)
    · (try dsimp only)
      assumption
    clear hK K
    try simp only [Act.put, List.setIfInBounds_toArray, List.set_cons_zero, List.set_cons_succ]
    refine wpAnyH_take (i := 28) (v := ?hve28) (List.getElem?_toArray.trans rfl) (by kernel_rfl) (by kernel_rfl) (by kernel_rfl) (fun _ _ _ h => h) (Or.inl ⟨by rfl, ?hye28⟩) (by assumption) ?hre28
    case hye28 => (intro wt hSw; (try dsimp only at hSw); go_simp; try (with_reducible rfl))
    try simp only [Act.put, List.setIfInBounds_toArray, List.set_cons_zero, List.set_cons_succ]
    refine wpAnyH_take (i := 29) (v := ?hve29) (List.getElem?_toArray.trans rfl) (by kernel_rfl) (by kernel_rfl) (by kernel_rfl) (fun _ _ _ h => h) (Or.inl ⟨by rfl, ?hye29⟩) (by assumption) ?hre29
    case hye29 => (intro wt hSw; (try dsimp only at hSw); go_simp; try (with_reducible rfl))
    try simp only [Act.put, List.setIfInBounds_toArray, List.set_cons_zero, List.set_cons_succ]
    refine wpAnyH_done (by kernel_rfl) ?_ _
    refine NoPanic.normal ?_
    go_wp2
    go_ret
    exact ⟨rfl, HB.out.trans (hk16.1.out.mono (by have := HB.out.size; omega))⟩

set_option maxRecDepth 100000 in
set_option maxHeartbeats 8000000 in
theorem wrong_other (kd n ak : Int) (a : Option Addr) (m c : Nat) (b : List UInt8) (w : World) (hE : Env w) (hv : IsB w (.slice a m c) b)
    (hn0 : -9223372036854775808 ≤ n) (hn1 : n ≤ 9223372036854775807) (hb : b.length + 100 ≤ roomB) (heq : PK.u64 ak % 5 ≠ PK.u64 kd % 5) :
    Calls Tryd.prog 8 #[.agg #[.int .i64 kd, .int .i64 n, .slice a m c], .int .i64 ak] w fun e w' => e = .returned (.bool true) ∧ Below w.heap.size w w' := by
  have hm : m = b.length := by obtain ⟨_, _, e, _⟩ := hv; simp at e; exact e.2.1
  subst hm
  obtain ⟨x, hx⟩ : ∃ x : PK.Th, x = ⟨PK.u64 kd % 5, n, b⟩ := ⟨_, rfl⟩
  have hxb' : x.b = b := by rw [hx]
  have hxk : x.k = PK.u64 kd % 5 := by rw [hx]
  have hmay : x.May := by rw [hx]; exact ⟨hn0, hn1, by simp only [roomB] at hb; simp only; omega⟩
  obtain ⟨L, hL⟩ : ∃ L, L = PK.layP x := ⟨_, rfl⟩
  have hLl : L.length ≤ b.length + 25 := by rw [hL, ← hxb']; exact PK.lay_length x hmay
  have hwk := wrap_u64_nat kd
  have hwa := wrap_u64_nat ak
  have hu := PK.u64_lt kd
  have hua := PK.u64_lt ak
  have HN : Hid (∀ W, Env W → Calls Tryd.prog 17 #[] W fun e w' => e = .returned (.pointer (some ⟨W.heap.size, 0, none⟩)) ∧ Wr w' W.heap.size W.heap.size [] ∧ Below W.heap.size W w') := fun W h => new_any W h
  have HLay : Hid (∀ (W : World) (B : Nat), Env W → Wr W B B [] → IsB W (.slice a b.length c) b → w.heap.size ≤ B → Calls Tryd.prog 30 #[.pointer (some ⟨B, 0, none⟩), .agg #[.int .i64 kd, .int .i64 n, .slice a b.length c]] W fun e w' => e = .returned (.pointer (some ⟨B, 0, none⟩)) ∧ Wr w' B B L ∧ Below B W w') := fun W B hE hW hI hB => by
    have := lay_of B B [] kd n a b.length c b W hW hI (fun hb k hk => Nat.lt_of_lt_of_le (hv.own_lt hb k hk) hB) hn0 hn1 (by simp; omega) hE
    rw [List.nil_append, ← hx, ← hL] at this
    exact this
  have HD : Hid (∀ (W : World) (B : Nat), Wr W B B L → Calls Tryd.prog 24 #[.pointer (some ⟨B, 0, none⟩)] W fun e w' => (∃ a' c', e = .returned (.slice a' L.length c') ∧ OwnB w' (.slice a' L.length c') L) ∧ Below W.heap.size W w') := fun W B h =>
    (wdone_any B B L W h (by omega)).mono fun e w' ⟨⟨a', c', e1, e2, _⟩, b'⟩ => ⟨⟨a', c', e1, e2⟩, b'⟩
  have HE := Lib.hid hE
  have HV := Lib.hid hv
  clear hE hv hn0 hn1
  go_enter Tryd.func8, Tryd.ntmps8
  go_wp2_with fail
  have q0 : (w.alloc (.cells #[.int .i64 kd, .int .i64 n, .slice a b.length c] 61)).cell? ⟨w.heap.size, 0, none⟩ = some (.int .i64 kd) := World.cell?_alloc_new _ _ _ 0
  have q1 : (w.alloc (.cells #[.int .i64 kd, .int .i64 n, .slice a b.length c] 61)).cell? ⟨w.heap.size, 1, none⟩ = some (.int .i64 n) := World.cell?_alloc_new _ _ _ 1
  have q2 : (w.alloc (.cells #[.int .i64 kd, .int .i64 n, .slice a b.length c] 61)).cell? ⟨w.heap.size, 2, none⟩ = some (.slice a b.length c) := World.cell?_alloc_new _ _ _ 2
  have Ba : Below w.heap.size w (w.alloc (.cells #[.int .i64 kd, .int .i64 n, .slice a b.length c] 61)) := (Below.refl _ _).alloc (Nat.le_refl _) _
  have hsz : w.heap.size < (w.alloc (.cells #[.int .i64 kd, .int .i64 n, .slice a b.length c] 61)).heap.size := by simp
  generalize w.alloc (.cells #[.int .i64 kd, .int .i64 n, .slice a b.length c] 61) = Wa at *
  have Ea := Lib.hid (HE.out.below Ba)
  have Va := Lib.hid (HV.out.below Ba)
  have BA := Lib.hid Ba
  obtain ⟨M, hM⟩ : ∃ M, Wa.heap.size = M := ⟨_, rfl⟩
  have HM := Lib.hid hM
  have next : Hid (∀ W W' : World, (Hid (Below M Wa W) ∧ W.cell? ⟨w.heap.size, 0, none⟩ = some (.int .i64 kd) ∧ W.cell? ⟨w.heap.size, 1, none⟩ = some (.int .i64 n) ∧ W.cell? ⟨w.heap.size, 2, none⟩ = some (.slice a b.length c)) → Below M W W' → (Hid (Below M Wa W') ∧ W'.cell? ⟨w.heap.size, 0, none⟩ = some (.int .i64 kd) ∧ W'.cell? ⟨w.heap.size, 1, none⟩ = some (.int .i64 n) ∧ W'.cell? ⟨w.heap.size, 2, none⟩ = some (.slice a b.length c))) := by
    rintro W W' ⟨h, _⟩ b
    have bb : Below M Wa W' := h.out.trans b
    have hb := bb.block _ (show w.heap.size < M by omega)
    exact ⟨Lib.hid bb, (World.cell?_of_block hb).trans q0, (World.cell?_of_block hb).trans q1, (World.cell?_of_block hb).trans q2⟩
  have S0 : Hid (Below M Wa Wa.drew) ∧ Wa.drew.cell? ⟨w.heap.size, 0, none⟩ = some (.int .i64 kd) ∧ Wa.drew.cell? ⟨w.heap.size, 1, none⟩ = some (.int .i64 n) ∧ Wa.drew.cell? ⟨w.heap.size, 2, none⟩ = some (.slice a b.length c) := ⟨Lib.hid (Below.refl _ _).drew, q0, q1, q2⟩
  have C17 : Hid (Calls Tryd.prog 17 #[] Wa.drew fun e w' => e = .returned (.pointer (some ⟨M, 0, none⟩)) ∧ (Hid (Below M Wa w') ∧ w'.cell? ⟨w.heap.size, 0, none⟩ = some (.int .i64 kd) ∧ w'.cell? ⟨w.heap.size, 1, none⟩ = some (.int .i64 n) ∧ w'.cell? ⟨w.heap.size, 2, none⟩ = some (.slice a b.length c)) ∧ Hid (Wr w' M M [])) := by
    refine (HN.out Wa.drew (Ea.out.below (Below.refl _ _).drew)).mono ?_
    rintro e w' ⟨rfl, h, b⟩
    have hs : Wa.drew.heap.size = M := hM
    rw [hs] at h b ⊢
    exact ⟨rfl, next.out _ _ S0 b, h⟩
  have C30 : Hid (∀ W : World, (Hid (Below M Wa W) ∧ W.cell? ⟨w.heap.size, 0, none⟩ = some (.int .i64 kd) ∧ W.cell? ⟨w.heap.size, 1, none⟩ = some (.int .i64 n) ∧ W.cell? ⟨w.heap.size, 2, none⟩ = some (.slice a b.length c)) → Hid (Wr W M M []) → Calls Tryd.prog 30 #[.pointer (some ⟨M, 0, none⟩), .agg #[.int .i64 kd, .int .i64 n, .slice a b.length c]] W fun e w' =>
      e = .returned (.pointer (some ⟨M, 0, none⟩)) ∧ (Hid (Below M Wa w') ∧ w'.cell? ⟨w.heap.size, 0, none⟩ = some (.int .i64 kd) ∧ w'.cell? ⟨w.heap.size, 1, none⟩ = some (.int .i64 n) ∧ w'.cell? ⟨w.heap.size, 2, none⟩ = some (.slice a b.length c)) ∧ Hid (Wr w' M M L)) := fun W h hw =>
    (HLay.out W M (Ea.out.below (by rw [HM.out]; exact h.1.out)) hw.out (Va.out.below (by rw [HM.out]; exact h.1.out)) (by omega)).mono fun e w' ⟨e1, e2, e3⟩ => ⟨e1, next.out _ _ h e3, e2⟩
  have C24 : Hid (∀ W : World, (Hid (Below M Wa W) ∧ W.cell? ⟨w.heap.size, 0, none⟩ = some (.int .i64 kd) ∧ W.cell? ⟨w.heap.size, 1, none⟩ = some (.int .i64 n) ∧ W.cell? ⟨w.heap.size, 2, none⟩ = some (.slice a b.length c)) → Hid (Wr W M M L) → Calls Tryd.prog 24 #[.pointer (some ⟨M, 0, none⟩)] W fun e w' =>
      (∃ a' c', e = .returned (.slice a' L.length c') ∧ Hid (OwnB w' (.slice a' L.length c') L)) ∧ (Hid (Below M Wa w') ∧ w'.cell? ⟨w.heap.size, 0, none⟩ = some (.int .i64 kd) ∧ w'.cell? ⟨w.heap.size, 1, none⟩ = some (.int .i64 n) ∧ w'.cell? ⟨w.heap.size, 2, none⟩ = some (.slice a b.length c))) := fun W h hw =>
    (HD.out W M hw.out).mono fun e w' ⟨e1, e3⟩ => ⟨e1, next.out _ _ h (e3.mono (Nat.le_of_lt hw.out.lt))⟩
  have Hlt : Hid (w.heap.size < M) := by rw [← hM]; exact hsz
  have HLl := Lib.hid hLl
  have HbR := Lib.hid hb
  have Hx := Lib.hid hx
  have HL := Lib.hid hL
  have Hmay := Lib.hid hmay
  have Hxb := Lib.hid hxb'
  have Hxk := Lib.hid hxk
  clear Ba hsz hM next q0 q1 q2 HN HLay HD hLl hb hx hL hmay hxb' hxk
  go_region_held3 (fun W => Hid (Below M Wa W) ∧ W.cell? ⟨w.heap.size, 0, none⟩ = some (.int .i64 kd) ∧ W.cell? ⟨w.heap.size, 1, none⟩ = some (.int .i64 n) ∧ W.cell? ⟨w.heap.size, 2, none⟩ = some (.slice a b.length c)) (assumption)
    (first
      | (go_at_call 17; refine C17.out.mono ?_; rintro e w3 ⟨rfl, hk3, hw3⟩)
      | (go_at_call 30; refine (C30.out _ ?_ ?_).mono ?_; assumption; assumption; rintro e w4 ⟨rfl, hk4, hw4⟩)
      | (go_at_call 24; refine (C24.out _ ?_ ?_).mono ?_; assumption; assumption; rintro e w5 ⟨⟨a5, c5, rfl, ho5⟩, hk5⟩))
  obtain ⟨b5, d0, _, d2⟩ := hk5
  have B5 : Hid (Below w.heap.size w w5) := BA.out.trans (b5.out.mono (Nat.le_of_lt Hlt.out))
  have hM5 : w.heap.size < w5.heap.size := by have := b5.out.size; have := Hlt.out; have := HM.out; omega
  have HRd := Lib.hid (read_any a5 c5 L w5 (HE.out.below B5.out) ho5.out.isB)
  clear C17 C30 C24 S0 Ea Va hk3 hw3 hk4 hw4 BA b5
  go_wp2_with fail
  refine HRd.out.mono ?_
  rintro e w6 ⟨rfl, r6, b6⟩
  have f0 : w6.cell? ⟨w.heap.size, 0, none⟩ = some (.int .i64 kd) := (b6.cell (p := ⟨w.heap.size, 0, none⟩) hM5).trans d0
  have f2 : w6.cell? ⟨w.heap.size, 2, none⟩ = some (.slice a b.length c) := (b6.cell (p := ⟨w.heap.size, 2, none⟩) hM5).trans d2
  have B6 : Hid (Below w.heap.size w w6) := B5.out.trans (b6.mono (Nat.le_of_lt hM5))
  obtain ⟨N, hN⟩ : ∃ N, w5.heap.size = N := ⟨_, rfl⟩
  rw [hN] at r6 b6 hM5 ⊢
  have R6 := Lib.hid r6
  have HRU : Hid (∀ W, Env W → Rd W N L 0 → Calls Tryd.prog 22 #[.pointer (some ⟨N, 0, none⟩), .int .u64 18446744073709551615] W fun v w' => TakeR N W w' v (PK.takeP 0 b.length L 0)) := fun W hE hr =>
    (uint_any N 18446744073709551615 L 0 W hE hr).mono fun e w' ⟨e1, e2, e3⟩ => ⟨⟨_, e1⟩, e2, e3⟩
  have HRI : Hid (∀ W, Env W → Rd W N L 0 → Calls Tryd.prog 10 #[.pointer (some ⟨N, 0, none⟩)] W fun v w' => TakeR N W w' v (PK.takeP 1 b.length L 0)) := fun W hE hr =>
    (int_any N L 0 W hE hr).mono fun e w' ⟨e1, e2, e3⟩ => ⟨⟨_, e1⟩, e2, e3⟩
  have HRB : Hid (∀ W, Env W → Rd W N L 0 → Calls Tryd.prog 31 #[.pointer (some ⟨N, 0, none⟩)] W fun v w' => TakeR N W w' v (PK.takeP 2 b.length L 0)) := fun W hE hr =>
    (bool_any N L 0 W hr).mono fun e w' ⟨e1, e2, e3⟩ => ⟨⟨_, e1⟩, e2, e3⟩
  have HRT : Hid (∀ W, Env W → Rd W N L 0 → Calls Tryd.prog 32 #[.pointer (some ⟨N, 0, none⟩), .int .i64 (b.length : Int)] W fun v w' => TakeR N W w' v (PK.takeP 3 b.length L 0)) := fun W hE hr =>
    (text_any N L 0 b.length W hE hr (by have := HbR.out; simp only [roomB] at this; omega) (by have := HbR.out; have := HLl.out; omega)).mono fun e w' ⟨e1, e2, e3⟩ => ⟨⟨_, e1⟩, e2, e3⟩
  have HRX : Hid (∀ W, Env W → Rd W N L 0 → Calls Tryd.prog 33 #[.pointer (some ⟨N, 0, none⟩), .int .i64 (b.length : Int)] W fun v w' => TakeR N W w' v (PK.takeP 4 b.length L 0)) := fun W hE hr =>
    (bytes_any N L 0 b.length W hE hr (by have := HbR.out; simp only [roomB] at this; omega) (by have := HbR.out; have := HLl.out; omega)).mono fun e w' ⟨⟨a, m, c, e1, _⟩, e2, e3⟩ => ⟨⟨_, e1⟩, e2, e3⟩
  have HN5 := Lib.hid hN
  have HM5 := Lib.hid hM5
  clear hN HRd r6 d0 d2 b6 ho5
  -- HERE
  have Htk : ∀ k, PK.u64 ak % 5 = k → PK.takeP k b.length L 0 = (L, 3) := by
    intro k hk
    have := PK.take_other x k (by omega) (by rw [Hxk.out]; omega) (by rw [Hxk.out]; omega) b.length (by omega) []
    rw [List.append_nil, ← HL.out] at this
    exact this
  have HT := Lib.hid Htk
  clear Htk
  have h5 : PK.u64 ak % 5 = 0 ∨ PK.u64 ak % 5 = 1 ∨ PK.u64 ak % 5 = 2 ∨ PK.u64 ak % 5 = 3 ∨ PK.u64 ak % 5 = 4 := by omega
  rcases h5 with h5 | h5 | h5 | h5 | h5
  · have hma : (PK.u64 ak : Int) % 5 = 0 := by omega
    obtain ⟨q, hmq'⟩ : ∃ q : Int, (PK.u64 kd : Int) % 5 = q := ⟨_, rfl⟩
    have hmq : (PK.u64 kd : Int).tmod 5 = q := by rw [Int.tmod_eq_emod_of_nonneg (by omega)]; omega
    have hwq : IntKind.i64.wrap q = q := by rw [IntKind.wrap_i64]; omega
    have hq0 : 0 ≤ q := by omega
    have hq4 : q ≤ 4 := by omega
    have hqq : ((0 : Int) == q) = false := by rw [beq_eq_false_iff_ne]; omega
    clear hmq'
    rw [HT.out _ h5] at HRU
    clear h5 heq HT
    generalize PK.u64 ak = ua at *
    generalize PK.u64 kd = u at *
    go_wp2_with fail
    refine (HRU.out w6 (HE.out.below B6.out) R6.out).mono ?_
    rintro v w7 ⟨⟨y, rfl⟩, r7, f7⟩
    have g0 : w7.cell? ⟨w.heap.size, 0, none⟩ = some (.int .i64 kd) := f7.cell f0 (fun e => by have : w.heap.size = N := e; have := HM5.out; omega)
    have HDn : Hid (∀ W, Rd W N L 3 → Calls Tryd.prog 13 #[.pointer (some ⟨N, 0, none⟩)] W fun e w' => e = .returned (.iface 75 (.int .i64 3)) ∧ W = w') := fun W h => done_any N L 3 W h
    have R7 := Lib.hid r7
    have B7 : Hid (Below w.heap.size w w7) := B6.out.trans ⟨f7.os, f7.tape, f7.output, f7.size, fun k hk => f7.block k (by have := R6.out.lt; have := HM5.out; omega) (fun e => by have : k = N := e; have := HM5.out; omega)⟩
    clear r7 f7 R6 B6 f0 f2 HRU HRI HRB HRT HRX
    go_wp2_with fail
    refine (HDn.out w7 R7.out).mono ?_
    rintro e w8 ⟨rfl, rfl⟩
    clear HDn
    have hlt7 : w.heap.size < w7.heap.size := World.block_lt_of_cell? w7 _ g0
    have next : Hid (∀ W W' : World, (Hid (Below w7.heap.size w7 W) ∧ W.cell? ⟨w.heap.size, 0, none⟩ = some (.int .i64 kd)) → Below W.heap.size W W' → (Hid (Below w7.heap.size w7 W') ∧ W'.cell? ⟨w.heap.size, 0, none⟩ = some (.int .i64 kd))) := by
      rintro W W' ⟨h, _⟩ b
      have bb : Below w7.heap.size w7 W' := h.out.trans (b.mono h.out.size)
      exact ⟨Lib.hid bb, (World.cell?_of_block (bb.block _ hlt7)).trans g0⟩
    have C16 : Hid (∀ W : World, (Hid (Below w7.heap.size w7 W) ∧ W.cell? ⟨w.heap.size, 0, none⟩ = some (.int .i64 kd)) → Calls Tryd.prog 16 #[] W fun e w' => e = .returned (.bool true) ∧ (Hid (Below w7.heap.size w7 w') ∧ w'.cell? ⟨w.heap.size, 0, none⟩ = some (.int .i64 kd))) := fun W h =>
      (sure_any W ((HE.out.below B7.out).below h.1.out)).mono fun e w' hw => ⟨hw.1, next.out W w' h hw.2⟩
    have C12 : Hid (∀ W : World, (Hid (Below w7.heap.size w7 W) ∧ W.cell? ⟨w.heap.size, 0, none⟩ = some (.int .i64 kd)) → Calls Tryd.prog 12 #[.iface 75 (.int .i64 3)] W fun e w' => e = .returned (.int .i64 3) ∧ (Hid (Below w7.heap.size w7 w') ∧ w'.cell? ⟨w.heap.size, 0, none⟩ = some (.int .i64 kd))) := fun W h =>
      (num_any 3 W ((HE.out.below B7.out).below h.1.out)).mono fun e w' hw => ⟨hw.1, next.out W w' h hw.2⟩
    have C15 : Hid (∀ W : World, (Hid (Below w7.heap.size w7 W) ∧ W.cell? ⟨w.heap.size, 0, none⟩ = some (.int .i64 kd)) → Calls Tryd.prog 15 #[.pointer (some ⟨N, 0, none⟩)] W fun e w' => e = .returned (.int .i64 L.length) ∧ W = w') := fun W h => left_any _ _ _ W (R7.out.below h.1.out)
    have S7 : Hid (Below w7.heap.size w7 w7.drew) ∧ w7.drew.cell? ⟨w.heap.size, 0, none⟩ = some (.int .i64 kd) := ⟨Lib.hid (Below.refl _ _).drew, g0⟩
    have HB := B7
    clear next B7 R7 HE HV hlt7 g0
    go_wp2_with fail
    refine wp_region_noPanic ?_
    refine wp_region_held_drew (S := fun W => Hid (Below w7.heap.size w7 W) ∧ W.cell? ⟨w.heap.size, 0, none⟩ = some (.int .i64 kd)) (by kernel_rfl) S7 (fun hHeld => ?_)
    refine wpAnyH_take (i := 0) (v := ?hva0) (List.getElem?_toArray.trans rfl) (by kernel_rfl) (by kernel_rfl) (by kernel_rfl) (fun _ _ _ h => h) (Or.inl ⟨by rfl, ?hya0⟩) (by assumption) ?hra0
    case hya0 => (intro wt hSw; (try dsimp only at hSw); go_simp; try (with_reducible rfl))
    try simp only [Act.put, List.setIfInBounds_toArray, List.set_cons_zero, List.set_cons_succ]
    refine wpAnyH_take (i := 1) (v := ?hva1) (List.getElem?_toArray.trans rfl) (by kernel_rfl) (by kernel_rfl) (by kernel_rfl) (fun _ _ _ h => h) (Or.inl ⟨by rfl, ?hya1⟩) (by assumption) ?hra1
    case hya1 => (intro wt hSw; (try dsimp only at hSw); go_simp; try (with_reducible rfl))
    try simp only [Act.put, List.setIfInBounds_toArray, List.set_cons_zero, List.set_cons_succ]
    refine wpAnyH_take (i := 2) (v := ?hva2) (List.getElem?_toArray.trans rfl) (by kernel_rfl) (by kernel_rfl) (by kernel_rfl) (fun _ _ _ h => h) (Or.inl ⟨by rfl, ?hya2⟩) (by assumption) ?hra2
    case hya2 => (intro wt hSw; (try dsimp only at hSw); go_simp; try (with_reducible rfl))
    try simp only [Act.put, List.setIfInBounds_toArray, List.set_cons_zero, List.set_cons_succ]
    refine wpAnyH_take (i := 3) (v := ?hva3) (List.getElem?_toArray.trans rfl) (by kernel_rfl) (by kernel_rfl) (by kernel_rfl) (fun _ _ _ h => h) (Or.inl ⟨by rfl, ?hya3⟩) (by assumption) ?hra3
    case hya3 => (intro wt hSw; (try dsimp only at hSw); go_simp; try (with_reducible rfl))
    try simp only [Act.put, List.setIfInBounds_toArray, List.set_cons_zero, List.set_cons_succ]
    refine wpAnyH_take (i := 4) (v := ?hva4) (List.getElem?_toArray.trans rfl) (by kernel_rfl) (by kernel_rfl) (by kernel_rfl) (fun _ _ _ h => h) (Or.inl ⟨by rfl, ?hya4⟩) (by assumption) ?hra4
    case hya4 => (intro wt hSw; (try dsimp only at hSw); go_simp; try (with_reducible rfl))
    try simp only [Act.put, List.setIfInBounds_toArray, List.set_cons_zero, List.set_cons_succ]
    refine wpAnyH_take (i := 5) (v := ?hva5) (List.getElem?_toArray.trans rfl) (by kernel_rfl) (by kernel_rfl) (by kernel_rfl) (fun _ _ _ h => h) (Or.inl ⟨by rfl, ?hya5⟩) (by assumption) ?hra5
    case hya5 => (intro wt hSw; (try dsimp only at hSw); go_simp; try (with_reducible rfl))
    try simp only [Act.put, List.setIfInBounds_toArray, List.set_cons_zero, List.set_cons_succ]
    refine wpAnyH_take (i := 6) (v := ?hva6) (List.getElem?_toArray.trans rfl) (by kernel_rfl) (by kernel_rfl) (by kernel_rfl) (fun _ _ _ h => h) (Or.inl ⟨by rfl, ?hya6⟩) (by assumption) ?hra6
    case hya6 => (intro wt hSw; (try dsimp only at hSw); go_simp; try (with_reducible rfl))
    try simp only [Act.put, List.setIfInBounds_toArray, List.set_cons_zero, List.set_cons_succ]
    refine wpAnyH_take (i := 7) (v := ?hva7) (List.getElem?_toArray.trans rfl) (by kernel_rfl) (by kernel_rfl) (by kernel_rfl) (fun _ _ _ h => h) (Or.inl ⟨by rfl, ?hya7⟩) (by assumption) ?hra7
    case hya7 => (intro wt hSw; (try dsimp only at hSw); go_simp; try (with_reducible rfl))
    try simp only [Act.put, List.setIfInBounds_toArray, List.set_cons_zero, List.set_cons_succ]
    refine wpAnyH_take (i := 8) (v := ?hva8) (List.getElem?_toArray.trans rfl) (by kernel_rfl) (by kernel_rfl) (by kernel_rfl) (fun _ _ _ h => h) (Or.inl ⟨by rfl, ?hya8⟩) (by assumption) ?hra8
    case hya8 => (intro wt hSw; (try dsimp only at hSw); go_simp; try (with_reducible rfl))
    try simp only [Act.put, List.setIfInBounds_toArray, List.set_cons_zero, List.set_cons_succ]
    refine wpAnyH_take (i := 9) (v := ?hva9) (List.getElem?_toArray.trans rfl) (by kernel_rfl) (by kernel_rfl) (by kernel_rfl) (fun _ _ _ h => h) (Or.inl ⟨by rfl, ?hya9⟩) (by assumption) ?hra9
    case hya9 => (intro wt hSw; (try dsimp only at hSw); go_simp; try (with_reducible rfl))
    try simp only [Act.put, List.setIfInBounds_toArray, List.set_cons_zero, List.set_cons_succ]
    refine wpAnyH_take (i := 10) (v := ?hva10) (List.getElem?_toArray.trans rfl) (by kernel_rfl) (by kernel_rfl) (by kernel_rfl) (fun _ _ _ h => h) (Or.inl ⟨by rfl, ?hya10⟩) (by assumption) ?hra10
    case hya10 => (intro wt hSw; (try dsimp only at hSw); go_simp; try (with_reducible rfl))
    try simp only [Act.put, List.setIfInBounds_toArray, List.set_cons_zero, List.set_cons_succ]
    refine wpAnyH_take (i := 11) (v := ?hva11) (List.getElem?_toArray.trans rfl) (by kernel_rfl) (by kernel_rfl) (by kernel_rfl) (fun _ _ _ h => h) (Or.inl ⟨by rfl, ?hya11⟩) (by assumption) ?hra11
    case hya11 => (intro wt hSw; (try dsimp only at hSw); go_simp; try (with_reducible rfl))
    try simp only [Act.put, List.setIfInBounds_toArray, List.set_cons_zero, List.set_cons_succ]
    refine wpAnyH_take (i := 12) (v := ?hva12) (List.getElem?_toArray.trans rfl) (by kernel_rfl) (by kernel_rfl) (by kernel_rfl) (fun _ _ _ h => h) (Or.inl ⟨by rfl, ?hya12⟩) (by assumption) ?hra12
    case hya12 => (intro wt hSw; (try dsimp only at hSw); go_simp; try (with_reducible rfl))
    try simp only [Act.put, List.setIfInBounds_toArray, List.set_cons_zero, List.set_cons_succ]
    refine wpAnyH_take (i := 13) (v := ?hva13) (List.getElem?_toArray.trans rfl) (by kernel_rfl) (by kernel_rfl) (by kernel_rfl) (fun _ _ _ h => h) (Or.inl ⟨by rfl, ?hya13⟩) (by assumption) ?hra13
    case hya13 => (intro wt hSw; (try dsimp only at hSw); go_simp; try (with_reducible rfl))
    try simp only [Act.put, List.setIfInBounds_toArray, List.set_cons_zero, List.set_cons_succ]
    refine wpAnyH_take (i := 14) (v := ?hva14) (List.getElem?_toArray.trans rfl) (by kernel_rfl) (by kernel_rfl) (by kernel_rfl) (fun _ _ _ h => h) (Or.inl ⟨by rfl, ?hya14⟩) (by assumption) ?hra14
    case hya14 => (intro wt hSw; (try dsimp only at hSw); go_simp; try (with_reducible rfl))
    try simp only [Act.put, List.setIfInBounds_toArray, List.set_cons_zero, List.set_cons_succ]
    refine wpAnyH_ready (rs := [15]) (by kernel_rfl) (by simp) ?_
    refine AllReadyH.cons (List.getElem?_toArray.trans rfl) (fun K hK => ?_) AllReadyH.nil
    go_simp
    go_at_call 12
    refine (C12.out _ ?_).mono ?_
    · assumption
    rintro e w12 ⟨rfl, hk12⟩
    try (go_wp2_with fail)
    refine hK.out _ _ ?_ (fun hHeld => ?_)
    · (try dsimp only)
      assumption
    clear hK K
    try simp only [Act.put, List.setIfInBounds_toArray, List.set_cons_zero, List.set_cons_succ]
    refine wpAnyH_take (i := 16) (v := ?hva16) (List.getElem?_toArray.trans rfl) (by kernel_rfl) (by kernel_rfl) (by kernel_rfl) (fun _ _ _ h => h) (Or.inl ⟨by rfl, ?hya16⟩) (by assumption) ?hra16
    case hya16 => (intro wt hSw; (try dsimp only at hSw); go_simp; try (with_reducible rfl))
    try simp only [Act.put, List.setIfInBounds_toArray, List.set_cons_zero, List.set_cons_succ]
    refine wpAnyH_take (i := 17) (v := ?hva17) (List.getElem?_toArray.trans rfl) (by kernel_rfl) (by kernel_rfl) (by kernel_rfl) (fun _ _ _ h => h) (Or.inl ⟨by rfl, ?hya17⟩) (by assumption) ?hra17
    case hya17 => (intro wt hSw; (try dsimp only at hSw); go_simp; try (with_reducible rfl))
    try simp only [Act.put, List.setIfInBounds_toArray, List.set_cons_zero, List.set_cons_succ]
    refine wpAnyH_take (i := 18) (v := ?hva18) (List.getElem?_toArray.trans rfl) (by kernel_rfl) (by kernel_rfl) (by kernel_rfl) (fun _ _ _ h => h) (Or.inl ⟨by rfl, ?hya18⟩) (by assumption) ?hra18
    case hya18 => (intro wt hSw; (try dsimp only at hSw); go_simp; try (with_reducible rfl))
    try simp only [Act.put, List.setIfInBounds_toArray, List.set_cons_zero, List.set_cons_succ]
    refine wpAnyH_take (i := 20) (v := ?hva20) (List.getElem?_toArray.trans rfl) (by kernel_rfl) (by kernel_rfl) (by kernel_rfl) (fun _ _ _ h => h) (Or.inl ⟨by rfl, ?hya20⟩) (by assumption) ?hra20
    case hya20 => (intro wt hSw; (try dsimp only at hSw); go_simp; try (with_reducible rfl))
    try simp only [Act.put, List.setIfInBounds_toArray, List.set_cons_zero, List.set_cons_succ]
    refine wpAnyH_take (i := 21) (v := ?hva21) (List.getElem?_toArray.trans rfl) (by kernel_rfl) (by kernel_rfl) (by kernel_rfl) (fun _ _ _ h => h) (Or.inl ⟨by rfl, ?hya21⟩) (by assumption) ?hra21
    case hya21 => (intro wt hSw; (try dsimp only at hSw); go_simp; try (with_reducible rfl))
    try simp only [Act.put, List.setIfInBounds_toArray, List.set_cons_zero, List.set_cons_succ]
    refine wpAnyH_ready (rs := [19]) (by kernel_rfl) (by simp) ?_
    refine AllReadyH.cons (List.getElem?_toArray.trans rfl) (fun K hK => ?_) AllReadyH.nil
    go_simp
    go_at_call 15
    refine (C15.out _ ?_).mono ?_
    · assumption
    rintro e w15 ⟨rfl, rfl⟩
    try (go_wp2_with fail)
    refine hK.out _ _ ?_ (fun hHeld => ?_)
    · (try dsimp only)
      assumption
    clear hK K
    try simp only [Act.put, List.setIfInBounds_toArray, List.set_cons_zero, List.set_cons_succ]
    refine wpAnyH_take (i := 22) (v := ?hva22) (List.getElem?_toArray.trans rfl) (by kernel_rfl) (by kernel_rfl) (by kernel_rfl) (fun _ _ _ h => h) (Or.inl ⟨by rfl, ?hya22⟩) (by assumption) ?hra22
    case hya22 => (intro wt hSw; (try dsimp only at hSw); go_simp; try (with_reducible rfl))
    try simp only [Act.put, List.setIfInBounds_toArray, List.set_cons_zero, List.set_cons_succ]
    refine wpAnyH_take (i := 23) (v := ?hva23) (List.getElem?_toArray.trans rfl) (by kernel_rfl) (by kernel_rfl) (by kernel_rfl) (fun _ _ _ h => h) (Or.inl ⟨by rfl, ?hya23⟩) (by assumption) ?hra23
    case hya23 => (intro wt hSw; (try dsimp only at hSw); go_simp; try (with_reducible rfl))
    try simp only [Act.put, List.setIfInBounds_toArray, List.set_cons_zero, List.set_cons_succ]
    refine wpAnyH_take (i := 24) (v := ?hva24) (List.getElem?_toArray.trans rfl) (by kernel_rfl) (by kernel_rfl) (by kernel_rfl) (fun _ _ _ h => h) (Or.inl ⟨by rfl, ?hya24⟩) (by assumption) ?hra24
    case hya24 => (intro wt hSw; (try dsimp only at hSw); go_simp; try (with_reducible rfl))
    try simp only [Act.put, List.setIfInBounds_toArray, List.set_cons_zero, List.set_cons_succ]
    refine wpAnyH_take (i := 25) (v := ?hva25) (List.getElem?_toArray.trans rfl) (by kernel_rfl) (by kernel_rfl) (by kernel_rfl) (fun _ _ _ h => h) (Or.inl ⟨by rfl, ?hya25⟩) (by assumption) ?hra25
    case hya25 => (intro wt hSw; (try dsimp only at hSw); go_simp; try (with_reducible rfl))
    try simp only [Act.put, List.setIfInBounds_toArray, List.set_cons_zero, List.set_cons_succ]
    refine wpAnyH_take (i := 26) (v := ?hva26) (List.getElem?_toArray.trans rfl) (by kernel_rfl) (by kernel_rfl) (by kernel_rfl) (fun _ _ _ h => h) (Or.inl ⟨by rfl, ?hya26⟩) (by assumption) ?hra26
    case hya26 => (intro wt hSw; (try dsimp only at hSw); go_simp; try (with_reducible rfl))
    try simp only [Act.put, List.setIfInBounds_toArray, List.set_cons_zero, List.set_cons_succ]
    refine wpAnyH_ready (rs := [27]) (by kernel_rfl) (by simp) ?_
    refine AllReadyH.cons (List.getElem?_toArray.trans rfl) (fun K hK => ?_) AllReadyH.nil
    go_simp
    go_at_call 16
    refine (C16.out _ ?_).mono ?_
    · assumption
    rintro e w16 ⟨rfl, hk16⟩
    try (go_wp2_with fail)
    refine hK.out _ _ ?_ (fun hHeld => ?_)
    · (try dsimp only)
      assumption
    clear hK K
    try simp only [Act.put, List.setIfInBounds_toArray, List.set_cons_zero, List.set_cons_succ]
    refine wpAnyH_take (i := 28) (v := ?hva28) (List.getElem?_toArray.trans rfl) (by kernel_rfl) (by kernel_rfl) (by kernel_rfl) (fun _ _ _ h => h) (Or.inl ⟨by rfl, ?hya28⟩) (by assumption) ?hra28
    case hya28 => (intro wt hSw; (try dsimp only at hSw); go_simp; try (with_reducible rfl))
    try simp only [Act.put, List.setIfInBounds_toArray, List.set_cons_zero, List.set_cons_succ]
    refine wpAnyH_take (i := 29) (v := ?hva29) (List.getElem?_toArray.trans rfl) (by kernel_rfl) (by kernel_rfl) (by kernel_rfl) (fun _ _ _ h => h) (Or.inl ⟨by rfl, ?hya29⟩) (by assumption) ?hra29
    case hya29 => (intro wt hSw; (try dsimp only at hSw); go_simp; try (with_reducible rfl))
    try simp only [Act.put, List.setIfInBounds_toArray, List.set_cons_zero, List.set_cons_succ]
    refine wpAnyH_done (by kernel_rfl) ?_ _
    refine NoPanic.normal ?_
    go_wp2
    go_ret
    exact ⟨rfl, HB.out.trans (hk16.1.out.mono (by have := HB.out.size; omega))⟩
  · have hma : (PK.u64 ak : Int) % 5 = 1 := by omega
    obtain ⟨q, hmq'⟩ : ∃ q : Int, (PK.u64 kd : Int) % 5 = q := ⟨_, rfl⟩
    have hmq : (PK.u64 kd : Int).tmod 5 = q := by rw [Int.tmod_eq_emod_of_nonneg (by omega)]; omega
    have hwq : IntKind.i64.wrap q = q := by rw [IntKind.wrap_i64]; omega
    have hq0 : 0 ≤ q := by omega
    have hq4 : q ≤ 4 := by omega
    have hqq : ((1 : Int) == q) = false := by rw [beq_eq_false_iff_ne]; omega
    clear hmq'
    rw [HT.out _ h5] at HRI
    clear h5 heq HT
    generalize PK.u64 ak = ua at *
    generalize PK.u64 kd = u at *
    go_wp2_with fail
    refine (HRI.out w6 (HE.out.below B6.out) R6.out).mono ?_
    rintro v w7 ⟨⟨y, rfl⟩, r7, f7⟩
    have g0 : w7.cell? ⟨w.heap.size, 0, none⟩ = some (.int .i64 kd) := f7.cell f0 (fun e => by have : w.heap.size = N := e; have := HM5.out; omega)
    have HDn : Hid (∀ W, Rd W N L 3 → Calls Tryd.prog 13 #[.pointer (some ⟨N, 0, none⟩)] W fun e w' => e = .returned (.iface 75 (.int .i64 3)) ∧ W = w') := fun W h => done_any N L 3 W h
    have R7 := Lib.hid r7
    have B7 : Hid (Below w.heap.size w w7) := B6.out.trans ⟨f7.os, f7.tape, f7.output, f7.size, fun k hk => f7.block k (by have := R6.out.lt; have := HM5.out; omega) (fun e => by have : k = N := e; have := HM5.out; omega)⟩
    clear r7 f7 R6 B6 f0 f2 HRU HRI HRB HRT HRX
    go_wp2_with fail
    refine (HDn.out w7 R7.out).mono ?_
    rintro e w8 ⟨rfl, rfl⟩
    clear HDn
    have hlt7 : w.heap.size < w7.heap.size := World.block_lt_of_cell? w7 _ g0
    have next : Hid (∀ W W' : World, (Hid (Below w7.heap.size w7 W) ∧ W.cell? ⟨w.heap.size, 0, none⟩ = some (.int .i64 kd)) → Below W.heap.size W W' → (Hid (Below w7.heap.size w7 W') ∧ W'.cell? ⟨w.heap.size, 0, none⟩ = some (.int .i64 kd))) := by
      rintro W W' ⟨h, _⟩ b
      have bb : Below w7.heap.size w7 W' := h.out.trans (b.mono h.out.size)
      exact ⟨Lib.hid bb, (World.cell?_of_block (bb.block _ hlt7)).trans g0⟩
    have C16 : Hid (∀ W : World, (Hid (Below w7.heap.size w7 W) ∧ W.cell? ⟨w.heap.size, 0, none⟩ = some (.int .i64 kd)) → Calls Tryd.prog 16 #[] W fun e w' => e = .returned (.bool true) ∧ (Hid (Below w7.heap.size w7 w') ∧ w'.cell? ⟨w.heap.size, 0, none⟩ = some (.int .i64 kd))) := fun W h =>
      (sure_any W ((HE.out.below B7.out).below h.1.out)).mono fun e w' hw => ⟨hw.1, next.out W w' h hw.2⟩
    have C12 : Hid (∀ W : World, (Hid (Below w7.heap.size w7 W) ∧ W.cell? ⟨w.heap.size, 0, none⟩ = some (.int .i64 kd)) → Calls Tryd.prog 12 #[.iface 75 (.int .i64 3)] W fun e w' => e = .returned (.int .i64 3) ∧ (Hid (Below w7.heap.size w7 w') ∧ w'.cell? ⟨w.heap.size, 0, none⟩ = some (.int .i64 kd))) := fun W h =>
      (num_any 3 W ((HE.out.below B7.out).below h.1.out)).mono fun e w' hw => ⟨hw.1, next.out W w' h hw.2⟩
    have C15 : Hid (∀ W : World, (Hid (Below w7.heap.size w7 W) ∧ W.cell? ⟨w.heap.size, 0, none⟩ = some (.int .i64 kd)) → Calls Tryd.prog 15 #[.pointer (some ⟨N, 0, none⟩)] W fun e w' => e = .returned (.int .i64 L.length) ∧ W = w') := fun W h => left_any _ _ _ W (R7.out.below h.1.out)
    have S7 : Hid (Below w7.heap.size w7 w7.drew) ∧ w7.drew.cell? ⟨w.heap.size, 0, none⟩ = some (.int .i64 kd) := ⟨Lib.hid (Below.refl _ _).drew, g0⟩
    have HB := B7
    clear next B7 R7 HE HV hlt7 g0
    go_wp2_with fail
    refine wp_region_noPanic ?_
    refine wp_region_held_drew (S := fun W => Hid (Below w7.heap.size w7 W) ∧ W.cell? ⟨w.heap.size, 0, none⟩ = some (.int .i64 kd)) (by kernel_rfl) S7 (fun hHeld => ?_)
    refine wpAnyH_take (i := 0) (v := ?hvb0) (List.getElem?_toArray.trans rfl) (by kernel_rfl) (by kernel_rfl) (by kernel_rfl) (fun _ _ _ h => h) (Or.inl ⟨by rfl, ?hyb0⟩) (by assumption) ?hrb0
    case hyb0 => (intro wt hSw; (try dsimp only at hSw); go_simp; try (with_reducible rfl))
    try simp only [Act.put, List.setIfInBounds_toArray, List.set_cons_zero, List.set_cons_succ]
    refine wpAnyH_take (i := 1) (v := ?hvb1) (List.getElem?_toArray.trans rfl) (by kernel_rfl) (by kernel_rfl) (by kernel_rfl) (fun _ _ _ h => h) (Or.inl ⟨by rfl, ?hyb1⟩) (by assumption) ?hrb1
    case hyb1 => (intro wt hSw; (try dsimp only at hSw); go_simp; try (with_reducible rfl))
    try simp only [Act.put, List.setIfInBounds_toArray, List.set_cons_zero, List.set_cons_succ]
    refine wpAnyH_take (i := 2) (v := ?hvb2) (List.getElem?_toArray.trans rfl) (by kernel_rfl) (by kernel_rfl) (by kernel_rfl) (fun _ _ _ h => h) (Or.inl ⟨by rfl, ?hyb2⟩) (by assumption) ?hrb2
    case hyb2 => (intro wt hSw; (try dsimp only at hSw); go_simp; try (with_reducible rfl))
    try simp only [Act.put, List.setIfInBounds_toArray, List.set_cons_zero, List.set_cons_succ]
    refine wpAnyH_take (i := 3) (v := ?hvb3) (List.getElem?_toArray.trans rfl) (by kernel_rfl) (by kernel_rfl) (by kernel_rfl) (fun _ _ _ h => h) (Or.inl ⟨by rfl, ?hyb3⟩) (by assumption) ?hrb3
    case hyb3 => (intro wt hSw; (try dsimp only at hSw); go_simp; try (with_reducible rfl))
    try simp only [Act.put, List.setIfInBounds_toArray, List.set_cons_zero, List.set_cons_succ]
    refine wpAnyH_take (i := 4) (v := ?hvb4) (List.getElem?_toArray.trans rfl) (by kernel_rfl) (by kernel_rfl) (by kernel_rfl) (fun _ _ _ h => h) (Or.inl ⟨by rfl, ?hyb4⟩) (by assumption) ?hrb4
    case hyb4 => (intro wt hSw; (try dsimp only at hSw); go_simp; try (with_reducible rfl))
    try simp only [Act.put, List.setIfInBounds_toArray, List.set_cons_zero, List.set_cons_succ]
    refine wpAnyH_take (i := 5) (v := ?hvb5) (List.getElem?_toArray.trans rfl) (by kernel_rfl) (by kernel_rfl) (by kernel_rfl) (fun _ _ _ h => h) (Or.inl ⟨by rfl, ?hyb5⟩) (by assumption) ?hrb5
    case hyb5 => (intro wt hSw; (try dsimp only at hSw); go_simp; try (with_reducible rfl))
    try simp only [Act.put, List.setIfInBounds_toArray, List.set_cons_zero, List.set_cons_succ]
    refine wpAnyH_take (i := 6) (v := ?hvb6) (List.getElem?_toArray.trans rfl) (by kernel_rfl) (by kernel_rfl) (by kernel_rfl) (fun _ _ _ h => h) (Or.inl ⟨by rfl, ?hyb6⟩) (by assumption) ?hrb6
    case hyb6 => (intro wt hSw; (try dsimp only at hSw); go_simp; try (with_reducible rfl))
    try simp only [Act.put, List.setIfInBounds_toArray, List.set_cons_zero, List.set_cons_succ]
    refine wpAnyH_take (i := 7) (v := ?hvb7) (List.getElem?_toArray.trans rfl) (by kernel_rfl) (by kernel_rfl) (by kernel_rfl) (fun _ _ _ h => h) (Or.inl ⟨by rfl, ?hyb7⟩) (by assumption) ?hrb7
    case hyb7 => (intro wt hSw; (try dsimp only at hSw); go_simp; try (with_reducible rfl))
    try simp only [Act.put, List.setIfInBounds_toArray, List.set_cons_zero, List.set_cons_succ]
    refine wpAnyH_take (i := 8) (v := ?hvb8) (List.getElem?_toArray.trans rfl) (by kernel_rfl) (by kernel_rfl) (by kernel_rfl) (fun _ _ _ h => h) (Or.inl ⟨by rfl, ?hyb8⟩) (by assumption) ?hrb8
    case hyb8 => (intro wt hSw; (try dsimp only at hSw); go_simp; try (with_reducible rfl))
    try simp only [Act.put, List.setIfInBounds_toArray, List.set_cons_zero, List.set_cons_succ]
    refine wpAnyH_take (i := 9) (v := ?hvb9) (List.getElem?_toArray.trans rfl) (by kernel_rfl) (by kernel_rfl) (by kernel_rfl) (fun _ _ _ h => h) (Or.inl ⟨by rfl, ?hyb9⟩) (by assumption) ?hrb9
    case hyb9 => (intro wt hSw; (try dsimp only at hSw); go_simp; try (with_reducible rfl))
    try simp only [Act.put, List.setIfInBounds_toArray, List.set_cons_zero, List.set_cons_succ]
    refine wpAnyH_take (i := 10) (v := ?hvb10) (List.getElem?_toArray.trans rfl) (by kernel_rfl) (by kernel_rfl) (by kernel_rfl) (fun _ _ _ h => h) (Or.inl ⟨by rfl, ?hyb10⟩) (by assumption) ?hrb10
    case hyb10 => (intro wt hSw; (try dsimp only at hSw); go_simp; try (with_reducible rfl))
    try simp only [Act.put, List.setIfInBounds_toArray, List.set_cons_zero, List.set_cons_succ]
    refine wpAnyH_take (i := 11) (v := ?hvb11) (List.getElem?_toArray.trans rfl) (by kernel_rfl) (by kernel_rfl) (by kernel_rfl) (fun _ _ _ h => h) (Or.inl ⟨by rfl, ?hyb11⟩) (by assumption) ?hrb11
    case hyb11 => (intro wt hSw; (try dsimp only at hSw); go_simp; try (with_reducible rfl))
    try simp only [Act.put, List.setIfInBounds_toArray, List.set_cons_zero, List.set_cons_succ]
    refine wpAnyH_take (i := 12) (v := ?hvb12) (List.getElem?_toArray.trans rfl) (by kernel_rfl) (by kernel_rfl) (by kernel_rfl) (fun _ _ _ h => h) (Or.inl ⟨by rfl, ?hyb12⟩) (by assumption) ?hrb12
    case hyb12 => (intro wt hSw; (try dsimp only at hSw); go_simp; try (with_reducible rfl))
    try simp only [Act.put, List.setIfInBounds_toArray, List.set_cons_zero, List.set_cons_succ]
    refine wpAnyH_take (i := 13) (v := ?hvb13) (List.getElem?_toArray.trans rfl) (by kernel_rfl) (by kernel_rfl) (by kernel_rfl) (fun _ _ _ h => h) (Or.inl ⟨by rfl, ?hyb13⟩) (by assumption) ?hrb13
    case hyb13 => (intro wt hSw; (try dsimp only at hSw); go_simp; try (with_reducible rfl))
    try simp only [Act.put, List.setIfInBounds_toArray, List.set_cons_zero, List.set_cons_succ]
    refine wpAnyH_take (i := 14) (v := ?hvb14) (List.getElem?_toArray.trans rfl) (by kernel_rfl) (by kernel_rfl) (by kernel_rfl) (fun _ _ _ h => h) (Or.inl ⟨by rfl, ?hyb14⟩) (by assumption) ?hrb14
    case hyb14 => (intro wt hSw; (try dsimp only at hSw); go_simp; try (with_reducible rfl))
    try simp only [Act.put, List.setIfInBounds_toArray, List.set_cons_zero, List.set_cons_succ]
    refine wpAnyH_ready (rs := [15]) (by kernel_rfl) (by simp) ?_
    refine AllReadyH.cons (List.getElem?_toArray.trans rfl) (fun K hK => ?_) AllReadyH.nil
    go_simp
    go_at_call 12
    refine (C12.out _ ?_).mono ?_
    · assumption
    rintro e w12 ⟨rfl, hk12⟩
    try (go_wp2_with fail)
    refine hK.out _ _ ?_ (fun hHeld => ?_)
    · (try dsimp only)
      assumption
    clear hK K
    try simp only [Act.put, List.setIfInBounds_toArray, List.set_cons_zero, List.set_cons_succ]
    refine wpAnyH_take (i := 16) (v := ?hvb16) (List.getElem?_toArray.trans rfl) (by kernel_rfl) (by kernel_rfl) (by kernel_rfl) (fun _ _ _ h => h) (Or.inl ⟨by rfl, ?hyb16⟩) (by assumption) ?hrb16
    case hyb16 => (intro wt hSw; (try dsimp only at hSw); go_simp; try (with_reducible rfl))
    try simp only [Act.put, List.setIfInBounds_toArray, List.set_cons_zero, List.set_cons_succ]
    refine wpAnyH_take (i := 17) (v := ?hvb17) (List.getElem?_toArray.trans rfl) (by kernel_rfl) (by kernel_rfl) (by kernel_rfl) (fun _ _ _ h => h) (Or.inl ⟨by rfl, ?hyb17⟩) (by assumption) ?hrb17
    case hyb17 => (intro wt hSw; (try dsimp only at hSw); go_simp; try (with_reducible rfl))
    try simp only [Act.put, List.setIfInBounds_toArray, List.set_cons_zero, List.set_cons_succ]
    refine wpAnyH_take (i := 18) (v := ?hvb18) (List.getElem?_toArray.trans rfl) (by kernel_rfl) (by kernel_rfl) (by kernel_rfl) (fun _ _ _ h => h) (Or.inl ⟨by rfl, ?hyb18⟩) (by assumption) ?hrb18
    case hyb18 => (intro wt hSw; (try dsimp only at hSw); go_simp; try (with_reducible rfl))
    try simp only [Act.put, List.setIfInBounds_toArray, List.set_cons_zero, List.set_cons_succ]
    refine wpAnyH_take (i := 20) (v := ?hvb20) (List.getElem?_toArray.trans rfl) (by kernel_rfl) (by kernel_rfl) (by kernel_rfl) (fun _ _ _ h => h) (Or.inl ⟨by rfl, ?hyb20⟩) (by assumption) ?hrb20
    case hyb20 => (intro wt hSw; (try dsimp only at hSw); go_simp; try (with_reducible rfl))
    try simp only [Act.put, List.setIfInBounds_toArray, List.set_cons_zero, List.set_cons_succ]
    refine wpAnyH_take (i := 21) (v := ?hvb21) (List.getElem?_toArray.trans rfl) (by kernel_rfl) (by kernel_rfl) (by kernel_rfl) (fun _ _ _ h => h) (Or.inl ⟨by rfl, ?hyb21⟩) (by assumption) ?hrb21
    case hyb21 => (intro wt hSw; (try dsimp only at hSw); go_simp; try (with_reducible rfl))
    try simp only [Act.put, List.setIfInBounds_toArray, List.set_cons_zero, List.set_cons_succ]
    refine wpAnyH_ready (rs := [19]) (by kernel_rfl) (by simp) ?_
    refine AllReadyH.cons (List.getElem?_toArray.trans rfl) (fun K hK => ?_) AllReadyH.nil
    go_simp
    go_at_call 15
    refine (C15.out _ ?_).mono ?_
    · assumption
    rintro e w15 ⟨rfl, rfl⟩
    try (go_wp2_with fail)
    refine hK.out _ _ ?_ (fun hHeld => ?_)
    · (try dsimp only)
      assumption
    clear hK K
    try simp only [Act.put, List.setIfInBounds_toArray, List.set_cons_zero, List.set_cons_succ]
    refine wpAnyH_take (i := 22) (v := ?hvb22) (List.getElem?_toArray.trans rfl) (by kernel_rfl) (by kernel_rfl) (by kernel_rfl) (fun _ _ _ h => h) (Or.inl ⟨by rfl, ?hyb22⟩) (by assumption) ?hrb22
    case hyb22 => (intro wt hSw; (try dsimp only at hSw); go_simp; try (with_reducible rfl))
    try simp only [Act.put, List.setIfInBounds_toArray, List.set_cons_zero, List.set_cons_succ]
    refine wpAnyH_take (i := 23) (v := ?hvb23) (List.getElem?_toArray.trans rfl) (by kernel_rfl) (by kernel_rfl) (by kernel_rfl) (fun _ _ _ h => h) (Or.inl ⟨by rfl, ?hyb23⟩) (by assumption) ?hrb23
    case hyb23 => (intro wt hSw; (try dsimp only at hSw); go_simp; try (with_reducible rfl))
    try simp only [Act.put, List.setIfInBounds_toArray, List.set_cons_zero, List.set_cons_succ]
    refine wpAnyH_take (i := 24) (v := ?hvb24) (List.getElem?_toArray.trans rfl) (by kernel_rfl) (by kernel_rfl) (by kernel_rfl) (fun _ _ _ h => h) (Or.inl ⟨by rfl, ?hyb24⟩) (by assumption) ?hrb24
    case hyb24 => (intro wt hSw; (try dsimp only at hSw); go_simp; try (with_reducible rfl))
    try simp only [Act.put, List.setIfInBounds_toArray, List.set_cons_zero, List.set_cons_succ]
    refine wpAnyH_take (i := 25) (v := ?hvb25) (List.getElem?_toArray.trans rfl) (by kernel_rfl) (by kernel_rfl) (by kernel_rfl) (fun _ _ _ h => h) (Or.inl ⟨by rfl, ?hyb25⟩) (by assumption) ?hrb25
    case hyb25 => (intro wt hSw; (try dsimp only at hSw); go_simp; try (with_reducible rfl))
    try simp only [Act.put, List.setIfInBounds_toArray, List.set_cons_zero, List.set_cons_succ]
    refine wpAnyH_take (i := 26) (v := ?hvb26) (List.getElem?_toArray.trans rfl) (by kernel_rfl) (by kernel_rfl) (by kernel_rfl) (fun _ _ _ h => h) (Or.inl ⟨by rfl, ?hyb26⟩) (by assumption) ?hrb26
    case hyb26 => (intro wt hSw; (try dsimp only at hSw); go_simp; try (with_reducible rfl))
    try simp only [Act.put, List.setIfInBounds_toArray, List.set_cons_zero, List.set_cons_succ]
    refine wpAnyH_ready (rs := [27]) (by kernel_rfl) (by simp) ?_
    refine AllReadyH.cons (List.getElem?_toArray.trans rfl) (fun K hK => ?_) AllReadyH.nil
    go_simp
    go_at_call 16
    refine (C16.out _ ?_).mono ?_
    · assumption
    rintro e w16 ⟨rfl, hk16⟩
    try (go_wp2_with fail)
    refine hK.out _ _ ?_ (fun hHeld => ?_)
    · (try dsimp only)
      assumption
    clear hK K
    try simp only [Act.put, List.setIfInBounds_toArray, List.set_cons_zero, List.set_cons_succ]
    refine wpAnyH_take (i := 28) (v := ?hvb28) (List.getElem?_toArray.trans rfl) (by kernel_rfl) (by kernel_rfl) (by kernel_rfl) (fun _ _ _ h => h) (Or.inl ⟨by rfl, ?hyb28⟩) (by assumption) ?hrb28
    case hyb28 => (intro wt hSw; (try dsimp only at hSw); go_simp; try (with_reducible rfl))
    try simp only [Act.put, List.setIfInBounds_toArray, List.set_cons_zero, List.set_cons_succ]
    refine wpAnyH_take (i := 29) (v := ?hvb29) (List.getElem?_toArray.trans rfl) (by kernel_rfl) (by kernel_rfl) (by kernel_rfl) (fun _ _ _ h => h) (Or.inl ⟨by rfl, ?hyb29⟩) (by assumption) ?hrb29
    case hyb29 => (intro wt hSw; (try dsimp only at hSw); go_simp; try (with_reducible rfl))
    try simp only [Act.put, List.setIfInBounds_toArray, List.set_cons_zero, List.set_cons_succ]
    refine wpAnyH_done (by kernel_rfl) ?_ _
    refine NoPanic.normal ?_
    go_wp2
    go_ret
    exact ⟨rfl, HB.out.trans (hk16.1.out.mono (by have := HB.out.size; omega))⟩
  · have hma : (PK.u64 ak : Int) % 5 = 2 := by omega
    obtain ⟨q, hmq'⟩ : ∃ q : Int, (PK.u64 kd : Int) % 5 = q := ⟨_, rfl⟩
    have hmq : (PK.u64 kd : Int).tmod 5 = q := by rw [Int.tmod_eq_emod_of_nonneg (by omega)]; omega
    have hwq : IntKind.i64.wrap q = q := by rw [IntKind.wrap_i64]; omega
    have hq0 : 0 ≤ q := by omega
    have hq4 : q ≤ 4 := by omega
    have hqq : ((2 : Int) == q) = false := by rw [beq_eq_false_iff_ne]; omega
    clear hmq'
    rw [HT.out _ h5] at HRB
    clear h5 heq HT
    generalize PK.u64 ak = ua at *
    generalize PK.u64 kd = u at *
    go_wp2_with fail
    refine (HRB.out w6 (HE.out.below B6.out) R6.out).mono ?_
    rintro v w7 ⟨⟨y, rfl⟩, r7, f7⟩
    have g0 : w7.cell? ⟨w.heap.size, 0, none⟩ = some (.int .i64 kd) := f7.cell f0 (fun e => by have : w.heap.size = N := e; have := HM5.out; omega)
    have HDn : Hid (∀ W, Rd W N L 3 → Calls Tryd.prog 13 #[.pointer (some ⟨N, 0, none⟩)] W fun e w' => e = .returned (.iface 75 (.int .i64 3)) ∧ W = w') := fun W h => done_any N L 3 W h
    have R7 := Lib.hid r7
    have B7 : Hid (Below w.heap.size w w7) := B6.out.trans ⟨f7.os, f7.tape, f7.output, f7.size, fun k hk => f7.block k (by have := R6.out.lt; have := HM5.out; omega) (fun e => by have : k = N := e; have := HM5.out; omega)⟩
    clear r7 f7 R6 B6 f0 f2 HRU HRI HRB HRT HRX
    go_wp2_with fail
    refine (HDn.out w7 R7.out).mono ?_
    rintro e w8 ⟨rfl, rfl⟩
    clear HDn
    have hlt7 : w.heap.size < w7.heap.size := World.block_lt_of_cell? w7 _ g0
    have next : Hid (∀ W W' : World, (Hid (Below w7.heap.size w7 W) ∧ W.cell? ⟨w.heap.size, 0, none⟩ = some (.int .i64 kd)) → Below W.heap.size W W' → (Hid (Below w7.heap.size w7 W') ∧ W'.cell? ⟨w.heap.size, 0, none⟩ = some (.int .i64 kd))) := by
      rintro W W' ⟨h, _⟩ b
      have bb : Below w7.heap.size w7 W' := h.out.trans (b.mono h.out.size)
      exact ⟨Lib.hid bb, (World.cell?_of_block (bb.block _ hlt7)).trans g0⟩
    have C16 : Hid (∀ W : World, (Hid (Below w7.heap.size w7 W) ∧ W.cell? ⟨w.heap.size, 0, none⟩ = some (.int .i64 kd)) → Calls Tryd.prog 16 #[] W fun e w' => e = .returned (.bool true) ∧ (Hid (Below w7.heap.size w7 w') ∧ w'.cell? ⟨w.heap.size, 0, none⟩ = some (.int .i64 kd))) := fun W h =>
      (sure_any W ((HE.out.below B7.out).below h.1.out)).mono fun e w' hw => ⟨hw.1, next.out W w' h hw.2⟩
    have C12 : Hid (∀ W : World, (Hid (Below w7.heap.size w7 W) ∧ W.cell? ⟨w.heap.size, 0, none⟩ = some (.int .i64 kd)) → Calls Tryd.prog 12 #[.iface 75 (.int .i64 3)] W fun e w' => e = .returned (.int .i64 3) ∧ (Hid (Below w7.heap.size w7 w') ∧ w'.cell? ⟨w.heap.size, 0, none⟩ = some (.int .i64 kd))) := fun W h =>
      (num_any 3 W ((HE.out.below B7.out).below h.1.out)).mono fun e w' hw => ⟨hw.1, next.out W w' h hw.2⟩
    have C15 : Hid (∀ W : World, (Hid (Below w7.heap.size w7 W) ∧ W.cell? ⟨w.heap.size, 0, none⟩ = some (.int .i64 kd)) → Calls Tryd.prog 15 #[.pointer (some ⟨N, 0, none⟩)] W fun e w' => e = .returned (.int .i64 L.length) ∧ W = w') := fun W h => left_any _ _ _ W (R7.out.below h.1.out)
    have S7 : Hid (Below w7.heap.size w7 w7.drew) ∧ w7.drew.cell? ⟨w.heap.size, 0, none⟩ = some (.int .i64 kd) := ⟨Lib.hid (Below.refl _ _).drew, g0⟩
    have HB := B7
    clear next B7 R7 HE HV hlt7 g0
    go_wp2_with fail
    refine wp_region_noPanic ?_
    refine wp_region_held_drew (S := fun W => Hid (Below w7.heap.size w7 W) ∧ W.cell? ⟨w.heap.size, 0, none⟩ = some (.int .i64 kd)) (by kernel_rfl) S7 (fun hHeld => ?_)
    refine wpAnyH_take (i := 0) (v := ?hvc0) (List.getElem?_toArray.trans rfl) (by kernel_rfl) (by kernel_rfl) (by kernel_rfl) (fun _ _ _ h => h) (Or.inl ⟨by rfl, ?hyc0⟩) (by assumption) ?hrc0
    case hyc0 => (intro wt hSw; (try dsimp only at hSw); go_simp; try (with_reducible rfl))
    try simp only [Act.put, List.setIfInBounds_toArray, List.set_cons_zero, List.set_cons_succ]
    refine wpAnyH_take (i := 1) (v := ?hvc1) (List.getElem?_toArray.trans rfl) (by kernel_rfl) (by kernel_rfl) (by kernel_rfl) (fun _ _ _ h => h) (Or.inl ⟨by rfl, ?hyc1⟩) (by assumption) ?hrc1
    case hyc1 => (intro wt hSw; (try dsimp only at hSw); go_simp; try (with_reducible rfl))
    try simp only [Act.put, List.setIfInBounds_toArray, List.set_cons_zero, List.set_cons_succ]
    refine wpAnyH_take (i := 2) (v := ?hvc2) (List.getElem?_toArray.trans rfl) (by kernel_rfl) (by kernel_rfl) (by kernel_rfl) (fun _ _ _ h => h) (Or.inl ⟨by rfl, ?hyc2⟩) (by assumption) ?hrc2
    case hyc2 => (intro wt hSw; (try dsimp only at hSw); go_simp; try (with_reducible rfl))
    try simp only [Act.put, List.setIfInBounds_toArray, List.set_cons_zero, List.set_cons_succ]
    refine wpAnyH_take (i := 3) (v := ?hvc3) (List.getElem?_toArray.trans rfl) (by kernel_rfl) (by kernel_rfl) (by kernel_rfl) (fun _ _ _ h => h) (Or.inl ⟨by rfl, ?hyc3⟩) (by assumption) ?hrc3
    case hyc3 => (intro wt hSw; (try dsimp only at hSw); go_simp; try (with_reducible rfl))
    try simp only [Act.put, List.setIfInBounds_toArray, List.set_cons_zero, List.set_cons_succ]
    refine wpAnyH_take (i := 4) (v := ?hvc4) (List.getElem?_toArray.trans rfl) (by kernel_rfl) (by kernel_rfl) (by kernel_rfl) (fun _ _ _ h => h) (Or.inl ⟨by rfl, ?hyc4⟩) (by assumption) ?hrc4
    case hyc4 => (intro wt hSw; (try dsimp only at hSw); go_simp; try (with_reducible rfl))
    try simp only [Act.put, List.setIfInBounds_toArray, List.set_cons_zero, List.set_cons_succ]
    refine wpAnyH_take (i := 5) (v := ?hvc5) (List.getElem?_toArray.trans rfl) (by kernel_rfl) (by kernel_rfl) (by kernel_rfl) (fun _ _ _ h => h) (Or.inl ⟨by rfl, ?hyc5⟩) (by assumption) ?hrc5
    case hyc5 => (intro wt hSw; (try dsimp only at hSw); go_simp; try (with_reducible rfl))
    try simp only [Act.put, List.setIfInBounds_toArray, List.set_cons_zero, List.set_cons_succ]
    refine wpAnyH_take (i := 6) (v := ?hvc6) (List.getElem?_toArray.trans rfl) (by kernel_rfl) (by kernel_rfl) (by kernel_rfl) (fun _ _ _ h => h) (Or.inl ⟨by rfl, ?hyc6⟩) (by assumption) ?hrc6
    case hyc6 => (intro wt hSw; (try dsimp only at hSw); go_simp; try (with_reducible rfl))
    try simp only [Act.put, List.setIfInBounds_toArray, List.set_cons_zero, List.set_cons_succ]
    refine wpAnyH_take (i := 7) (v := ?hvc7) (List.getElem?_toArray.trans rfl) (by kernel_rfl) (by kernel_rfl) (by kernel_rfl) (fun _ _ _ h => h) (Or.inl ⟨by rfl, ?hyc7⟩) (by assumption) ?hrc7
    case hyc7 => (intro wt hSw; (try dsimp only at hSw); go_simp; try (with_reducible rfl))
    try simp only [Act.put, List.setIfInBounds_toArray, List.set_cons_zero, List.set_cons_succ]
    refine wpAnyH_take (i := 8) (v := ?hvc8) (List.getElem?_toArray.trans rfl) (by kernel_rfl) (by kernel_rfl) (by kernel_rfl) (fun _ _ _ h => h) (Or.inl ⟨by rfl, ?hyc8⟩) (by assumption) ?hrc8
    case hyc8 => (intro wt hSw; (try dsimp only at hSw); go_simp; try (with_reducible rfl))
    try simp only [Act.put, List.setIfInBounds_toArray, List.set_cons_zero, List.set_cons_succ]
    refine wpAnyH_take (i := 9) (v := ?hvc9) (List.getElem?_toArray.trans rfl) (by kernel_rfl) (by kernel_rfl) (by kernel_rfl) (fun _ _ _ h => h) (Or.inl ⟨by rfl, ?hyc9⟩) (by assumption) ?hrc9
    case hyc9 => (intro wt hSw; (try dsimp only at hSw); go_simp; try (with_reducible rfl))
    try simp only [Act.put, List.setIfInBounds_toArray, List.set_cons_zero, List.set_cons_succ]
    refine wpAnyH_take (i := 10) (v := ?hvc10) (List.getElem?_toArray.trans rfl) (by kernel_rfl) (by kernel_rfl) (by kernel_rfl) (fun _ _ _ h => h) (Or.inl ⟨by rfl, ?hyc10⟩) (by assumption) ?hrc10
    case hyc10 => (intro wt hSw; (try dsimp only at hSw); go_simp; try (with_reducible rfl))
    try simp only [Act.put, List.setIfInBounds_toArray, List.set_cons_zero, List.set_cons_succ]
    refine wpAnyH_take (i := 11) (v := ?hvc11) (List.getElem?_toArray.trans rfl) (by kernel_rfl) (by kernel_rfl) (by kernel_rfl) (fun _ _ _ h => h) (Or.inl ⟨by rfl, ?hyc11⟩) (by assumption) ?hrc11
    case hyc11 => (intro wt hSw; (try dsimp only at hSw); go_simp; try (with_reducible rfl))
    try simp only [Act.put, List.setIfInBounds_toArray, List.set_cons_zero, List.set_cons_succ]
    refine wpAnyH_take (i := 12) (v := ?hvc12) (List.getElem?_toArray.trans rfl) (by kernel_rfl) (by kernel_rfl) (by kernel_rfl) (fun _ _ _ h => h) (Or.inl ⟨by rfl, ?hyc12⟩) (by assumption) ?hrc12
    case hyc12 => (intro wt hSw; (try dsimp only at hSw); go_simp; try (with_reducible rfl))
    try simp only [Act.put, List.setIfInBounds_toArray, List.set_cons_zero, List.set_cons_succ]
    refine wpAnyH_take (i := 13) (v := ?hvc13) (List.getElem?_toArray.trans rfl) (by kernel_rfl) (by kernel_rfl) (by kernel_rfl) (fun _ _ _ h => h) (Or.inl ⟨by rfl, ?hyc13⟩) (by assumption) ?hrc13
    case hyc13 => (intro wt hSw; (try dsimp only at hSw); go_simp; try (with_reducible rfl))
    try simp only [Act.put, List.setIfInBounds_toArray, List.set_cons_zero, List.set_cons_succ]
    refine wpAnyH_take (i := 14) (v := ?hvc14) (List.getElem?_toArray.trans rfl) (by kernel_rfl) (by kernel_rfl) (by kernel_rfl) (fun _ _ _ h => h) (Or.inl ⟨by rfl, ?hyc14⟩) (by assumption) ?hrc14
    case hyc14 => (intro wt hSw; (try dsimp only at hSw); go_simp; try (with_reducible rfl))
    try simp only [Act.put, List.setIfInBounds_toArray, List.set_cons_zero, List.set_cons_succ]
    refine wpAnyH_ready (rs := [15]) (by kernel_rfl) (by simp) ?_
    refine AllReadyH.cons (List.getElem?_toArray.trans rfl) (fun K hK => ?_) AllReadyH.nil
    go_simp
    go_at_call 12
    refine (C12.out _ ?_).mono ?_
    · assumption
    rintro e w12 ⟨rfl, hk12⟩
    try (go_wp2_with fail)
    refine hK.out _ _ ?_ (fun hHeld => ?_)
    · (try dsimp only)
      assumption
    clear hK K
    try simp only [Act.put, List.setIfInBounds_toArray, List.set_cons_zero, List.set_cons_succ]
    refine wpAnyH_take (i := 16) (v := ?hvc16) (List.getElem?_toArray.trans rfl) (by kernel_rfl) (by kernel_rfl) (by kernel_rfl) (fun _ _ _ h => h) (Or.inl ⟨by rfl, ?hyc16⟩) (by assumption) ?hrc16
    case hyc16 => (intro wt hSw; (try dsimp only at hSw); go_simp; try (with_reducible rfl))
    try simp only [Act.put, List.setIfInBounds_toArray, List.set_cons_zero, List.set_cons_succ]
    refine wpAnyH_take (i := 17) (v := ?hvc17) (List.getElem?_toArray.trans rfl) (by kernel_rfl) (by kernel_rfl) (by kernel_rfl) (fun _ _ _ h => h) (Or.inl ⟨by rfl, ?hyc17⟩) (by assumption) ?hrc17
    case hyc17 => (intro wt hSw; (try dsimp only at hSw); go_simp; try (with_reducible rfl))
    try simp only [Act.put, List.setIfInBounds_toArray, List.set_cons_zero, List.set_cons_succ]
    refine wpAnyH_take (i := 18) (v := ?hvc18) (List.getElem?_toArray.trans rfl) (by kernel_rfl) (by kernel_rfl) (by kernel_rfl) (fun _ _ _ h => h) (Or.inl ⟨by rfl, ?hyc18⟩) (by assumption) ?hrc18
    case hyc18 => (intro wt hSw; (try dsimp only at hSw); go_simp; try (with_reducible rfl))
    try simp only [Act.put, List.setIfInBounds_toArray, List.set_cons_zero, List.set_cons_succ]
    refine wpAnyH_take (i := 20) (v := ?hvc20) (List.getElem?_toArray.trans rfl) (by kernel_rfl) (by kernel_rfl) (by kernel_rfl) (fun _ _ _ h => h) (Or.inl ⟨by rfl, ?hyc20⟩) (by assumption) ?hrc20
    case hyc20 => (intro wt hSw; (try dsimp only at hSw); go_simp; try (with_reducible rfl))
    try simp only [Act.put, List.setIfInBounds_toArray, List.set_cons_zero, List.set_cons_succ]
    refine wpAnyH_take (i := 21) (v := ?hvc21) (List.getElem?_toArray.trans rfl) (by kernel_rfl) (by kernel_rfl) (by kernel_rfl) (fun _ _ _ h => h) (Or.inl ⟨by rfl, ?hyc21⟩) (by assumption) ?hrc21
    case hyc21 => (intro wt hSw; (try dsimp only at hSw); go_simp; try (with_reducible rfl))
    try simp only [Act.put, List.setIfInBounds_toArray, List.set_cons_zero, List.set_cons_succ]
    refine wpAnyH_ready (rs := [19]) (by kernel_rfl) (by simp) ?_
    refine AllReadyH.cons (List.getElem?_toArray.trans rfl) (fun K hK => ?_) AllReadyH.nil
    go_simp
    go_at_call 15
    refine (C15.out _ ?_).mono ?_
    · assumption
    rintro e w15 ⟨rfl, rfl⟩
    try (go_wp2_with fail)
    refine hK.out _ _ ?_ (fun hHeld => ?_)
    · (try dsimp only)
      assumption
    clear hK K
    try simp only [Act.put, List.setIfInBounds_toArray, List.set_cons_zero, List.set_cons_succ]
    refine wpAnyH_take (i := 22) (v := ?hvc22) (List.getElem?_toArray.trans rfl) (by kernel_rfl) (by kernel_rfl) (by kernel_rfl) (fun _ _ _ h => h) (Or.inl ⟨by rfl, ?hyc22⟩) (by assumption) ?hrc22
    case hyc22 => (intro wt hSw; (try dsimp only at hSw); go_simp; try (with_reducible rfl))
    try simp only [Act.put, List.setIfInBounds_toArray, List.set_cons_zero, List.set_cons_succ]
    refine wpAnyH_take (i := 23) (v := ?hvc23) (List.getElem?_toArray.trans rfl) (by kernel_rfl) (by kernel_rfl) (by kernel_rfl) (fun _ _ _ h => h) (Or.inl ⟨by rfl, ?hyc23⟩) (by assumption) ?hrc23
    case hyc23 => (intro wt hSw; (try dsimp only at hSw); go_simp; try (with_reducible rfl))
    try simp only [Act.put, List.setIfInBounds_toArray, List.set_cons_zero, List.set_cons_succ]
    refine wpAnyH_take (i := 24) (v := ?hvc24) (List.getElem?_toArray.trans rfl) (by kernel_rfl) (by kernel_rfl) (by kernel_rfl) (fun _ _ _ h => h) (Or.inl ⟨by rfl, ?hyc24⟩) (by assumption) ?hrc24
    case hyc24 => (intro wt hSw; (try dsimp only at hSw); go_simp; try (with_reducible rfl))
    try simp only [Act.put, List.setIfInBounds_toArray, List.set_cons_zero, List.set_cons_succ]
    refine wpAnyH_take (i := 25) (v := ?hvc25) (List.getElem?_toArray.trans rfl) (by kernel_rfl) (by kernel_rfl) (by kernel_rfl) (fun _ _ _ h => h) (Or.inl ⟨by rfl, ?hyc25⟩) (by assumption) ?hrc25
    case hyc25 => (intro wt hSw; (try dsimp only at hSw); go_simp; try (with_reducible rfl))
    try simp only [Act.put, List.setIfInBounds_toArray, List.set_cons_zero, List.set_cons_succ]
    refine wpAnyH_take (i := 26) (v := ?hvc26) (List.getElem?_toArray.trans rfl) (by kernel_rfl) (by kernel_rfl) (by kernel_rfl) (fun _ _ _ h => h) (Or.inl ⟨by rfl, ?hyc26⟩) (by assumption) ?hrc26
    case hyc26 => (intro wt hSw; (try dsimp only at hSw); go_simp; try (with_reducible rfl))
    try simp only [Act.put, List.setIfInBounds_toArray, List.set_cons_zero, List.set_cons_succ]
    refine wpAnyH_ready (rs := [27]) (by kernel_rfl) (by simp) ?_
    refine AllReadyH.cons (List.getElem?_toArray.trans rfl) (fun K hK => ?_) AllReadyH.nil
    go_simp
    go_at_call 16
    refine (C16.out _ ?_).mono ?_
    · assumption
    rintro e w16 ⟨rfl, hk16⟩
    try (go_wp2_with fail)
    refine hK.out _ _ ?_ (fun hHeld => ?_)
    · (try dsimp only)
      assumption
    clear hK K
    try simp only [Act.put, List.setIfInBounds_toArray, List.set_cons_zero, List.set_cons_succ]
    refine wpAnyH_take (i := 28) (v := ?hvc28) (List.getElem?_toArray.trans rfl) (by kernel_rfl) (by kernel_rfl) (by kernel_rfl) (fun _ _ _ h => h) (Or.inl ⟨by rfl, ?hyc28⟩) (by assumption) ?hrc28
    case hyc28 => (intro wt hSw; (try dsimp only at hSw); go_simp; try (with_reducible rfl))
    try simp only [Act.put, List.setIfInBounds_toArray, List.set_cons_zero, List.set_cons_succ]
    refine wpAnyH_take (i := 29) (v := ?hvc29) (List.getElem?_toArray.trans rfl) (by kernel_rfl) (by kernel_rfl) (by kernel_rfl) (fun _ _ _ h => h) (Or.inl ⟨by rfl, ?hyc29⟩) (by assumption) ?hrc29
    case hyc29 => (intro wt hSw; (try dsimp only at hSw); go_simp; try (with_reducible rfl))
    try simp only [Act.put, List.setIfInBounds_toArray, List.set_cons_zero, List.set_cons_succ]
    refine wpAnyH_done (by kernel_rfl) ?_ _
    refine NoPanic.normal ?_
    go_wp2
    go_ret
    exact ⟨rfl, HB.out.trans (hk16.1.out.mono (by have := HB.out.size; omega))⟩
  · have hma : (PK.u64 ak : Int) % 5 = 3 := by omega
    obtain ⟨q, hmq'⟩ : ∃ q : Int, (PK.u64 kd : Int) % 5 = q := ⟨_, rfl⟩
    have hmq : (PK.u64 kd : Int).tmod 5 = q := by rw [Int.tmod_eq_emod_of_nonneg (by omega)]; omega
    have hwq : IntKind.i64.wrap q = q := by rw [IntKind.wrap_i64]; omega
    have hq0 : 0 ≤ q := by omega
    have hq4 : q ≤ 4 := by omega
    have hqq : ((3 : Int) == q) = false := by rw [beq_eq_false_iff_ne]; omega
    clear hmq'
    rw [HT.out _ h5] at HRT
    clear h5 heq HT
    generalize PK.u64 ak = ua at *
    generalize PK.u64 kd = u at *
    go_wp2_with fail
    refine (HRT.out w6 (HE.out.below B6.out) R6.out).mono ?_
    rintro v w7 ⟨⟨y, rfl⟩, r7, f7⟩
    have g0 : w7.cell? ⟨w.heap.size, 0, none⟩ = some (.int .i64 kd) := f7.cell f0 (fun e => by have : w.heap.size = N := e; have := HM5.out; omega)
    have HDn : Hid (∀ W, Rd W N L 3 → Calls Tryd.prog 13 #[.pointer (some ⟨N, 0, none⟩)] W fun e w' => e = .returned (.iface 75 (.int .i64 3)) ∧ W = w') := fun W h => done_any N L 3 W h
    have R7 := Lib.hid r7
    have B7 : Hid (Below w.heap.size w w7) := B6.out.trans ⟨f7.os, f7.tape, f7.output, f7.size, fun k hk => f7.block k (by have := R6.out.lt; have := HM5.out; omega) (fun e => by have : k = N := e; have := HM5.out; omega)⟩
    clear r7 f7 R6 B6 f0 f2 HRU HRI HRB HRT HRX
    go_wp2_with fail
    refine (HDn.out w7 R7.out).mono ?_
    rintro e w8 ⟨rfl, rfl⟩
    clear HDn
    have hlt7 : w.heap.size < w7.heap.size := World.block_lt_of_cell? w7 _ g0
    have next : Hid (∀ W W' : World, (Hid (Below w7.heap.size w7 W) ∧ W.cell? ⟨w.heap.size, 0, none⟩ = some (.int .i64 kd)) → Below W.heap.size W W' → (Hid (Below w7.heap.size w7 W') ∧ W'.cell? ⟨w.heap.size, 0, none⟩ = some (.int .i64 kd))) := by
      rintro W W' ⟨h, _⟩ b
      have bb : Below w7.heap.size w7 W' := h.out.trans (b.mono h.out.size)
      exact ⟨Lib.hid bb, (World.cell?_of_block (bb.block _ hlt7)).trans g0⟩
    have C16 : Hid (∀ W : World, (Hid (Below w7.heap.size w7 W) ∧ W.cell? ⟨w.heap.size, 0, none⟩ = some (.int .i64 kd)) → Calls Tryd.prog 16 #[] W fun e w' => e = .returned (.bool true) ∧ (Hid (Below w7.heap.size w7 w') ∧ w'.cell? ⟨w.heap.size, 0, none⟩ = some (.int .i64 kd))) := fun W h =>
      (sure_any W ((HE.out.below B7.out).below h.1.out)).mono fun e w' hw => ⟨hw.1, next.out W w' h hw.2⟩
    have C12 : Hid (∀ W : World, (Hid (Below w7.heap.size w7 W) ∧ W.cell? ⟨w.heap.size, 0, none⟩ = some (.int .i64 kd)) → Calls Tryd.prog 12 #[.iface 75 (.int .i64 3)] W fun e w' => e = .returned (.int .i64 3) ∧ (Hid (Below w7.heap.size w7 w') ∧ w'.cell? ⟨w.heap.size, 0, none⟩ = some (.int .i64 kd))) := fun W h =>
      (num_any 3 W ((HE.out.below B7.out).below h.1.out)).mono fun e w' hw => ⟨hw.1, next.out W w' h hw.2⟩
    have C15 : Hid (∀ W : World, (Hid (Below w7.heap.size w7 W) ∧ W.cell? ⟨w.heap.size, 0, none⟩ = some (.int .i64 kd)) → Calls Tryd.prog 15 #[.pointer (some ⟨N, 0, none⟩)] W fun e w' => e = .returned (.int .i64 L.length) ∧ W = w') := fun W h => left_any _ _ _ W (R7.out.below h.1.out)
    have S7 : Hid (Below w7.heap.size w7 w7.drew) ∧ w7.drew.cell? ⟨w.heap.size, 0, none⟩ = some (.int .i64 kd) := ⟨Lib.hid (Below.refl _ _).drew, g0⟩
    have HB := B7
    clear next B7 R7 HE HV hlt7 g0
    go_wp2_with fail
    refine wp_region_noPanic ?_
    refine wp_region_held_drew (S := fun W => Hid (Below w7.heap.size w7 W) ∧ W.cell? ⟨w.heap.size, 0, none⟩ = some (.int .i64 kd)) (by kernel_rfl) S7 (fun hHeld => ?_)
    refine wpAnyH_take (i := 0) (v := ?hvd0) (List.getElem?_toArray.trans rfl) (by kernel_rfl) (by kernel_rfl) (by kernel_rfl) (fun _ _ _ h => h) (Or.inl ⟨by rfl, ?hyd0⟩) (by assumption) ?hrd0
    case hyd0 => (intro wt hSw; (try dsimp only at hSw); go_simp; try (with_reducible rfl))
    try simp only [Act.put, List.setIfInBounds_toArray, List.set_cons_zero, List.set_cons_succ]
    refine wpAnyH_take (i := 1) (v := ?hvd1) (List.getElem?_toArray.trans rfl) (by kernel_rfl) (by kernel_rfl) (by kernel_rfl) (fun _ _ _ h => h) (Or.inl ⟨by rfl, ?hyd1⟩) (by assumption) ?hrd1
    case hyd1 => (intro wt hSw; (try dsimp only at hSw); go_simp; try (with_reducible rfl))
    try simp only [Act.put, List.setIfInBounds_toArray, List.set_cons_zero, List.set_cons_succ]
    refine wpAnyH_take (i := 2) (v := ?hvd2) (List.getElem?_toArray.trans rfl) (by kernel_rfl) (by kernel_rfl) (by kernel_rfl) (fun _ _ _ h => h) (Or.inl ⟨by rfl, ?hyd2⟩) (by assumption) ?hrd2
    case hyd2 => (intro wt hSw; (try dsimp only at hSw); go_simp; try (with_reducible rfl))
    try simp only [Act.put, List.setIfInBounds_toArray, List.set_cons_zero, List.set_cons_succ]
    refine wpAnyH_take (i := 3) (v := ?hvd3) (List.getElem?_toArray.trans rfl) (by kernel_rfl) (by kernel_rfl) (by kernel_rfl) (fun _ _ _ h => h) (Or.inl ⟨by rfl, ?hyd3⟩) (by assumption) ?hrd3
    case hyd3 => (intro wt hSw; (try dsimp only at hSw); go_simp; try (with_reducible rfl))
    try simp only [Act.put, List.setIfInBounds_toArray, List.set_cons_zero, List.set_cons_succ]
    refine wpAnyH_take (i := 4) (v := ?hvd4) (List.getElem?_toArray.trans rfl) (by kernel_rfl) (by kernel_rfl) (by kernel_rfl) (fun _ _ _ h => h) (Or.inl ⟨by rfl, ?hyd4⟩) (by assumption) ?hrd4
    case hyd4 => (intro wt hSw; (try dsimp only at hSw); go_simp; try (with_reducible rfl))
    try simp only [Act.put, List.setIfInBounds_toArray, List.set_cons_zero, List.set_cons_succ]
    refine wpAnyH_take (i := 5) (v := ?hvd5) (List.getElem?_toArray.trans rfl) (by kernel_rfl) (by kernel_rfl) (by kernel_rfl) (fun _ _ _ h => h) (Or.inl ⟨by rfl, ?hyd5⟩) (by assumption) ?hrd5
    case hyd5 => (intro wt hSw; (try dsimp only at hSw); go_simp; try (with_reducible rfl))
    try simp only [Act.put, List.setIfInBounds_toArray, List.set_cons_zero, List.set_cons_succ]
    refine wpAnyH_take (i := 6) (v := ?hvd6) (List.getElem?_toArray.trans rfl) (by kernel_rfl) (by kernel_rfl) (by kernel_rfl) (fun _ _ _ h => h) (Or.inl ⟨by rfl, ?hyd6⟩) (by assumption) ?hrd6
    case hyd6 => (intro wt hSw; (try dsimp only at hSw); go_simp; try (with_reducible rfl))
    try simp only [Act.put, List.setIfInBounds_toArray, List.set_cons_zero, List.set_cons_succ]
    refine wpAnyH_take (i := 7) (v := ?hvd7) (List.getElem?_toArray.trans rfl) (by kernel_rfl) (by kernel_rfl) (by kernel_rfl) (fun _ _ _ h => h) (Or.inl ⟨by rfl, ?hyd7⟩) (by assumption) ?hrd7
    case hyd7 => (intro wt hSw; (try dsimp only at hSw); go_simp; try (with_reducible rfl))
    try simp only [Act.put, List.setIfInBounds_toArray, List.set_cons_zero, List.set_cons_succ]
    refine wpAnyH_take (i := 8) (v := ?hvd8) (List.getElem?_toArray.trans rfl) (by kernel_rfl) (by kernel_rfl) (by kernel_rfl) (fun _ _ _ h => h) (Or.inl ⟨by rfl, ?hyd8⟩) (by assumption) ?hrd8
    case hyd8 => (intro wt hSw; (try dsimp only at hSw); go_simp; try (with_reducible rfl))
    try simp only [Act.put, List.setIfInBounds_toArray, List.set_cons_zero, List.set_cons_succ]
    refine wpAnyH_take (i := 9) (v := ?hvd9) (List.getElem?_toArray.trans rfl) (by kernel_rfl) (by kernel_rfl) (by kernel_rfl) (fun _ _ _ h => h) (Or.inl ⟨by rfl, ?hyd9⟩) (by assumption) ?hrd9
    case hyd9 => (intro wt hSw; (try dsimp only at hSw); go_simp; try (with_reducible rfl))
    try simp only [Act.put, List.setIfInBounds_toArray, List.set_cons_zero, List.set_cons_succ]
    refine wpAnyH_take (i := 10) (v := ?hvd10) (List.getElem?_toArray.trans rfl) (by kernel_rfl) (by kernel_rfl) (by kernel_rfl) (fun _ _ _ h => h) (Or.inl ⟨by rfl, ?hyd10⟩) (by assumption) ?hrd10
    case hyd10 => (intro wt hSw; (try dsimp only at hSw); go_simp; try (with_reducible rfl))
    try simp only [Act.put, List.setIfInBounds_toArray, List.set_cons_zero, List.set_cons_succ]
    refine wpAnyH_take (i := 11) (v := ?hvd11) (List.getElem?_toArray.trans rfl) (by kernel_rfl) (by kernel_rfl) (by kernel_rfl) (fun _ _ _ h => h) (Or.inl ⟨by rfl, ?hyd11⟩) (by assumption) ?hrd11
    case hyd11 => (intro wt hSw; (try dsimp only at hSw); go_simp; try (with_reducible rfl))
    try simp only [Act.put, List.setIfInBounds_toArray, List.set_cons_zero, List.set_cons_succ]
    refine wpAnyH_take (i := 12) (v := ?hvd12) (List.getElem?_toArray.trans rfl) (by kernel_rfl) (by kernel_rfl) (by kernel_rfl) (fun _ _ _ h => h) (Or.inl ⟨by rfl, ?hyd12⟩) (by assumption) ?hrd12
    case hyd12 => (intro wt hSw; (try dsimp only at hSw); go_simp; try (with_reducible rfl))
    try simp only [Act.put, List.setIfInBounds_toArray, List.set_cons_zero, List.set_cons_succ]
    refine wpAnyH_take (i := 13) (v := ?hvd13) (List.getElem?_toArray.trans rfl) (by kernel_rfl) (by kernel_rfl) (by kernel_rfl) (fun _ _ _ h => h) (Or.inl ⟨by rfl, ?hyd13⟩) (by assumption) ?hrd13
    case hyd13 => (intro wt hSw; (try dsimp only at hSw); go_simp; try (with_reducible rfl))
    try simp only [Act.put, List.setIfInBounds_toArray, List.set_cons_zero, List.set_cons_succ]
    refine wpAnyH_take (i := 14) (v := ?hvd14) (List.getElem?_toArray.trans rfl) (by kernel_rfl) (by kernel_rfl) (by kernel_rfl) (fun _ _ _ h => h) (Or.inl ⟨by rfl, ?hyd14⟩) (by assumption) ?hrd14
    case hyd14 => (intro wt hSw; (try dsimp only at hSw); go_simp; try (with_reducible rfl))
    try simp only [Act.put, List.setIfInBounds_toArray, List.set_cons_zero, List.set_cons_succ]
    refine wpAnyH_ready (rs := [15]) (by kernel_rfl) (by simp) ?_
    refine AllReadyH.cons (List.getElem?_toArray.trans rfl) (fun K hK => ?_) AllReadyH.nil
    go_simp
    go_at_call 12
    refine (C12.out _ ?_).mono ?_
    · assumption
    rintro e w12 ⟨rfl, hk12⟩
    try (go_wp2_with fail)
    refine hK.out _ _ ?_ (fun hHeld => ?_)
    · (try dsimp only)
      assumption
    clear hK K
    try simp only [Act.put, List.setIfInBounds_toArray, List.set_cons_zero, List.set_cons_succ]
    refine wpAnyH_take (i := 16) (v := ?hvd16) (List.getElem?_toArray.trans rfl) (by kernel_rfl) (by kernel_rfl) (by kernel_rfl) (fun _ _ _ h => h) (Or.inl ⟨by rfl, ?hyd16⟩) (by assumption) ?hrd16
    case hyd16 => (intro wt hSw; (try dsimp only at hSw); go_simp; try (with_reducible rfl))
    try simp only [Act.put, List.setIfInBounds_toArray, List.set_cons_zero, List.set_cons_succ]
    refine wpAnyH_take (i := 17) (v := ?hvd17) (List.getElem?_toArray.trans rfl) (by kernel_rfl) (by kernel_rfl) (by kernel_rfl) (fun _ _ _ h => h) (Or.inl ⟨by rfl, ?hyd17⟩) (by assumption) ?hrd17
    case hyd17 => (intro wt hSw; (try dsimp only at hSw); go_simp; try (with_reducible rfl))
    try simp only [Act.put, List.setIfInBounds_toArray, List.set_cons_zero, List.set_cons_succ]
    refine wpAnyH_take (i := 18) (v := ?hvd18) (List.getElem?_toArray.trans rfl) (by kernel_rfl) (by kernel_rfl) (by kernel_rfl) (fun _ _ _ h => h) (Or.inl ⟨by rfl, ?hyd18⟩) (by assumption) ?hrd18
    case hyd18 => (intro wt hSw; (try dsimp only at hSw); go_simp; try (with_reducible rfl))
    try simp only [Act.put, List.setIfInBounds_toArray, List.set_cons_zero, List.set_cons_succ]
    refine wpAnyH_take (i := 20) (v := ?hvd20) (List.getElem?_toArray.trans rfl) (by kernel_rfl) (by kernel_rfl) (by kernel_rfl) (fun _ _ _ h => h) (Or.inl ⟨by rfl, ?hyd20⟩) (by assumption) ?hrd20
    case hyd20 => (intro wt hSw; (try dsimp only at hSw); go_simp; try (with_reducible rfl))
    try simp only [Act.put, List.setIfInBounds_toArray, List.set_cons_zero, List.set_cons_succ]
    refine wpAnyH_take (i := 21) (v := ?hvd21) (List.getElem?_toArray.trans rfl) (by kernel_rfl) (by kernel_rfl) (by kernel_rfl) (fun _ _ _ h => h) (Or.inl ⟨by rfl, ?hyd21⟩) (by assumption) ?hrd21
    case hyd21 => (intro wt hSw; (try dsimp only at hSw); go_simp; try (with_reducible rfl))
    try simp only [Act.put, List.setIfInBounds_toArray, List.set_cons_zero, List.set_cons_succ]
    refine wpAnyH_ready (rs := [19]) (by kernel_rfl) (by simp) ?_
    refine AllReadyH.cons (List.getElem?_toArray.trans rfl) (fun K hK => ?_) AllReadyH.nil
    go_simp
    go_at_call 15
    refine (C15.out _ ?_).mono ?_
    · assumption
    rintro e w15 ⟨rfl, rfl⟩
    try (go_wp2_with fail)
    refine hK.out _ _ ?_ (fun hHeld => ?_)
    · (try dsimp only)
      assumption
    clear hK K
    try simp only [Act.put, List.setIfInBounds_toArray, List.set_cons_zero, List.set_cons_succ]
    refine wpAnyH_take (i := 22) (v := ?hvd22) (List.getElem?_toArray.trans rfl) (by kernel_rfl) (by kernel_rfl) (by kernel_rfl) (fun _ _ _ h => h) (Or.inl ⟨by rfl, ?hyd22⟩) (by assumption) ?hrd22
    case hyd22 => (intro wt hSw; (try dsimp only at hSw); go_simp; try (with_reducible rfl))
    try simp only [Act.put, List.setIfInBounds_toArray, List.set_cons_zero, List.set_cons_succ]
    refine wpAnyH_take (i := 23) (v := ?hvd23) (List.getElem?_toArray.trans rfl) (by kernel_rfl) (by kernel_rfl) (by kernel_rfl) (fun _ _ _ h => h) (Or.inl ⟨by rfl, ?hyd23⟩) (by assumption) ?hrd23
    case hyd23 => (intro wt hSw; (try dsimp only at hSw); go_simp; try (with_reducible rfl))
    try simp only [Act.put, List.setIfInBounds_toArray, List.set_cons_zero, List.set_cons_succ]
    refine wpAnyH_take (i := 24) (v := ?hvd24) (List.getElem?_toArray.trans rfl) (by kernel_rfl) (by kernel_rfl) (by kernel_rfl) (fun _ _ _ h => h) (Or.inl ⟨by rfl, ?hyd24⟩) (by assumption) ?hrd24
    case hyd24 => (intro wt hSw; (try dsimp only at hSw); go_simp; try (with_reducible rfl))
    try simp only [Act.put, List.setIfInBounds_toArray, List.set_cons_zero, List.set_cons_succ]
    refine wpAnyH_take (i := 25) (v := ?hvd25) (List.getElem?_toArray.trans rfl) (by kernel_rfl) (by kernel_rfl) (by kernel_rfl) (fun _ _ _ h => h) (Or.inl ⟨by rfl, ?hyd25⟩) (by assumption) ?hrd25
    case hyd25 => (intro wt hSw; (try dsimp only at hSw); go_simp; try (with_reducible rfl))
    try simp only [Act.put, List.setIfInBounds_toArray, List.set_cons_zero, List.set_cons_succ]
    refine wpAnyH_take (i := 26) (v := ?hvd26) (List.getElem?_toArray.trans rfl) (by kernel_rfl) (by kernel_rfl) (by kernel_rfl) (fun _ _ _ h => h) (Or.inl ⟨by rfl, ?hyd26⟩) (by assumption) ?hrd26
    case hyd26 => (intro wt hSw; (try dsimp only at hSw); go_simp; try (with_reducible rfl))
    try simp only [Act.put, List.setIfInBounds_toArray, List.set_cons_zero, List.set_cons_succ]
    refine wpAnyH_ready (rs := [27]) (by kernel_rfl) (by simp) ?_
    refine AllReadyH.cons (List.getElem?_toArray.trans rfl) (fun K hK => ?_) AllReadyH.nil
    go_simp
    go_at_call 16
    refine (C16.out _ ?_).mono ?_
    · assumption
    rintro e w16 ⟨rfl, hk16⟩
    try (go_wp2_with fail)
    refine hK.out _ _ ?_ (fun hHeld => ?_)
    · (try dsimp only)
      assumption
    clear hK K
    try simp only [Act.put, List.setIfInBounds_toArray, List.set_cons_zero, List.set_cons_succ]
    refine wpAnyH_take (i := 28) (v := ?hvd28) (List.getElem?_toArray.trans rfl) (by kernel_rfl) (by kernel_rfl) (by kernel_rfl) (fun _ _ _ h => h) (Or.inl ⟨by rfl, ?hyd28⟩) (by assumption) ?hrd28
    case hyd28 => (intro wt hSw; (try dsimp only at hSw); go_simp; try (with_reducible rfl))
    try simp only [Act.put, List.setIfInBounds_toArray, List.set_cons_zero, List.set_cons_succ]
    refine wpAnyH_take (i := 29) (v := ?hvd29) (List.getElem?_toArray.trans rfl) (by kernel_rfl) (by kernel_rfl) (by kernel_rfl) (fun _ _ _ h => h) (Or.inl ⟨by rfl, ?hyd29⟩) (by assumption) ?hrd29
    case hyd29 => (intro wt hSw; (try dsimp only at hSw); go_simp; try (with_reducible rfl))
    try simp only [Act.put, List.setIfInBounds_toArray, List.set_cons_zero, List.set_cons_succ]
    refine wpAnyH_done (by kernel_rfl) ?_ _
    refine NoPanic.normal ?_
    go_wp2
    go_ret
    exact ⟨rfl, HB.out.trans (hk16.1.out.mono (by have := HB.out.size; omega))⟩
  · have hma : (PK.u64 ak : Int) % 5 = 4 := by omega
    obtain ⟨q, hmq'⟩ : ∃ q : Int, (PK.u64 kd : Int) % 5 = q := ⟨_, rfl⟩
    have hmq : (PK.u64 kd : Int).tmod 5 = q := by rw [Int.tmod_eq_emod_of_nonneg (by omega)]; omega
    have hwq : IntKind.i64.wrap q = q := by rw [IntKind.wrap_i64]; omega
    have hq0 : 0 ≤ q := by omega
    have hq4 : q ≤ 4 := by omega
    have hqq : ((4 : Int) == q) = false := by rw [beq_eq_false_iff_ne]; omega
    clear hmq'
    rw [HT.out _ h5] at HRX
    clear h5 heq HT
    generalize PK.u64 ak = ua at *
    generalize PK.u64 kd = u at *
    go_wp2_with fail
    refine (HRX.out w6 (HE.out.below B6.out) R6.out).mono ?_
    rintro v w7 ⟨⟨y, rfl⟩, r7, f7⟩
    have g0 : w7.cell? ⟨w.heap.size, 0, none⟩ = some (.int .i64 kd) := f7.cell f0 (fun e => by have : w.heap.size = N := e; have := HM5.out; omega)
    have HDn : Hid (∀ W, Rd W N L 3 → Calls Tryd.prog 13 #[.pointer (some ⟨N, 0, none⟩)] W fun e w' => e = .returned (.iface 75 (.int .i64 3)) ∧ W = w') := fun W h => done_any N L 3 W h
    have R7 := Lib.hid r7
    have B7 : Hid (Below w.heap.size w w7) := B6.out.trans ⟨f7.os, f7.tape, f7.output, f7.size, fun k hk => f7.block k (by have := R6.out.lt; have := HM5.out; omega) (fun e => by have : k = N := e; have := HM5.out; omega)⟩
    clear r7 f7 R6 B6 f0 f2 HRU HRI HRB HRT HRX
    go_wp2_with fail
    refine (HDn.out w7 R7.out).mono ?_
    rintro e w8 ⟨rfl, rfl⟩
    clear HDn
    have hlt7 : w.heap.size < w7.heap.size := World.block_lt_of_cell? w7 _ g0
    have next : Hid (∀ W W' : World, (Hid (Below w7.heap.size w7 W) ∧ W.cell? ⟨w.heap.size, 0, none⟩ = some (.int .i64 kd)) → Below W.heap.size W W' → (Hid (Below w7.heap.size w7 W') ∧ W'.cell? ⟨w.heap.size, 0, none⟩ = some (.int .i64 kd))) := by
      rintro W W' ⟨h, _⟩ b
      have bb : Below w7.heap.size w7 W' := h.out.trans (b.mono h.out.size)
      exact ⟨Lib.hid bb, (World.cell?_of_block (bb.block _ hlt7)).trans g0⟩
    have C16 : Hid (∀ W : World, (Hid (Below w7.heap.size w7 W) ∧ W.cell? ⟨w.heap.size, 0, none⟩ = some (.int .i64 kd)) → Calls Tryd.prog 16 #[] W fun e w' => e = .returned (.bool true) ∧ (Hid (Below w7.heap.size w7 w') ∧ w'.cell? ⟨w.heap.size, 0, none⟩ = some (.int .i64 kd))) := fun W h =>
      (sure_any W ((HE.out.below B7.out).below h.1.out)).mono fun e w' hw => ⟨hw.1, next.out W w' h hw.2⟩
    have C12 : Hid (∀ W : World, (Hid (Below w7.heap.size w7 W) ∧ W.cell? ⟨w.heap.size, 0, none⟩ = some (.int .i64 kd)) → Calls Tryd.prog 12 #[.iface 75 (.int .i64 3)] W fun e w' => e = .returned (.int .i64 3) ∧ (Hid (Below w7.heap.size w7 w') ∧ w'.cell? ⟨w.heap.size, 0, none⟩ = some (.int .i64 kd))) := fun W h =>
      (num_any 3 W ((HE.out.below B7.out).below h.1.out)).mono fun e w' hw => ⟨hw.1, next.out W w' h hw.2⟩
    have C15 : Hid (∀ W : World, (Hid (Below w7.heap.size w7 W) ∧ W.cell? ⟨w.heap.size, 0, none⟩ = some (.int .i64 kd)) → Calls Tryd.prog 15 #[.pointer (some ⟨N, 0, none⟩)] W fun e w' => e = .returned (.int .i64 L.length) ∧ W = w') := fun W h => left_any _ _ _ W (R7.out.below h.1.out)
    have S7 : Hid (Below w7.heap.size w7 w7.drew) ∧ w7.drew.cell? ⟨w.heap.size, 0, none⟩ = some (.int .i64 kd) := ⟨Lib.hid (Below.refl _ _).drew, g0⟩
    have HB := B7
    clear next B7 R7 HE HV hlt7 g0
    go_wp2_with fail
    refine wp_region_noPanic ?_
    refine wp_region_held_drew (S := fun W => Hid (Below w7.heap.size w7 W) ∧ W.cell? ⟨w.heap.size, 0, none⟩ = some (.int .i64 kd)) (by kernel_rfl) S7 (fun hHeld => ?_)
    refine wpAnyH_take (i := 0) (v := ?hve0) (List.getElem?_toArray.trans rfl) (by kernel_rfl) (by kernel_rfl) (by kernel_rfl) (fun _ _ _ h => h) (Or.inl ⟨by rfl, ?hye0⟩) (by assumption) ?hre0
    case hye0 => (intro wt hSw; (try dsimp only at hSw); go_simp; try (with_reducible rfl))
    try simp only [Act.put, List.setIfInBounds_toArray, List.set_cons_zero, List.set_cons_succ]
    refine wpAnyH_take (i := 1) (v := ?hve1) (List.getElem?_toArray.trans rfl) (by kernel_rfl) (by kernel_rfl) (by kernel_rfl) (fun _ _ _ h => h) (Or.inl ⟨by rfl, ?hye1⟩) (by assumption) ?hre1
    case hye1 => (intro wt hSw; (try dsimp only at hSw); go_simp; try (with_reducible rfl))
    try simp only [Act.put, List.setIfInBounds_toArray, List.set_cons_zero, List.set_cons_succ]
    refine wpAnyH_take (i := 2) (v := ?hve2) (List.getElem?_toArray.trans rfl) (by kernel_rfl) (by kernel_rfl) (by kernel_rfl) (fun _ _ _ h => h) (Or.inl ⟨by rfl, ?hye2⟩) (by assumption) ?hre2
    case hye2 => (intro wt hSw; (try dsimp only at hSw); go_simp; try (with_reducible rfl))
    try simp only [Act.put, List.setIfInBounds_toArray, List.set_cons_zero, List.set_cons_succ]
    refine wpAnyH_take (i := 3) (v := ?hve3) (List.getElem?_toArray.trans rfl) (by kernel_rfl) (by kernel_rfl) (by kernel_rfl) (fun _ _ _ h => h) (Or.inl ⟨by rfl, ?hye3⟩) (by assumption) ?hre3
    case hye3 => (intro wt hSw; (try dsimp only at hSw); go_simp; try (with_reducible rfl))
    try simp only [Act.put, List.setIfInBounds_toArray, List.set_cons_zero, List.set_cons_succ]
    refine wpAnyH_take (i := 4) (v := ?hve4) (List.getElem?_toArray.trans rfl) (by kernel_rfl) (by kernel_rfl) (by kernel_rfl) (fun _ _ _ h => h) (Or.inl ⟨by rfl, ?hye4⟩) (by assumption) ?hre4
    case hye4 => (intro wt hSw; (try dsimp only at hSw); go_simp; try (with_reducible rfl))
    try simp only [Act.put, List.setIfInBounds_toArray, List.set_cons_zero, List.set_cons_succ]
    refine wpAnyH_take (i := 5) (v := ?hve5) (List.getElem?_toArray.trans rfl) (by kernel_rfl) (by kernel_rfl) (by kernel_rfl) (fun _ _ _ h => h) (Or.inl ⟨by rfl, ?hye5⟩) (by assumption) ?hre5
    case hye5 => (intro wt hSw; (try dsimp only at hSw); go_simp; try (with_reducible rfl))
    try simp only [Act.put, List.setIfInBounds_toArray, List.set_cons_zero, List.set_cons_succ]
    refine wpAnyH_take (i := 6) (v := ?hve6) (List.getElem?_toArray.trans rfl) (by kernel_rfl) (by kernel_rfl) (by kernel_rfl) (fun _ _ _ h => h) (Or.inl ⟨by rfl, ?hye6⟩) (by assumption) ?hre6
    case hye6 => (intro wt hSw; (try dsimp only at hSw); go_simp; try (with_reducible rfl))
    try simp only [Act.put, List.setIfInBounds_toArray, List.set_cons_zero, List.set_cons_succ]
    refine wpAnyH_take (i := 7) (v := ?hve7) (List.getElem?_toArray.trans rfl) (by kernel_rfl) (by kernel_rfl) (by kernel_rfl) (fun _ _ _ h => h) (Or.inl ⟨by rfl, ?hye7⟩) (by assumption) ?hre7
    case hye7 => (intro wt hSw; (try dsimp only at hSw); go_simp; try (with_reducible rfl))
    try simp only [Act.put, List.setIfInBounds_toArray, List.set_cons_zero, List.set_cons_succ]
    refine wpAnyH_take (i := 8) (v := ?hve8) (List.getElem?_toArray.trans rfl) (by kernel_rfl) (by kernel_rfl) (by kernel_rfl) (fun _ _ _ h => h) (Or.inl ⟨by rfl, ?hye8⟩) (by assumption) ?hre8
    case hye8 => (intro wt hSw; (try dsimp only at hSw); go_simp; try (with_reducible rfl))
    try simp only [Act.put, List.setIfInBounds_toArray, List.set_cons_zero, List.set_cons_succ]
    refine wpAnyH_take (i := 9) (v := ?hve9) (List.getElem?_toArray.trans rfl) (by kernel_rfl) (by kernel_rfl) (by kernel_rfl) (fun _ _ _ h => h) (Or.inl ⟨by rfl, ?hye9⟩) (by assumption) ?hre9
    case hye9 => (intro wt hSw; (try dsimp only at hSw); go_simp; try (with_reducible rfl))
    try simp only [Act.put, List.setIfInBounds_toArray, List.set_cons_zero, List.set_cons_succ]
    refine wpAnyH_take (i := 10) (v := ?hve10) (List.getElem?_toArray.trans rfl) (by kernel_rfl) (by kernel_rfl) (by kernel_rfl) (fun _ _ _ h => h) (Or.inl ⟨by rfl, ?hye10⟩) (by assumption) ?hre10
    case hye10 => (intro wt hSw; (try dsimp only at hSw); go_simp; try (with_reducible rfl))
    try simp only [Act.put, List.setIfInBounds_toArray, List.set_cons_zero, List.set_cons_succ]
    refine wpAnyH_take (i := 11) (v := ?hve11) (List.getElem?_toArray.trans rfl) (by kernel_rfl) (by kernel_rfl) (by kernel_rfl) (fun _ _ _ h => h) (Or.inl ⟨by rfl, ?hye11⟩) (by assumption) ?hre11
    case hye11 => (intro wt hSw; (try dsimp only at hSw); go_simp; try (with_reducible rfl))
    try simp only [Act.put, List.setIfInBounds_toArray, List.set_cons_zero, List.set_cons_succ]
    refine wpAnyH_take (i := 12) (v := ?hve12) (List.getElem?_toArray.trans rfl) (by kernel_rfl) (by kernel_rfl) (by kernel_rfl) (fun _ _ _ h => h) (Or.inl ⟨by rfl, ?hye12⟩) (by assumption) ?hre12
    case hye12 => (intro wt hSw; (try dsimp only at hSw); go_simp; try (with_reducible rfl))
    try simp only [Act.put, List.setIfInBounds_toArray, List.set_cons_zero, List.set_cons_succ]
    refine wpAnyH_take (i := 13) (v := ?hve13) (List.getElem?_toArray.trans rfl) (by kernel_rfl) (by kernel_rfl) (by kernel_rfl) (fun _ _ _ h => h) (Or.inl ⟨by rfl, ?hye13⟩) (by assumption) ?hre13
    case hye13 => (intro wt hSw; (try dsimp only at hSw); go_simp; try (with_reducible rfl))
    try simp only [Act.put, List.setIfInBounds_toArray, List.set_cons_zero, List.set_cons_succ]
    refine wpAnyH_take (i := 14) (v := ?hve14) (List.getElem?_toArray.trans rfl) (by kernel_rfl) (by kernel_rfl) (by kernel_rfl) (fun _ _ _ h => h) (Or.inl ⟨by rfl, ?hye14⟩) (by assumption) ?hre14
    case hye14 => (intro wt hSw; (try dsimp only at hSw); go_simp; try (with_reducible rfl))
    try simp only [Act.put, List.setIfInBounds_toArray, List.set_cons_zero, List.set_cons_succ]
    refine wpAnyH_ready (rs := [15]) (by kernel_rfl) (by simp) ?_
    refine AllReadyH.cons (List.getElem?_toArray.trans rfl) (fun K hK => ?_) AllReadyH.nil
    go_simp
    go_at_call 12
    refine (C12.out _ ?_).mono ?_
    · assumption
    rintro e w12 ⟨rfl, hk12⟩
    try (go_wp2_with fail)
    refine hK.out _ _ ?_ (fun hHeld => ?_)
    · (try dsimp only)
      assumption
    clear hK K
    try simp only [Act.put, List.setIfInBounds_toArray, List.set_cons_zero, List.set_cons_succ]
    refine wpAnyH_take (i := 16) (v := ?hve16) (List.getElem?_toArray.trans rfl) (by kernel_rfl) (by kernel_rfl) (by kernel_rfl) (fun _ _ _ h => h) (Or.inl ⟨by rfl, ?hye16⟩) (by assumption) ?hre16
    case hye16 => (intro wt hSw; (try dsimp only at hSw); go_simp; try (with_reducible rfl))
    try simp only [Act.put, List.setIfInBounds_toArray, List.set_cons_zero, List.set_cons_succ]
    refine wpAnyH_take (i := 17) (v := ?hve17) (List.getElem?_toArray.trans rfl) (by kernel_rfl) (by kernel_rfl) (by kernel_rfl) (fun _ _ _ h => h) (Or.inl ⟨by rfl, ?hye17⟩) (by assumption) ?hre17
    case hye17 => (intro wt hSw; (try dsimp only at hSw); go_simp; try (with_reducible rfl))
    try simp only [Act.put, List.setIfInBounds_toArray, List.set_cons_zero, List.set_cons_succ]
    refine wpAnyH_take (i := 18) (v := ?hve18) (List.getElem?_toArray.trans rfl) (by kernel_rfl) (by kernel_rfl) (by kernel_rfl) (fun _ _ _ h => h) (Or.inl ⟨by rfl, ?hye18⟩) (by assumption) ?hre18
    case hye18 => (intro wt hSw; (try dsimp only at hSw); go_simp; try (with_reducible rfl))
    try simp only [Act.put, List.setIfInBounds_toArray, List.set_cons_zero, List.set_cons_succ]
    refine wpAnyH_take (i := 20) (v := ?hve20) (List.getElem?_toArray.trans rfl) (by kernel_rfl) (by kernel_rfl) (by kernel_rfl) (fun _ _ _ h => h) (Or.inl ⟨by rfl, ?hye20⟩) (by assumption) ?hre20
    case hye20 => (intro wt hSw; (try dsimp only at hSw); go_simp; try (with_reducible rfl))
    try simp only [Act.put, List.setIfInBounds_toArray, List.set_cons_zero, List.set_cons_succ]
    refine wpAnyH_take (i := 21) (v := ?hve21) (List.getElem?_toArray.trans rfl) (by kernel_rfl) (by kernel_rfl) (by kernel_rfl) (fun _ _ _ h => h) (Or.inl ⟨by rfl, ?hye21⟩) (by assumption) ?hre21
    case hye21 => (intro wt hSw; (try dsimp only at hSw); go_simp; try (with_reducible rfl))
    try simp only [Act.put, List.setIfInBounds_toArray, List.set_cons_zero, List.set_cons_succ]
    refine wpAnyH_ready (rs := [19]) (by kernel_rfl) (by simp) ?_
    refine AllReadyH.cons (List.getElem?_toArray.trans rfl) (fun K hK => ?_) AllReadyH.nil
    go_simp
    go_at_call 15
    refine (C15.out _ ?_).mono ?_
    · assumption
    rintro e w15 ⟨rfl, rfl⟩
    try (go_wp2_with fail)
    refine hK.out _ _ ?_ (fun hHeld => ?_)
    · (try dsimp only)
      assumption
    clear hK K
    try simp only [Act.put, List.setIfInBounds_toArray, List.set_cons_zero, List.set_cons_succ]
    refine wpAnyH_take (i := 22) (v := ?hve22) (List.getElem?_toArray.trans rfl) (by kernel_rfl) (by kernel_rfl) (by kernel_rfl) (fun _ _ _ h => h) (Or.inl ⟨by rfl, ?hye22⟩) (by assumption) ?hre22
    case hye22 => (intro wt hSw; (try dsimp only at hSw); go_simp; try (with_reducible rfl))
    try simp only [Act.put, List.setIfInBounds_toArray, List.set_cons_zero, List.set_cons_succ]
    refine wpAnyH_take (i := 23) (v := ?hve23) (List.getElem?_toArray.trans rfl) (by kernel_rfl) (by kernel_rfl) (by kernel_rfl) (fun _ _ _ h => h) (Or.inl ⟨by rfl, ?hye23⟩) (by assumption) ?hre23
    case hye23 => (intro wt hSw; (try dsimp only at hSw); go_simp; try (with_reducible rfl))
    try simp only [Act.put, List.setIfInBounds_toArray, List.set_cons_zero, List.set_cons_succ]
    refine wpAnyH_take (i := 24) (v := ?hve24) (List.getElem?_toArray.trans rfl) (by kernel_rfl) (by kernel_rfl) (by kernel_rfl) (fun _ _ _ h => h) (Or.inl ⟨by rfl, ?hye24⟩) (by assumption) ?hre24
    case hye24 => (intro wt hSw; (try dsimp only at hSw); go_simp; try (with_reducible rfl))
    try simp only [Act.put, List.setIfInBounds_toArray, List.set_cons_zero, List.set_cons_succ]
    refine wpAnyH_take (i := 25) (v := ?hve25) (List.getElem?_toArray.trans rfl) (by kernel_rfl) (by kernel_rfl) (by kernel_rfl) (fun _ _ _ h => h) (Or.inl ⟨by rfl, ?hye25⟩) (by assumption) ?hre25
    case hye25 => (intro wt hSw; (try dsimp only at hSw); go_simp; try (with_reducible rfl))
    try simp only [Act.put, List.setIfInBounds_toArray, List.set_cons_zero, List.set_cons_succ]
    refine wpAnyH_take (i := 26) (v := ?hve26) (List.getElem?_toArray.trans rfl) (by kernel_rfl) (by kernel_rfl) (by kernel_rfl) (fun _ _ _ h => h) (Or.inl ⟨by rfl, ?hye26⟩) (by assumption) ?hre26
    case hye26 => (intro wt hSw; (try dsimp only at hSw); go_simp; try (with_reducible rfl))
    try simp only [Act.put, List.setIfInBounds_toArray, List.set_cons_zero, List.set_cons_succ]
    refine wpAnyH_ready (rs := [27]) (by kernel_rfl) (by simp) ?_
    refine AllReadyH.cons (List.getElem?_toArray.trans rfl) (fun K hK => ?_) AllReadyH.nil
    go_simp
    go_at_call 16
    refine (C16.out _ ?_).mono ?_
    · assumption
    rintro e w16 ⟨rfl, hk16⟩
    try (go_wp2_with fail)
    refine hK.out _ _ ?_ (fun hHeld => ?_)
    · (try dsimp only)
      assumption
    clear hK K
    try simp only [Act.put, List.setIfInBounds_toArray, List.set_cons_zero, List.set_cons_succ]
    refine wpAnyH_take (i := 28) (v := ?hve28) (List.getElem?_toArray.trans rfl) (by kernel_rfl) (by kernel_rfl) (by kernel_rfl) (fun _ _ _ h => h) (Or.inl ⟨by rfl, ?hye28⟩) (by assumption) ?hre28
    case hye28 => (intro wt hSw; (try dsimp only at hSw); go_simp; try (with_reducible rfl))
    try simp only [Act.put, List.setIfInBounds_toArray, List.set_cons_zero, List.set_cons_succ]
    refine wpAnyH_take (i := 29) (v := ?hve29) (List.getElem?_toArray.trans rfl) (by kernel_rfl) (by kernel_rfl) (by kernel_rfl) (fun _ _ _ h => h) (Or.inl ⟨by rfl, ?hye29⟩) (by assumption) ?hre29
    case hye29 => (intro wt hSw; (try dsimp only at hSw); go_simp; try (with_reducible rfl))
    try simp only [Act.put, List.setIfInBounds_toArray, List.set_cons_zero, List.set_cons_succ]
    refine wpAnyH_done (by kernel_rfl) ?_ _
    refine NoPanic.normal ?_
    go_wp2
    go_ret
    exact ⟨rfl, HB.out.trans (hk16.1.out.mono (by have := HB.out.size; omega))⟩
end Go.Proofs.YtincbeipfgbfpaaDoor
