/-
  entry.Decode, by a contract.
  Conditions: the listed variables read as listed ('Env'); the parameter reads as bytes and is at most 2^47 long.
-/
import Derived.Test.YtbgockggbpmhnaaGreatDoorEnt2
import Derived.Test.YtbgockggbpmhnaaGreatDoorRd8
import Derived.Test.YtbgockggbpmhnaaGreatDoorRefC
namespace Go.Proofs.YtbgockggbpmhnaaGreatDoor
open Go Go.RowKit

theorem PK.uint_le (most : Nat) (l : List UInt8) (k : Nat) : (PK.uintP most l k).1 ≤ most := by
  unfold PK.uintP
  split
  · simp
  · split
    · simp
    · simp only; omega
theorem PK.uint_rest (most : Nat) (l : List UInt8) (k : Nat) : (PK.uintP most l k).2.1.length ≤ l.length := by
  unfold PK.uintP
  split
  · exact Nat.le_refl _
  · split
    · exact Nat.le_refl _
    · simp
theorem cells4 {w : World} {N : Nat} {x y z u : Value} {t : TypeId} (h : w.heap[N]? = some (.cells #[x, y, z, u] t)) :
    w.cell? ⟨N, 0, none⟩ = some x ∧ w.cell? ⟨N, 1, none⟩ = some y ∧ w.cell? ⟨N, 2, none⟩ = some z ∧ w.cell? ⟨N, 3, none⟩ = some u ∧
    w.frozen? ⟨N, 0, none⟩ = false ∧ w.frozen? ⟨N, 1, none⟩ = false ∧ w.frozen? ⟨N, 2, none⟩ = false ∧ w.frozen? ⟨N, 3, none⟩ = false := by
  simp [World.cell?, World.frozen?, h]
/-- Four stores into a block of four cells. -/
def set4 (w : World) (M : Nat) (x y z u : Value) : World := (((w.setCell ⟨M, 0, none⟩ x).setCell ⟨M, 1, none⟩ y).setCell ⟨M, 2, none⟩ z).setCell ⟨M, 3, none⟩ u
theorem stored4 {w : World} {M : Nat} {x0 y0 z0 u0 : Value} {t : TypeId} (h : w.heap[M]? = some (.cells #[x0, y0, z0, u0] t)) (x y z u : Value) : (set4 w M x y z u).heap[M]? = some (.cells #[x, y, z, u] t) := by
  unfold set4
  simp only [World.setCell, Array.getElem?_modify, if_true, h, Option.map_some]
  simp
theorem set4_fr (w : World) (M : Nat) (x y z u : Value) : Fr (fun j => j = M) w (set4 w M x y z u) := by
  unfold set4
  exact Fr.setCell (X := fun j => j = M) (Fr.setCell (X := fun j => j = M) (Fr.setCell (X := fun j => j = M) (Fr.setCell (X := fun j => j = M) (Fr.refl _ _) (fun _ => rfl) _) (fun _ => rfl) _) (fun _ => rfl) _) (fun _ => rfl) _
theorem IsB.apart4 {w : World} {v x y z u : Value} {l : List UInt8} (h : IsB w v l) {k : Nat} {t : TypeId} (hk : w.heap[k]? = some (.cells #[x, y, z, u] t))
    (hx : ∀ n, x ≠ .int .u8 n) (hy : ∀ n, y ≠ .int .u8 n) (hz : ∀ n, z ≠ .int .u8 n) (hu : ∀ n, u ≠ .int .u8 n) (hl : l ≠ []) : v.ownBlock ≠ some k :=
  h.apart hk (fun j n => by
    rcases j with _ | _ | _ | _ | j
    · simpa using hx n
    · simpa using hy n
    · simpa using hz n
    · simpa using hu n
    · simp) hl

theorem Fr.belowM {B N : Nat} {w0 w w' : World} (b : Below B w0 w) (f : Fr (fun i => i = N) w w') (hB : B ≤ N) (hN : N < w.heap.size) : Below B w0 w' :=
  b.trans ⟨f.os, f.tape, f.output, f.size, fun k hk => f.block k (by omega) (by omega)⟩

/-- What entry.Decode answers: an entry (its bytes read so) and no error; or nothing and an error. -/
def DecR (w w' : World) (v : Ending) (r : Option PK.Ent) (er : Nat → Value) : Prop :=
  (match r with
  | none => v = .returned (.tuple #[.agg #[.int .i64 0, .int .i64 0, .int .i64 0, .slice none 0 0], er 3])
  | some e => ∃ a n c, v = .returned (.tuple #[.agg #[.int .i64 e.i, .int .i64 e.t, .int .i64 e.k, .slice a n c], er 0]) ∧ IsB w' (.slice a n c) e.d) ∧ Below w.heap.size w w'

set_option maxRecDepth 100000 in
set_option maxHeartbeats 8000000 in
/-- Decode. -/
theorem decE_any (a : Option Addr) (c : Nat) (l : List UInt8) (w : World) (hE : Env w) (hv : IsB w (.slice a l.length c) l) (hl47 : l.length ≤ roomB) :
    Calls Tryz.prog 30 #[.slice a l.length c] w fun v w' => DecR w w' v (PK.decE l) errV := by
  obtain ⟨v1, l1, k1, hp1⟩ : ∃ v1 l1 k1, PK.uintP 1099511627776 l 0 = (v1, l1, k1) := ⟨_, _, _, rfl⟩
  obtain ⟨v2, l2, k2, hp2⟩ : ∃ v2 l2 k2, PK.uintP 1099511627776 l1 k1 = (v2, l2, k2) := ⟨_, _, _, rfl⟩
  obtain ⟨v3, l3, k3, hp3⟩ : ∃ v3 l3 k3, PK.uintP 2 l2 k2 = (v3, l3, k3) := ⟨_, _, _, rfl⟩
  obtain ⟨d, l4, k4, hp4⟩ : ∃ d l4 k4, PK.runP 98 4096 l3 k3 = (d, l4, k4) := ⟨_, _, _, rfl⟩
  have hb1 : v1 ≤ 1099511627776 := by have := PK.uint_le 1099511627776 l 0; rw [hp1] at this; exact this
  have hb2 : v2 ≤ 1099511627776 := by have := PK.uint_le 1099511627776 l1 k1; rw [hp2] at this; exact this
  have hb3 : v3 ≤ 2 := by have := PK.uint_le 2 l2 k2; rw [hp3] at this; exact this
  have hs3 : l3.length ≤ roomB := by
    have e1 := PK.uint_rest 1099511627776 l 0
    have e2 := PK.uint_rest 1099511627776 l1 k1
    have e3 := PK.uint_rest 2 l2 k2
    rw [hp1] at e1; rw [hp2] at e2; rw [hp3] at e3
    simp only at e1 e2 e3
    omega
  have hdec : PK.decE l = if PK.doneP l4 k4 ≠ 0 ∨ (v1 : Int) < 1 ∨ (v2 : Int) < 1 then none else some ⟨v1, v2, v3, d⟩ := by
    unfold PK.decE PK.readE
    simp only [hp1, hp2, hp3, hp4]
  have HDEC := Lib.hid hdec
  generalize PK.decE l = r at *
  have H1 : Hid (∀ (W : World) (N : Nat), Env W → Rd W N l 0 → Calls Tryz.prog 26 #[.pointer (some ⟨N, 0, none⟩), .int .u64 1099511627776] W fun v w' => v = .returned (.int .u64 v1) ∧ Rd w' N l1 k1 ∧ Fr (fun i => i = N) W w') := fun W N hE h => by
    have := uint_any N 1099511627776 l 0 W hE h
    simp only [hp1] at this
    exact this
  have H2 : Hid (∀ (W : World) (N : Nat), Env W → Rd W N l1 k1 → Calls Tryz.prog 26 #[.pointer (some ⟨N, 0, none⟩), .int .u64 1099511627776] W fun v w' => v = .returned (.int .u64 v2) ∧ Rd w' N l2 k2 ∧ Fr (fun i => i = N) W w') := fun W N hE h => by
    have := uint_any N 1099511627776 l1 k1 W hE h
    simp only [hp2] at this
    exact this
  have H3 : Hid (∀ (W : World) (N : Nat), Env W → Rd W N l2 k2 → Calls Tryz.prog 26 #[.pointer (some ⟨N, 0, none⟩), .int .u64 2] W fun v w' => v = .returned (.int .u64 v3) ∧ Rd w' N l3 k3 ∧ Fr (fun i => i = N) W w') := fun W N hE h => by
    have := uint_any N 2 l2 k2 W hE h
    simp only [hp3] at this
    exact this
  have H4 : Hid (∀ (W : World) (N : Nat), Env W → Rd W N l3 k3 → Calls Tryz.prog 28 #[.pointer (some ⟨N, 0, none⟩), .int .i64 4096] W fun v w' => RunR N W w' v (d, l4, k4)) := fun W N hE h => by
    have := bytes_any N l3 k3 4096 W hE h (by decide) hs3
    rw [hp4] at this
    exact this
  have H5 : Hid (∀ (W : World) (N : Nat), Rd W N l4 k4 → Calls Tryz.prog 31 #[.pointer (some ⟨N, 0, none⟩)] W fun e w' => e = .returned (errV (PK.doneP l4 k4)) ∧ W = w') := fun W N h => done_any N l4 k4 W h
  have HR := Lib.hid (fun (W : World) (hE : Env W) (hv : IsB W (.slice a l.length c) l) => read_any a c l W hE hv)
  have HE := Lib.hid hE
  have HV := Lib.hid hv
  have wv1 : IntKind.i64.wrap (v1 : Int) = (v1 : Int) := by rw [IntKind.wrap_i64]; omega
  have wv2 : IntKind.i64.wrap (v2 : Int) = (v2 : Int) := by rw [IntKind.wrap_i64]; omega
  have wv3 : IntKind.i64.wrap (v3 : Int) = (v3 : Int) := by rw [IntKind.wrap_i64]; omega
  clear hE hv hl47 hdec hp1 hp2 hp3 hp4 hb1 hb2 hb3 hs3
  go_enter Tryz.func30, Tryz.ntmps30
  go_wp2_with fail
  refine (HR.out _ (HE.out.below ((Below.refl _ _).alloc (Nat.le_refl _) _)) (HV.out.below ((Below.refl _ _).alloc (Nat.le_refl _) _))).mono ?_
  rintro e w1 ⟨rfl, r1, b1⟩
  obtain ⟨g1, bb1⟩ := own1 b1
  have hsz1 : (w.alloc (.cells #[.int .i64 0, .int .i64 0, .int .i64 0, .slice none 0 0] 57)).heap.size = w.heap.size + 1 := by simp
  rw [hsz1] at r1 ⊢
  have R1 := Lib.hid r1
  have G1 := Lib.hid g1
  have B1 := Lib.hid bb1
  clear r1 b1 g1 bb1 HR hsz1
  go_wp2_with fail
  refine (H1.out w1 _ (HE.out.below B1.out) R1.out).mono ?_
  rintro e w2 ⟨rfl, r2, f2⟩
  obtain ⟨G2, B2, R2⟩ : Hid (w2.heap[w.heap.size]? = some (.cells #[.int .i64 0, .int .i64 0, .int .i64 0, .slice none 0 0] 57)) ∧ Hid (Below w.heap.size w w2) ∧ Hid (Rd w2 (w.heap.size + 1) l1 k1) :=
    ⟨f2.heap G1.out (by omega), Fr.belowM (by exact B1.out) f2 (by omega) R1.out.lt, r2⟩
  clear r2 f2 G1 B1 R1 H1
  go_wp2_with fail
  refine (H2.out w2 _ (HE.out.below B2.out) R2.out).mono ?_
  rintro e w3 ⟨rfl, r3, f3⟩
  obtain ⟨G3, B3, R3⟩ : Hid (w3.heap[w.heap.size]? = some (.cells #[.int .i64 0, .int .i64 0, .int .i64 0, .slice none 0 0] 57)) ∧ Hid (Below w.heap.size w w3) ∧ Hid (Rd w3 (w.heap.size + 1) l2 k2) :=
    ⟨f3.heap G2.out (by omega), Fr.belowM (by exact B2.out) f3 (by omega) R2.out.lt, r3⟩
  clear r3 f3 G2 B2 R2 H2
  go_wp2_with fail
  refine (H3.out w3 _ (HE.out.below B3.out) R3.out).mono ?_
  rintro e w4 ⟨rfl, r4, f4⟩
  obtain ⟨G4, B4, R4⟩ : Hid (w4.heap[w.heap.size]? = some (.cells #[.int .i64 0, .int .i64 0, .int .i64 0, .slice none 0 0] 57)) ∧ Hid (Below w.heap.size w w4) ∧ Hid (Rd w4 (w.heap.size + 1) l3 k3) :=
    ⟨f4.heap G3.out (by omega), Fr.belowM (by exact B3.out) f4 (by omega) R3.out.lt, r4⟩
  clear r4 f4 G3 B3 R3 H3
  go_wp2_with fail
  refine (H4.out w4 _ (HE.out.below B4.out) R4.out).mono ?_
  rintro e w5 ⟨⟨a5, n5, c5, rfl, hn5, o5⟩, r5, f5⟩
  simp only at r5 hn5 o5
  obtain ⟨G5, B5, R5⟩ : Hid (w5.heap[w.heap.size]? = some (.cells #[.int .i64 0, .int .i64 0, .int .i64 0, .slice none 0 0] 57)) ∧ Hid (Below w.heap.size w w5) ∧ Hid (Rd w5 (w.heap.size + 1) l4 k4) :=
    ⟨f5.heap G4.out (by omega), Fr.belowM (by exact B4.out) f5 (by omega) R4.out.lt, r5⟩
  have O5 := Lib.hid o5.isB
  have N5 := Lib.hid hn5
  clear r5 f5 G4 B4 R4 H4 hn5 o5
  go_wp2_with fail
  have Bz : Below w5.heap.size w5 (w5.alloc (.cells #[.int .i64 v1, .int .i64 v2, .int .i64 v3, .slice a5 n5 c5] 57)) := (Below.refl _ _).alloc (Nat.le_refl _) _
  have hRlt : w.heap.size < w5.heap.size := (Array.getElem?_eq_some_iff.1 G5.out).1
  refine (H5.out _ _ (R5.out.below Bz)).mono ?_
  rintro e w6 ⟨rfl, rfl⟩
  have hz : (w5.alloc (.cells #[.int .i64 v1, .int .i64 v2, .int .i64 v3, .slice a5 n5 c5] 57)).heap[w5.heap.size]? = some (.cells #[.int .i64 v1, .int .i64 v2, .int .i64 v3, .slice a5 n5 c5] 57) := heap_alloc_new _ _
  have G6 : Hid ((w5.alloc (.cells #[.int .i64 v1, .int .i64 v2, .int .i64 v3, .slice a5 n5 c5] 57)).heap[w.heap.size]? = some (.cells #[.int .i64 0, .int .i64 0, .int .i64 0, .slice none 0 0] 57)) := (Bz.block _ hRlt).trans G5.out
  have B6 : Hid (Below w.heap.size w (w5.alloc (.cells #[.int .i64 v1, .int .i64 v2, .int .i64 v3, .slice a5 n5 c5] 57))) := B5.out.trans (Bz.mono (Nat.le_of_lt hRlt))
  have O6 : Hid (IsB (w5.alloc (.cells #[.int .i64 v1, .int .i64 v2, .int .i64 v3, .slice a5 n5 c5] 57)) (.slice a5 n5 c5) d) := O5.out.below Bz
  clear Bz G5 B5 R5 O5 H5
  generalize w5.alloc (.cells #[.int .i64 v1, .int .i64 v2, .int .i64 v3, .slice a5 n5 c5] 57) = W at *
  generalize w5.heap.size = E at *
  obtain ⟨p0, p1, p2, p3, f0, f1, f2, f3⟩ := cells4 hz
  obtain ⟨q0, q1, q2, q3, g0, g1, g2, g3⟩ := cells4 G6.out
  clear hz
  generalize hD : PK.doneP l4 k4 = D at *
  have hs : ∀ (x y z u : Value), Below w.heap.size w (set4 W w.heap.size x y z u) := fun x y z u => Fr.belowM B6.out (set4_fr W _ x y z u) (Nat.le_refl _) (World.block_lt_of_cell? W _ q0)
  have Hs := Lib.hid hs
  have fin : Hid (∀ x y z u, (set4 W w.heap.size x y z u).cell? ⟨w.heap.size, 0, none⟩ = some x ∧ (set4 W w.heap.size x y z u).cell? ⟨w.heap.size, 1, none⟩ = some y ∧ (set4 W w.heap.size x y z u).cell? ⟨w.heap.size, 2, none⟩ = some z ∧ (set4 W w.heap.size x y z u).cell? ⟨w.heap.size, 3, none⟩ = some u) := fun x y z u => by
    obtain ⟨a, b, c, d, _⟩ := cells4 (stored4 G6.out x y z u)
    exact ⟨a, b, c, d⟩
  clear hs
  clear hD
  have bad : Hid (r = none → ∀ W', W' = set4 W w.heap.size (.int .i64 0) (.int .i64 0) (.int .i64 0) (.slice none 0 0) → DecR w W' (.returned (.tuple #[.agg #[.int .i64 0, .int .i64 0, .int .i64 0, .slice none 0 0], errV 3])) r errV) := by
    rintro rfl W' rfl
    exact ⟨rfl, Hs.out _ _ _ _⟩
  have FB := Lib.hid (fin.out (.int .i64 0) (.int .i64 0) (.int .i64 0) (.slice none 0 0))
  have finB : Hid (∀ W', W' = set4 W w.heap.size (.int .i64 0) (.int .i64 0) (.int .i64 0) (.slice none 0 0) → W'.cell? ⟨w.heap.size, 0, none⟩ = some (.int .i64 0) ∧ W'.cell? ⟨w.heap.size, 1, none⟩ = some (.int .i64 0) ∧ W'.cell? ⟨w.heap.size, 2, none⟩ = some (.int .i64 0) ∧ W'.cell? ⟨w.heap.size, 3, none⟩ = some (.slice none 0 0)) := by
    rintro W' rfl
    exact FB.out
  clear FB
  by_cases hd0 : D = 0
  · subst hd0
    simp only [errV]
    by_cases h1 : (v1 : Int) < 1
    · have hr : r = none := HDEC.out.trans (if_pos (.inr (.inl h1)))
      have HB := Lib.hid (bad.out hr)
      clear hr bad fin Hs
      go_wp2
      generalize hW : (((W.setCell ⟨w.heap.size, 0, none⟩ (.int .i64 0)).setCell ⟨w.heap.size, 1, none⟩ (.int .i64 0)).setCell ⟨w.heap.size, 2, none⟩ (.int .i64 0)).setCell ⟨w.heap.size, 3, none⟩ (.slice none 0 0) = W' at *
      obtain ⟨e0, e1, e2, e3⟩ := finB.out W' hW.symm
      refine bodyPost_ret (v := .tuple #[.agg #[.int .i64 0, .int .i64 0, .int .i64 0, .slice none 0 0], .iface 60 (.int .i64 3)]) (by simp [results, Tryz.results30, go_sem, e0, e1, e2, e3]) rfl ?_
      exact HB.out W' hW.symm
    · by_cases h2 : (v2 : Int) < 1
      · have hr : r = none := HDEC.out.trans (if_pos (.inr (.inr h2)))
        have HB := Lib.hid (bad.out hr)
        clear hr bad fin Hs
        go_wp2
        generalize hW : (((W.setCell ⟨w.heap.size, 0, none⟩ (.int .i64 0)).setCell ⟨w.heap.size, 1, none⟩ (.int .i64 0)).setCell ⟨w.heap.size, 2, none⟩ (.int .i64 0)).setCell ⟨w.heap.size, 3, none⟩ (.slice none 0 0) = W' at *
        obtain ⟨e0, e1, e2, e3⟩ := finB.out W' hW.symm
        refine bodyPost_ret (v := .tuple #[.agg #[.int .i64 0, .int .i64 0, .int .i64 0, .slice none 0 0], .iface 60 (.int .i64 3)]) (by simp [results, Tryz.results30, go_sem, e0, e1, e2, e3]) rfl ?_
        exact HB.out W' hW.symm
      · have hr : r = some ⟨v1, v2, v3, d⟩ := HDEC.out.trans (if_neg (by omega))
        have HR := Lib.hid hr
        clear hr bad
        go_wp2
        generalize hW : (((W.setCell ⟨w.heap.size, 0, none⟩ (.int .i64 v1)).setCell ⟨w.heap.size, 1, none⟩ (.int .i64 v2)).setCell ⟨w.heap.size, 2, none⟩ (.int .i64 v3)).setCell ⟨w.heap.size, 3, none⟩ (.slice a5 n5 c5) = W' at *
        have hW' : W' = set4 W w.heap.size (.int .i64 v1) (.int .i64 v2) (.int .i64 v3) (.slice a5 n5 c5) := hW.symm
        have hc := fin.out (.int .i64 v1) (.int .i64 v2) (.int .i64 v3) (.slice a5 n5 c5)
        rw [← hW'] at hc
        obtain ⟨e0, e1, e2, e3⟩ := hc
        refine bodyPost_ret (v := .tuple #[.agg #[.int .i64 v1, .int .i64 v2, .int .i64 v3, .slice a5 n5 c5], .nilIface]) (by simp [results, Tryz.results30, go_sem, e0, e1, e2, e3]) rfl ?_
        rw [HR.out]
        refine ⟨⟨a5, n5, c5, rfl, ?_⟩, by rw [hW']; exact Hs.out _ _ _ _⟩
        show IsB W' _ d
        by_cases hl : d = []
        · subst hl; exact O6.out.empty
        · rw [hW']
          exact O6.out.kept (set4_fr W _ _ _ _ _) (fun b hb e => O6.out.apart4 G6.out (by simp) (by simp) (by simp) (by simp) hl (by rw [hb, e]))
  · have hr : r = none := HDEC.out.trans (if_pos (.inl hd0))
    have HB := Lib.hid (bad.out hr)
    obtain ⟨D', rfl⟩ : ∃ j, D = j + 1 := ⟨D - 1, by omega⟩
    simp only [errV]
    clear hr bad fin Hs
    go_wp2
    generalize hW : (((W.setCell ⟨w.heap.size, 0, none⟩ (.int .i64 0)).setCell ⟨w.heap.size, 1, none⟩ (.int .i64 0)).setCell ⟨w.heap.size, 2, none⟩ (.int .i64 0)).setCell ⟨w.heap.size, 3, none⟩ (.slice none 0 0) = W' at *
    obtain ⟨e0, e1, e2, e3⟩ := finB.out W' hW.symm
    refine bodyPost_ret (v := .tuple #[.agg #[.int .i64 0, .int .i64 0, .int .i64 0, .slice none 0 0], .iface 60 (.int .i64 3)]) (by simp [results, Tryz.results30, go_sem, e0, e1, e2, e3]) rfl ?_
    exact HB.out W' hW.symm
end Go.Proofs.YtbgockggbpmhnaaGreatDoor
