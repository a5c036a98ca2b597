/-
  msg.Decode, by a contract.
  Conditions: the listed variables read as listed ('Env'); the parameter reads as bytes and is at most 2^47 long.
-/
import Derived.Test.YtbgockggbpmhnaaGreatDoorMayR
import Derived.Test.YtbgockggbpmhnaaGreatDoorEntD
import Derived.Test.YtbgockggbpmhnaaGreatDoorCount
namespace Go.Proofs.YtbgockggbpmhnaaGreatDoor
open Go Go.RowKit

theorem heap_setRow {w : World} {g : Nat} {old : Array Value} {t : TypeId} (h : w.heap[g]? = some (.cells old t)) (cs : Array Value) : (w.setRow g cs).heap[g]? = some (.cells cs t) := by
  simp only [World.setRow, Array.getElem?_modify, if_true, h, Option.map_some]
theorem fr_setRow {w : World} {g : Nat} {old : Array Value} {t : TypeId} (_h : w.heap[g]? = some (.cells old t)) (cs : Array Value) : Fr (fun j => j = g) w (w.setRow g cs) :=
  ⟨rfl, rfl, rfl, by simp [World.setRow], fun k hk hx => by simp only [World.setRow, Array.getElem?_modify]; rw [if_neg (fun e => hx e.symm)]⟩
/-- The message of nothing. -/
def zeroM : Value := .agg #[.int .i64 0, .int .i64 0, .int .i64 0, .int .i64 0, .int .i64 0, .int .i64 0, .int .i64 0, .int .i64 0, .bool false, .int .i64 0, .slice none 0 0, .slice none 0 0]
/-- What Decode answers: a message and no error; or nothing and an error. -/
def DecMR (er : Nat → Value) (w w' : World) (v : Ending) (r : Option PK.Msg) : Prop :=
  ((r = none ∧ v = .returned (.tuple #[zeroM, er 3])) ∨ (∃ y : RM, v = .returned (.tuple #[y.val, er 0]) ∧ y.Fit w' ∧ r = some y.msg)) ∧ Below w.heap.size w w'
theorem Rd.kept8 {X : Nat → Prop} {w w' : World} {N : Nat} {l : List UInt8} {k : Nat} (h : Rd w N l k) (f : Fr X w w') (hN : ¬ X N) (hx : ∀ q, X q → ∀ j n, w.cell? ⟨q, j, none⟩ ≠ some (.int .u8 n)) : Rd w' N l k := by
  obtain ⟨hg, a, c, hh, hv⟩ := h
  exact ⟨hg, a, c, f.heap hh hN, hv.kept8 f hx⟩
theorem Rd.no8 {w : World} {N : Nat} {l : List UInt8} {k : Nat} (h : Rd w N l k) (q : Nat) (hq : q = N) (j : Nat) (n : Int) : w.cell? ⟨q, j, none⟩ ≠ some (.int .u8 n) := by
  subst hq
  obtain ⟨hg, a, c, hh, hv⟩ := h
  intro e
  simp only [World.cell?, hh] at e
  rcases j with _ | _ | j
  · simp at e
  · simp at e; exact errV_noByte k n e
  · simp at e
/-- What stays: the results' block, the reader's pointer. -/
structure Bs (w V : World) (N P : Nat) : Prop where
  be : Below w.heap.size w V
  pc : V.cell? ⟨P, 0, none⟩ = some (.pointer (some ⟨N, 0, none⟩))
  rb : V.heap[w.heap.size]? = some (.cells #[.int .i64 0, .int .i64 0, .int .i64 0, .int .i64 0, .int .i64 0, .int .i64 0, .int .i64 0, .int .i64 0, .bool false, .int .i64 0, .slice none 0 0, .slice none 0 0] 30)
theorem Bs.fr {X : Nat → Prop} {w V V' : World} {N P : Nat} (h : Bs w V N P) (f : Fr X V V') (hx : ∀ k, X k → w.heap.size < k ∧ k ≠ P) : Bs w V' N P :=
  ⟨h.be.trans ⟨f.os, f.tape, f.output, f.size, fun k hk => f.block k (Nat.lt_of_lt_of_le hk h.be.size) (fun x => by have := hx k x; omega)⟩,
   f.cell h.pc (fun x => (hx P x).2 rfl), f.heap h.rb (fun x => by have := (hx _ x).1; omega)⟩
theorem Bs.below {w V V' : World} {N P : Nat} (h : Bs w V N P) (f : Below V.heap.size V V') : Bs w V' N P := h.fr (X := fun _ => False) (Fr.of_below f) (fun _ x => x.elim)
theorem run_lens (l : List UInt8) (k : Nat) : (PK.runP 98 4200 l k).1.length ≤ l.length ∧ (PK.runP 98 4200 l k).2.1.length ≤ l.length := by
  unfold PK.runP
  split
  · simp
  · split
    · simp
    · split
      · simp
      · split
        · simp
        · simp; omega
/-- number, within Decode. -/
theorem numC_any (N P : Nat) (l : List UInt8) (k : Nat) (w : World) (hE : Env w) (hP : w.cell? ⟨P, 0, none⟩ = some (.pointer (some ⟨N, 0, none⟩))) (h : Rd w N l k) :
    Calls Tryz.prog 25 #[.pointer (some ⟨P, 0, none⟩)] w fun e w' => e = .returned (.int .i64 ((PK.uintP 1099511627776 l k).1 : Nat)) ∧ Rd w' N (PK.uintP 1099511627776 l k).2.1 (PK.uintP 1099511627776 l k).2.2 ∧ Fr (fun i => i = N) w w' := by
  have HU := Lib.hid (uint_any N 1099511627776 l k w hE h)
  have hle := PK.uint_le 1099511627776 l k
  generalize PK.uintP 1099511627776 l k = r at *
  obtain ⟨v, l1, k1⟩ := r
  simp only at hle HU ⊢
  have hw : IntKind.i64.wrap (v : Int) = (v : Int) := by rw [IntKind.wrap_i64]; omega
  clear hle hE h
  go_enter Tryz.func25, Tryz.ntmps25
  go_wp2_with fail
  refine HU.out.mono ?_
  rintro e w1 ⟨rfl, r1, f1⟩
  have R1 := Lib.hid r1
  have F1 := Lib.hid f1
  clear r1 f1 HU
  go_wp2
  go_ret
  exact ⟨rfl, R1.out, F1.out⟩
set_option maxRecDepth 100000 in
set_option maxHeartbeats 16000000 in
theorem decM_any (a : Option Addr) (c : Nat) (l : List UInt8) (w : World) (hE : Env w) (hv : IsB w (.slice a l.length c) l) (hl47 : l.length ≤ roomB) :
    Calls Tryz.prog 11 #[.slice a l.length c] w fun v w' => DecMR errV w w' v (PK.decM l) := by
  obtain ⟨v1, l1, k1, hp1⟩ : ∃ v l' k, PK.uintP 1099511627776 l 0 = (v, l', k) := ⟨_, _, _, rfl⟩
  obtain ⟨v2, l2, k2, hp2⟩ : ∃ v l' k, PK.uintP 1099511627776 l1 k1 = (v, l', k) := ⟨_, _, _, rfl⟩
  obtain ⟨v3, l3, k3, hp3⟩ : ∃ v l' k, PK.uintP 1099511627776 l2 k2 = (v, l', k) := ⟨_, _, _, rfl⟩
  obtain ⟨v4, l4, k4, hp4⟩ : ∃ v l' k, PK.uintP 1099511627776 l3 k3 = (v, l', k) := ⟨_, _, _, rfl⟩
  obtain ⟨v5, l5, k5, hp5⟩ : ∃ v l' k, PK.uintP 1099511627776 l4 k4 = (v, l', k) := ⟨_, _, _, rfl⟩
  obtain ⟨v6, l6, k6, hp6⟩ : ∃ v l' k, PK.uintP 1099511627776 l5 k5 = (v, l', k) := ⟨_, _, _, rfl⟩
  obtain ⟨v7, l7, k7, hp7⟩ : ∃ v l' k, PK.uintP 1099511627776 l6 k6 = (v, l', k) := ⟨_, _, _, rfl⟩
  obtain ⟨v8, l8, k8, hp8⟩ : ∃ v l' k, PK.uintP 1099511627776 l7 k7 = (v, l', k) := ⟨_, _, _, rfl⟩
  obtain ⟨b9, l9, k9, hp9⟩ : ∃ v l' k, PK.boolP l8 k8 = (v, l', k) := ⟨_, _, _, rfl⟩
  obtain ⟨va, la, ka, hpa⟩ : ∃ v l' k, PK.uintP 1099511627776 l9 k9 = (v, l', k) := ⟨_, _, _, rfl⟩
  obtain ⟨d, lb, kb, hpb⟩ : ∃ v l' k, PK.runP 98 4096 la ka = (v, l', k) := ⟨_, _, _, rfl⟩
  obtain ⟨n, lc, kc, hpc⟩ : ∃ v l' k, PK.countP 64 lb kb = (v, l', k) := ⟨_, _, _, rfl⟩
  have hlen : lc.length ≤ roomB ∧ la.length ≤ roomB := by
    have bool_rest : ∀ (l : List UInt8) (k : Nat), (PK.boolP l k).2.1.length ≤ l.length := fun l k => by
      unfold PK.boolP
      split
      · exact Nat.le_refl _
      · split
        · exact Nat.le_refl _
        · simp
    have run_rest : ∀ (l : List UInt8) (k : Nat), (PK.runP 98 4096 l k).2.1.length ≤ l.length := fun l k => by
      unfold PK.runP
      split
      · exact Nat.le_refl _
      · split
        · exact Nat.le_refl _
        · split
          · exact Nat.le_refl _
          · split
            · exact Nat.le_refl _
            · simp
    have count_rest : ∀ (l : List UInt8) (k : Nat), (PK.countP 64 l k).2.1.length ≤ l.length := fun l k => by
      unfold PK.countP
      have := PK.uint_rest (64 : Int).toNat l k
      split
      · exact Nat.le_refl _
      · split
        · exact Nat.le_refl _
        · exact this
    have e1 := PK.uint_rest 1099511627776 l 0
    rw [hp1] at e1
    have e2 := PK.uint_rest 1099511627776 l1 k1
    rw [hp2] at e2
    have e3 := PK.uint_rest 1099511627776 l2 k2
    rw [hp3] at e3
    have e4 := PK.uint_rest 1099511627776 l3 k3
    rw [hp4] at e4
    have e5 := PK.uint_rest 1099511627776 l4 k4
    rw [hp5] at e5
    have e6 := PK.uint_rest 1099511627776 l5 k5
    rw [hp6] at e6
    have e7 := PK.uint_rest 1099511627776 l6 k6
    rw [hp7] at e7
    have e8 := PK.uint_rest 1099511627776 l7 k7
    rw [hp8] at e8
    have e9 := bool_rest l8 k8
    rw [hp9] at e9
    have ea := PK.uint_rest 1099511627776 l9 k9
    rw [hpa] at ea
    have eb := run_rest la ka
    rw [hpb] at eb
    have ec := count_rest lb kb
    rw [hpc] at ec
    simp only at e1 e2 e3 e4 e5 e6 e7 e8 e9 ea eb ec
    omega
  have hn64 : n ≤ 64 := by
    rcases PK.count_cases lb kb with ⟨e, _, h⟩ | ⟨n', e, _, _, h1, _, h⟩
    · rw [hpc] at h; have := congrArg Prod.fst h; simp only at this; omega
    · rw [hpc] at h
      split at h
      · have := congrArg Prod.fst h; simp only at this; omega
      · have := congrArg Prod.fst h; simp only at this; omega
  have hdec : PK.decM l = match PK.readEs n lc kc with
      | none => none
      | some r => if PK.doneP r.2.1 r.2.2 ≠ 0 ∨ ¬ PK.mayM ⟨v1, v2, v3, v4, v5, v6, v7, v8, b9, va, d, r.1⟩ then none else some ⟨v1, v2, v3, v4, v5, v6, v7, v8, b9, va, d, r.1⟩ := by
    unfold PK.decM PK.readH
    simp only [hp1, hp2, hp3, hp4, hp5, hp6, hp7, hp8, hp9, hpa, hpb, hpc]
    cases PK.readEs n lc kc with
    | none => rfl
    | some r => rfl
  have HDEC := Lib.hid hdec
  have H1 : Hid (∀ (V : World) (N P : Nat), Env V → V.cell? ⟨P, 0, none⟩ = some (.pointer (some ⟨N, 0, none⟩)) → Rd V N l 0 → Calls Tryz.prog 25 #[.pointer (some ⟨P, 0, none⟩)] V fun e w' => e = .returned (.int .i64 v1) ∧ Rd w' N l1 k1 ∧ Fr (fun i => i = N) V w') := fun V N P hE hP h => by
    have := numC_any N P l 0 V hE hP h
    simp only [hp1] at this
    exact this
  have H2 : Hid (∀ (V : World) (N P : Nat), Env V → V.cell? ⟨P, 0, none⟩ = some (.pointer (some ⟨N, 0, none⟩)) → Rd V N l1 k1 → Calls Tryz.prog 25 #[.pointer (some ⟨P, 0, none⟩)] V fun e w' => e = .returned (.int .i64 v2) ∧ Rd w' N l2 k2 ∧ Fr (fun i => i = N) V w') := fun V N P hE hP h => by
    have := numC_any N P l1 k1 V hE hP h
    simp only [hp2] at this
    exact this
  have H3 : Hid (∀ (V : World) (N P : Nat), Env V → V.cell? ⟨P, 0, none⟩ = some (.pointer (some ⟨N, 0, none⟩)) → Rd V N l2 k2 → Calls Tryz.prog 25 #[.pointer (some ⟨P, 0, none⟩)] V fun e w' => e = .returned (.int .i64 v3) ∧ Rd w' N l3 k3 ∧ Fr (fun i => i = N) V w') := fun V N P hE hP h => by
    have := numC_any N P l2 k2 V hE hP h
    simp only [hp3] at this
    exact this
  have H4 : Hid (∀ (V : World) (N P : Nat), Env V → V.cell? ⟨P, 0, none⟩ = some (.pointer (some ⟨N, 0, none⟩)) → Rd V N l3 k3 → Calls Tryz.prog 25 #[.pointer (some ⟨P, 0, none⟩)] V fun e w' => e = .returned (.int .i64 v4) ∧ Rd w' N l4 k4 ∧ Fr (fun i => i = N) V w') := fun V N P hE hP h => by
    have := numC_any N P l3 k3 V hE hP h
    simp only [hp4] at this
    exact this
  have H5 : Hid (∀ (V : World) (N P : Nat), Env V → V.cell? ⟨P, 0, none⟩ = some (.pointer (some ⟨N, 0, none⟩)) → Rd V N l4 k4 → Calls Tryz.prog 25 #[.pointer (some ⟨P, 0, none⟩)] V fun e w' => e = .returned (.int .i64 v5) ∧ Rd w' N l5 k5 ∧ Fr (fun i => i = N) V w') := fun V N P hE hP h => by
    have := numC_any N P l4 k4 V hE hP h
    simp only [hp5] at this
    exact this
  have H6 : Hid (∀ (V : World) (N P : Nat), Env V → V.cell? ⟨P, 0, none⟩ = some (.pointer (some ⟨N, 0, none⟩)) → Rd V N l5 k5 → Calls Tryz.prog 25 #[.pointer (some ⟨P, 0, none⟩)] V fun e w' => e = .returned (.int .i64 v6) ∧ Rd w' N l6 k6 ∧ Fr (fun i => i = N) V w') := fun V N P hE hP h => by
    have := numC_any N P l5 k5 V hE hP h
    simp only [hp6] at this
    exact this
  have H7 : Hid (∀ (V : World) (N P : Nat), Env V → V.cell? ⟨P, 0, none⟩ = some (.pointer (some ⟨N, 0, none⟩)) → Rd V N l6 k6 → Calls Tryz.prog 25 #[.pointer (some ⟨P, 0, none⟩)] V fun e w' => e = .returned (.int .i64 v7) ∧ Rd w' N l7 k7 ∧ Fr (fun i => i = N) V w') := fun V N P hE hP h => by
    have := numC_any N P l6 k6 V hE hP h
    simp only [hp7] at this
    exact this
  have H8 : Hid (∀ (V : World) (N P : Nat), Env V → V.cell? ⟨P, 0, none⟩ = some (.pointer (some ⟨N, 0, none⟩)) → Rd V N l7 k7 → Calls Tryz.prog 25 #[.pointer (some ⟨P, 0, none⟩)] V fun e w' => e = .returned (.int .i64 v8) ∧ Rd w' N l8 k8 ∧ Fr (fun i => i = N) V w') := fun V N P hE hP h => by
    have := numC_any N P l7 k7 V hE hP h
    simp only [hp8] at this
    exact this
  have Ha : Hid (∀ (V : World) (N P : Nat), Env V → V.cell? ⟨P, 0, none⟩ = some (.pointer (some ⟨N, 0, none⟩)) → Rd V N l9 k9 → Calls Tryz.prog 25 #[.pointer (some ⟨P, 0, none⟩)] V fun e w' => e = .returned (.int .i64 va) ∧ Rd w' N la ka ∧ Fr (fun i => i = N) V w') := fun V N P hE hP h => by
    have := numC_any N P l9 k9 V hE hP h
    simp only [hpa] at this
    exact this
  have H9 : Hid (∀ (V : World) (N : Nat), Rd V N l8 k8 → Calls Tryz.prog 27 #[.pointer (some ⟨N, 0, none⟩)] V fun e w' => e = .returned (.bool b9) ∧ Rd w' N l9 k9 ∧ Fr (fun i => i = N) V w') := fun V N h => by
    have := bool_any N l8 k8 V h
    simp only [hp9] at this
    exact this
  have Hb : Hid (∀ (V : World) (N : Nat), Env V → Rd V N la ka → Calls Tryz.prog 28 #[.pointer (some ⟨N, 0, none⟩), .int .i64 4096] V fun e w' => RunR N V w' e (d, lb, kb)) := fun V N hE h => by
    have := bytes_any N la ka 4096 V hE h (by decide) hlen.2
    rw [hpb] at this
    exact this
  have Hc : Hid (∀ (V : World) (N : Nat), Env V → Rd V N lb kb → Calls Tryz.prog 29 #[.pointer (some ⟨N, 0, none⟩), .int .i64 64] V fun e w' => e = .returned (.int .i64 n) ∧ Rd w' N lc kc ∧ Fr (fun i => i = N) V w') := fun V N hE h => by
    have := count_any N lb kb V hE h
    simp only [hpc] at this
    exact this
  have HLC := Lib.hid hlen.1
  have HR := Lib.hid (fun (W : World) (hE : Env W) (hv : IsB W (.slice a l.length c) l) => read_any a c l W hE hv)
  have HE := Lib.hid hE
  have HV := Lib.hid hv
  have HN64 := Lib.hid hn64
  clear hE hv hl47 hdec hlen hn64 hp1 hp2 hp3 hp4 hp5 hp6 hp7 hp8 hp9 hpa hpb hpc
  generalize PK.decM l = RES at *
  obtain ⟨W0, hW0⟩ : ∃ W, W = w.alloc (.cells #[.int .i64 0, .int .i64 0, .int .i64 0, .int .i64 0, .int .i64 0, .int .i64 0, .int .i64 0, .int .i64 0, .bool false, .int .i64 0, .slice none 0 0, .slice none 0 0] 30) := ⟨_, rfl⟩
  have g0 : W0.heap[w.heap.size]? = some (.cells #[.int .i64 0, .int .i64 0, .int .i64 0, .int .i64 0, .int .i64 0, .int .i64 0, .int .i64 0, .int .i64 0, .bool false, .int .i64 0, .slice none 0 0, .slice none 0 0] 30) := by rw [hW0]; exact heap_alloc_new _ _
  have b0 : Below w.heap.size w W0 := by rw [hW0]; exact (Below.refl _ _).alloc (Nat.le_refl _) _
  have s0 : W0.heap.size = w.heap.size + 1 := by rw [hW0]; simp
  have HR0 := HR.out W0 (HE.out.below b0) (HV.out.below b0)
  rw [s0] at HR0
  have HR1 := Lib.hid HR0
  have hg : glob ≤ w.heap.size := HE.out.big
  have Hg := Lib.hid hg
  have G0 := Lib.hid g0
  have B0 := Lib.hid b0
  clear HR HR0 g0 b0 s0 HV hg
  go_enter Tryz.func11, Tryz.ntmps11
  go_wp2_with fail
  rw [← hW0]
  clear hW0
  refine HR1.out.mono ?_
  rintro e w1 ⟨rfl, r1, b1⟩
  obtain ⟨N, hN⟩ : ∃ N, w.heap.size + 1 = N := ⟨_, rfl⟩
  rw [hN] at r1 b1 ⊢
  have GR := Lib.hid ((b1.block _ (by omega)).trans G0.out)
  have B1 : Hid (Below w.heap.size w w1) := B0.out.trans (b1.mono (by omega))
  have R0 := Lib.hid r1
  have HNs : Hid (w.heap.size + 1 = N) := hN
  clear r1 b1 G0 B0 HR1 hN
  go_wp2_with fail
  obtain ⟨W1, hW1⟩ : ∃ W, W = w1.alloc (.cells #[.pointer (some ⟨N, 0, none⟩)] 49) := ⟨_, rfl⟩
  obtain ⟨P, hP⟩ : ∃ P, w1.heap.size = P := ⟨_, rfl⟩
  have hNP : N < P := by rw [← hP]; exact R0.out.lt
  have hb1 : Below w1.heap.size w1 W1 := by rw [hW1]; exact (Below.refl _ _).alloc (Nat.le_refl _) _
  have S1 : Hid (Bs w W1 N P) := Lib.hid ⟨B1.out.trans (hb1.mono B1.out.size), by rw [hW1, ← hP]; exact World.cell?_alloc_new _ _ _ 0, (hb1.block _ (by have := R0.out.lt; have := HNs.out; omega)).trans GR.out⟩
  have R1 : Hid (Rd W1 N l 0) := Lib.hid (R0.out.below hb1)
  have HNP := Lib.hid hNP
  have env : Hid (∀ V, Bs w V N P → Env V) := fun V h => HE.out.below h.be
  have stepN : Hid (∀ V V', Bs w V N P → Fr (fun i => i = N) V V' → Bs w V' N P) := fun V V' h f => h.fr f (fun k hk => by have := HNs.out; omega)
  rw [← hW1, hP]
  clear hW1 hP hb1 hNP B1 GR R0
  have pc := S1.out.pc
  refine (H1.out W1 N P (env.out _ S1.out) S1.out.pc R1.out).mono ?_
  rintro e V1 ⟨rfl, r, f⟩
  have R11 := Lib.hid r
  have S11 := Lib.hid (stepN.out _ _ S1.out f)
  clear r f R1 S1 H1
  have pc := S11.out.pc
  go_wp2_with fail
  refine (H2.out V1 N P (env.out _ S11.out) S11.out.pc R11.out).mono ?_
  rintro e V2 ⟨rfl, r, f⟩
  have R12 := Lib.hid r
  have S12 := Lib.hid (stepN.out _ _ S11.out f)
  clear r f R11 S11 H2
  have pc := S12.out.pc
  go_wp2_with fail
  refine (H3.out V2 N P (env.out _ S12.out) S12.out.pc R12.out).mono ?_
  rintro e V3 ⟨rfl, r, f⟩
  have R13 := Lib.hid r
  have S13 := Lib.hid (stepN.out _ _ S12.out f)
  clear r f R12 S12 H3
  have pc := S13.out.pc
  go_wp2_with fail
  refine (H4.out V3 N P (env.out _ S13.out) S13.out.pc R13.out).mono ?_
  rintro e V4 ⟨rfl, r, f⟩
  have R14 := Lib.hid r
  have S14 := Lib.hid (stepN.out _ _ S13.out f)
  clear r f R13 S13 H4
  have pc := S14.out.pc
  go_wp2_with fail
  obtain ⟨W2, hW2⟩ : ∃ W, W = V4.alloc (.cells #[.int .i64 v1, .int .i64 v2, .int .i64 v3, .int .i64 v4, .int .i64 0, .int .i64 0, .int .i64 0, .int .i64 0, .bool false, .int .i64 0, .slice none 0 0, .slice none 0 0] 30) := ⟨_, rfl⟩
  obtain ⟨Mb, hMb⟩ : ∃ P, V4.heap.size = P := ⟨_, rfl⟩
  have hPM : P < Mb := by rw [← hMb]; exact World.block_lt_of_cell? _ _ S14.out.pc
  have hb2 : Below V4.heap.size V4 W2 := by rw [hW2]; exact (Below.refl _ _).alloc (Nat.le_refl _) _
  have S2 : Hid (Bs w W2 N P) := Lib.hid (S14.out.below hb2)
  have R2 : Hid (Rd W2 N l4 k4) := Lib.hid (R14.out.below hb2)
  have M2 : Hid (W2.heap[Mb]? = some (.cells #[.int .i64 v1, .int .i64 v2, .int .i64 v3, .int .i64 v4, .int .i64 0, .int .i64 0, .int .i64 0, .int .i64 0, .bool false, .int .i64 0, .slice none 0 0, .slice none 0 0] 30)) := Lib.hid (by rw [hW2, ← hMb]; exact heap_alloc_new _ _)
  have HPM := Lib.hid hPM
  have neM : ¬ (Mb = N) := by have := HNP.out; omega
  rw [← hW2, hMb]
  clear hW2 hMb hb2 hPM R14 S14
  refine (H5.out W2 N P (env.out _ S2.out) S2.out.pc R2.out).mono ?_
  rintro e V5 ⟨rfl, r, f⟩
  have R15 := Lib.hid r
  have S15 := Lib.hid (stepN.out _ _ S2.out f)
  have M15 := Lib.hid (f.heap M2.out neM)
  clear r f M2 R2 S2 H5
  have pc := S15.out.pc
  go_wp2_with fail
  refine (H6.out V5 N P (env.out _ S15.out) S15.out.pc R15.out).mono ?_
  rintro e V6 ⟨rfl, r, f⟩
  have R16 := Lib.hid r
  have S16 := Lib.hid (stepN.out _ _ S15.out f)
  have M16 := Lib.hid (f.heap M15.out neM)
  clear r f M15 R15 S15 H6
  have pc := S16.out.pc
  go_wp2_with fail
  refine (H7.out V6 N P (env.out _ S16.out) S16.out.pc R16.out).mono ?_
  rintro e V7 ⟨rfl, r, f⟩
  have R17 := Lib.hid r
  have S17 := Lib.hid (stepN.out _ _ S16.out f)
  have M17 := Lib.hid (f.heap M16.out neM)
  clear r f M16 R16 S16 H7
  have pc := S17.out.pc
  go_wp2_with fail
  refine (H8.out V7 N P (env.out _ S17.out) S17.out.pc R17.out).mono ?_
  rintro e V8 ⟨rfl, r, f⟩
  have R18 := Lib.hid r
  have S18 := Lib.hid (stepN.out _ _ S17.out f)
  have M18 := Lib.hid (f.heap M17.out neM)
  clear r f M17 R17 S17 H8
  have pc := S18.out.pc
  obtain ⟨⟨q0, q1, q2, q3, q4, q5, q6, q7, q8, q9, qa, qb⟩, qf⟩ := cells12 M18.out
  go_wp2_with fail
  obtain ⟨W3, hW3⟩ : ∃ W, W = (((V8.setCell ⟨Mb, 4, none⟩ (.int .i64 v5)).setCell ⟨Mb, 5, none⟩ (.int .i64 v6)).setCell ⟨Mb, 6, none⟩ (.int .i64 v7)).setCell ⟨Mb, 7, none⟩ (.int .i64 v8) := ⟨_, rfl⟩
  rw [← hW3]
  have f3 : Fr (fun k => k = Mb) V8 W3 := by rw [hW3]; exact Fr.setCell (X := fun k => k = Mb) (Fr.setCell (X := fun k => k = Mb) (Fr.setCell (X := fun k => k = Mb) (Fr.setCell (X := fun k => k = Mb) (Fr.refl _ _) (fun _ => rfl) _) (fun _ => rfl) _) (fun _ => rfl) _) (fun _ => rfl) _
  have M3 : Hid (W3.heap[Mb]? = some (.cells #[.int .i64 v1, .int .i64 v2, .int .i64 v3, .int .i64 v4, .int .i64 v5, .int .i64 v6, .int .i64 v7, .int .i64 v8, .bool false, .int .i64 0, .slice none 0 0, .slice none 0 0] 30)) := Lib.hid (by
    rw [hW3]
    simp only [World.setCell, Array.getElem?_modify, if_true, M18.out, Option.map_some]
    simp)
  have no8M : ∀ q, q = Mb → ∀ j n, V8.cell? ⟨q, j, none⟩ ≠ some (.int .u8 n) := fun q hq j n => by subst hq; exact no8_12 M18.out (by simp) j n
  have S3 : Hid (Bs w W3 N P) := Lib.hid (S18.out.fr f3 (fun k hk => by have := HPM.out; have := HNP.out; have := HNs.out; omega))
  have R3 : Hid (Rd W3 N l8 k8) := Lib.hid (R18.out.kept8 f3 (fun e => neM e.symm) no8M)
  have hBs : Hid (∀ V, Fr (fun k => k = N ∨ k = Mb) W3 V → Bs w V N P) := fun V f => S3.out.fr f (fun k hk => by have := HPM.out; have := HNP.out; have := HNs.out; omega)
  have contS : Hid (∀ V, Fr (fun k => k = N ∨ k = Mb) W3 V → (Hid (Fr (fun k => k = N ∨ k = Mb) W3 V) ∧ V.cell? ⟨P, 0, none⟩ = some (.pointer (some ⟨N, 0, none⟩)))) := fun V f => ⟨Lib.hid f, (hBs.out V f).pc⟩
  have upN : Hid (∀ V V', Fr (fun k => k = N ∨ k = Mb) W3 V → Fr (fun k => k = N) V V' → Fr (fun k => k = N ∨ k = Mb) W3 V') := fun V V' f g => f.trans (g.mono (fun _ _ h => .inl h))
  have upM : Hid (∀ V V', Fr (fun k => k = N ∨ k = Mb) W3 V → Fr (fun k => k = Mb) V V' → Fr (fun k => k = N ∨ k = Mb) W3 V') := fun V V' f g => f.trans (g.mono (fun _ _ h => .inr h))
  have S0 := contS.out W3.drew (Fr.refl _ _).drew
  have RX0 : Hid (Rd W3.drew N l8 k8) := Lib.hid (R3.out.below (Below.refl _ _).drew)
  have MX0 : Hid (W3.drew.heap[Mb]? = some (.cells #[.int .i64 v1, .int .i64 v2, .int .i64 v3, .int .i64 v4, .int .i64 v5, .int .i64 v6, .int .i64 v7, .int .i64 v8, .bool false, .int .i64 0, .slice none 0 0, .slice none 0 0] 30)) := M3
  clear hW3 f3 M3 no8M S3 R3 M18 R18 S18 q0 q1 q2 q3 q4 q5 q6 q7 q8 q9 qa qb qf
  refine wp_region_noPanic ?_
  refine wp_region_held_drew (S := fun V => (Hid (Fr (fun k => k = N ∨ k = Mb) W3 V) ∧ V.cell? ⟨P, 0, none⟩ = some (.pointer (some ⟨N, 0, none⟩)))) (by kernel_rfl) S0 (fun hHeld => ?_)
  refine wpAnyH_take (i := 0) (v := ?hv0) (List.getElem?_toArray.trans rfl) (by kernel_rfl) (by kernel_rfl) (by kernel_rfl) (fun _ _ _ h => h) (Or.inl ⟨by rfl, ?hy0⟩) (by assumption) ?hr0
  case hy0 => (intro wt hSw; (try dsimp only at hSw); go_simp; try (with_reducible rfl))
  try simp only [Act.put, List.setIfInBounds_toArray, List.set_cons_zero, List.set_cons_succ]
  refine wpAnyH_take (i := 2) (v := ?hv2) (List.getElem?_toArray.trans rfl) (by kernel_rfl) (by kernel_rfl) (by kernel_rfl) (fun _ _ _ h => h) (Or.inl ⟨by rfl, ?hy2⟩) (by assumption) ?hr2
  case hy2 => (intro wt hSw; (try dsimp only at hSw); go_simp; try (with_reducible rfl))
  try simp only [Act.put, List.setIfInBounds_toArray, List.set_cons_zero, List.set_cons_succ]
  refine wpAnyH_take (i := 4) (v := ?hv4) (List.getElem?_toArray.trans rfl) (by kernel_rfl) (by kernel_rfl) (by kernel_rfl) (fun _ _ _ h => h) (Or.inl ⟨by rfl, ?hy4⟩) (by assumption) ?hr4
  case hy4 => (intro wt hSw; (try dsimp only at hSw); go_simp; try (with_reducible rfl))
  try simp only [Act.put, List.setIfInBounds_toArray, List.set_cons_zero, List.set_cons_succ]
  refine wpAnyH_ready (rs := [1]) (by kernel_rfl) (by simp) ?_
  refine AllReadyH.cons (List.getElem?_toArray.trans rfl) (fun K hK => ?_) AllReadyH.nil
  go_simp
  go_at_call 27
  refine (H9.out _ N RX0.out).mono ?_
  rintro e u1 ⟨rfl, r, f⟩
  have RX1 := Lib.hid r
  have MX1 := Lib.hid (f.heap MX0.out neM)
  have T1 := contS.out u1 (upN.out _ _ S0.1.out f)
  clear r f RX0 MX0 H9
  try (go_wp2_with fail)
  refine hK.out _ _ ?_ (fun hHeld => ?_)
  · (try dsimp only)
    assumption
  clear hK K
  try simp only [Act.put, List.setIfInBounds_toArray, List.set_cons_zero, List.set_cons_succ]
  refine wpAnyH_take (i := 6) (v := ?hv6) (List.getElem?_toArray.trans rfl) (by kernel_rfl) (by kernel_rfl) (by kernel_rfl) (fun _ _ _ h => h) (Or.inl ⟨by rfl, ?hy6⟩) (by assumption) ?hr6
  case hy6 => (intro wt hSw; (try dsimp only at hSw); go_simp; try (with_reducible rfl))
  try simp only [Act.put, List.setIfInBounds_toArray, List.set_cons_zero, List.set_cons_succ]
  refine wpAnyH_ready (rs := [3]) (by kernel_rfl) (by simp) ?_
  refine AllReadyH.cons (List.getElem?_toArray.trans rfl) (fun K hK => ?_) AllReadyH.nil
  go_simp
  go_at_call 25
  refine (Ha.out _ N P (env.out _ (hBs.out _ T1.1.out)) T1.2 RX1.out).mono ?_
  rintro e u2 ⟨rfl, r, f⟩
  have RX2 := Lib.hid r
  have MX2 := Lib.hid (f.heap MX1.out neM)
  have T2 := contS.out u2 (upN.out _ _ T1.1.out f)
  clear r f RX1 MX1 Ha
  try (go_wp2_with fail)
  refine hK.out _ _ ?_ (fun hHeld => ?_)
  · (try dsimp only)
    assumption
  clear hK K
  try simp only [Act.put, List.setIfInBounds_toArray, List.set_cons_zero, List.set_cons_succ]
  refine wpAnyH_ready (rs := [5]) (by kernel_rfl) (by simp) ?_
  refine AllReadyH.cons (List.getElem?_toArray.trans rfl) (fun K hK => ?_) AllReadyH.nil
  go_simp
  go_at_call 28
  refine (Hb.out _ N (env.out _ (hBs.out _ T2.1.out)) RX2.out).mono ?_
  rintro e u3 ⟨⟨da, dn, dc, rfl, hdn, od⟩, r, f⟩
  simp only at hdn od r
  have RX3 := Lib.hid r
  have MX3 := Lib.hid (f.heap MX2.out neM)
  have T3 := contS.out u3 (upN.out _ _ T2.1.out f)
  have HDN := Lib.hid hdn
  have OD := Lib.hid od.isB
  obtain ⟨⟨q0, q1, q2, q3, q4, q5, q6, q7, q8, q9, qa, qb⟩, qf⟩ := cells12 MX3.out
  clear r f hdn od RX2 MX2 Hb
  try (go_wp2_with fail)
  refine hK.out _ _ ?_ (fun hHeld => ?_)
  · (try dsimp only)
    assumption
  clear hK K
  try simp only [Act.put, List.setIfInBounds_toArray, List.set_cons_zero, List.set_cons_succ]
  refine wpAnyH_ready (rs := [7]) (by kernel_rfl) (by simp) ?_
  refine AllReadyH.cons (List.getElem?_toArray.trans rfl) (fun K hK => ?_) AllReadyH.nil
  go_simp
  have T4 := contS.out _ (upM.out u3 _ T3.1.out (Fr.setCell (X := fun k => k = Mb) (p := ⟨Mb, 8, none⟩) (Fr.refl _ _) (fun _ => rfl) (.bool b9)))
  refine hK.out _ _ ?_ (fun hHeld => ?_)
  · (try dsimp only)
    assumption
  clear hK K
  try simp only [Act.put, List.setIfInBounds_toArray, List.set_cons_zero, List.set_cons_succ]
  refine wpAnyH_take (i := 8) (v := ?hv8) (List.getElem?_toArray.trans rfl) (by kernel_rfl) (by kernel_rfl) (by kernel_rfl) (fun _ _ _ h => h) (Or.inl ⟨by rfl, ?hy8⟩) (by assumption) ?hr8
  case hy8 => (intro wt hSw; (try dsimp only at hSw); go_simp; try (with_reducible rfl))
  try simp only [Act.put, List.setIfInBounds_toArray, List.set_cons_zero, List.set_cons_succ]
  refine wpAnyH_ready (rs := [9]) (by kernel_rfl) (by simp) ?_
  refine AllReadyH.cons (List.getElem?_toArray.trans rfl) (fun K hK => ?_) AllReadyH.nil
  go_simp
  have T5 := contS.out _ (upM.out _ _ T4.1.out (Fr.setCell (X := fun k => k = Mb) (p := ⟨Mb, 9, none⟩) (Fr.refl _ _) (fun _ => rfl) (.int .i64 va)))
  refine hK.out _ _ ?_ (fun hHeld => ?_)
  · (try dsimp only)
    assumption
  clear hK K
  try simp only [Act.put, List.setIfInBounds_toArray, List.set_cons_zero, List.set_cons_succ]
  refine wpAnyH_take (i := 10) (v := ?hv10) (List.getElem?_toArray.trans rfl) (by kernel_rfl) (by kernel_rfl) (by kernel_rfl) (fun _ _ _ h => h) (Or.inl ⟨by rfl, ?hy10⟩) (by assumption) ?hr10
  case hy10 => (intro wt hSw; (try dsimp only at hSw); go_simp; try (with_reducible rfl))
  try simp only [Act.put, List.setIfInBounds_toArray, List.set_cons_zero, List.set_cons_succ]
  refine wpAnyH_ready (rs := [11]) (by kernel_rfl) (by simp) ?_
  refine AllReadyH.cons (List.getElem?_toArray.trans rfl) (fun K hK => ?_) AllReadyH.nil
  go_simp
  have T6 := contS.out _ (upM.out _ _ T5.1.out (Fr.setCell (X := fun k => k = Mb) (p := ⟨Mb, 10, none⟩) (Fr.refl _ _) (fun _ => rfl) (.slice da dn dc)))
  refine hK.out _ _ ?_ (fun hHeld => ?_)
  · (try dsimp only)
    assumption
  clear hK K
  try simp only [Act.put, List.setIfInBounds_toArray, List.set_cons_zero, List.set_cons_succ]
  refine wpAnyH_done (by kernel_rfl) ?_ _
  refine NoPanic.normal ?_
  obtain ⟨W4, hW4⟩ : ∃ W, W = ((u3.setCell ⟨Mb, 8, none⟩ (.bool b9)).setCell ⟨Mb, 9, none⟩ (.int .i64 va)).setCell ⟨Mb, 10, none⟩ (.slice da dn dc) := ⟨_, rfl⟩
  rw [← hW4]
  have f4 : Fr (fun k => k = Mb) u3 W4 := by rw [hW4]; exact Fr.setCell (X := fun k => k = Mb) (Fr.setCell (X := fun k => k = Mb) (Fr.setCell (X := fun k => k = Mb) (Fr.refl _ _) (fun _ => rfl) _) (fun _ => rfl) _) (fun _ => rfl) _
  have M4 : Hid (W4.heap[Mb]? = some (.cells #[.int .i64 v1, .int .i64 v2, .int .i64 v3, .int .i64 v4, .int .i64 v5, .int .i64 v6, .int .i64 v7, .int .i64 v8, .bool b9, .int .i64 va, .slice da dn dc, .slice none 0 0] 30)) := Lib.hid (by
    rw [hW4]
    simp only [World.setCell, Array.getElem?_modify, if_true, MX3.out, Option.map_some]
    simp)
  have no8M : ∀ q, q = Mb → ∀ j n, u3.cell? ⟨q, j, none⟩ ≠ some (.int .u8 n) := fun q hq j n => by subst hq; exact no8_12 MX3.out (by simp) j n
  have S4 : Hid (Bs w W4 N P) := Lib.hid ((hBs.out _ T3.1.out).fr f4 (fun k hk => by have := HPM.out; have := HNP.out; have := HNs.out; omega))
  have R4 : Hid (Rd W4 N lb kb) := Lib.hid (RX3.out.kept8 f4 (fun e => neM e.symm) no8M)
  have D4 : Hid (IsB W4 (.slice da dn dc) d) := Lib.hid (OD.out.kept8 f4 no8M)
  have pc := S4.out.pc
  clear hW4 f4 no8M T3 T4 T5 T6 RX3 MX3 OD q0 q1 q2 q3 q4 q5 q6 q7 q8 q9 qa qb qf S0 T1 T2 contS upN upM hBs
  go_wp2_with fail
  refine (Hc.out W4 N (env.out _ S4.out) R4.out).mono ?_
  rintro e u5 ⟨rfl, r, f⟩
  have no8N := R4.out.no8
  have M5 := Lib.hid (f.heap M4.out neM)
  have R5 := Lib.hid r
  have S5 := Lib.hid (stepN.out _ _ S4.out f)
  have D5 := Lib.hid (D4.out.kept8 f no8N)
  clear r f no8N M4 R4 S4 D4 Hc pc
  have hn63 : (n : Int) ≤ 64 := by have := HN64.out; omega
  go_wp2_with fail
  go_loopw [44] (fun v V => ∃ (k : Nat) (a' : Option Addr) (c' : Nat) (ys : List RE) (l' : List UInt8) (k' : Nat), k ≤ n ∧ v = .int .i64 k ∧ Hid (ys.length = k) ∧ Hid (V.heap[Mb]? = some (.cells #[.int .i64 v1, .int .i64 v2, .int .i64 v3, .int .i64 v4, .int .i64 v5, .int .i64 v6, .int .i64 v7, .int .i64 v8, .bool b9, .int .i64 va, .slice da dn dc, .slice a' k c'] 30)) ∧ Hid (Rd V N l' k') ∧ Hid (OwnE V (.slice a' k c') ys) ∧ Hid (∀ b, Value.ownBlock (.slice a' k c') = some b → Mb < b) ∧ Hid (IsB V (.slice da dn dc) d) ∧ Hid (Bs w V N P) ∧ Hid (PK.readEs n lc kc = (PK.readEs (n - k) l' k').map fun r => (ys.map RE.ent ++ r.1, r.2)) ∧ Hid (l'.length ≤ roomB)) (fun v _ => n - (intOf v).toNat)
  case atStart => exact ⟨0, none, 0, [], lc, kc, Nat.zero_le _, rfl, rfl, M5, R5, Lib.hid (OwnE.nil _), Lib.hid (fun b hb => by simp [Value.ownBlock] at hb), D5, S5, Lib.hid (by cases PK.readEs n lc kc <;> simp), HLC⟩
  case round =>
    obtain ⟨k, a', c', ys, l', k', hk, rfl, Hyl, Mx, Rx, Ox, Hox, Dx, Sx, Hrd, Hll⟩ := hrel
    clear M5 R5 S5 D5
    have pc := Sx.out.pc
    by_cases hlt : k < n
    · obtain ⟨m, hm⟩ : ∃ m, n - k = m + 1 := ⟨n - k - 1, by omega⟩
      have Hm : Hid (n - (k + 1) = m) := Lib.hid (by omega)
      rw [hm] at Hrd
      obtain ⟨⟨d1, l1, k1⟩, hp⟩ : ∃ p, PK.runP 98 4200 l' k' = p := ⟨_, rfl⟩
      have HB := bytes_any N l' k' 4200 wr (env.out _ Sx.out) Rx.out (by decide) Hll.out
      rw [hp] at HB
      have hd1 : d1.length ≤ roomB ∧ l1.length ≤ roomB := by
        have := run_lens l' k'
        rw [hp] at this
        have := Hll.out
        simp only at *
        omega
      have hnone := fun (h : PK.decE d1 = none) => PK.readEs_none (n := m) (l := l') (k := k') (by rw [hp]; exact h)
      have hsome := fun (e : PK.Ent) (h : PK.decE d1 = some e) => PK.readEs_some (n := m) (l := l') (k := k') (e := e) (by rw [hp]; exact h)
      rw [hp] at hsome
      simp only at hsome
      have HBy := Lib.hid HB
      have Hnone := Lib.hid hnone
      have Hsome := Lib.hid hsome
      have Hd1 := Lib.hid hd1
      clear HB hnone hsome hd1 hp hm Hll
      go_wp2_with fail
      refine HBy.out.mono ?_
      rintro e u6 ⟨⟨a5, n5, c5, rfl, hn5, o5⟩, r, f⟩
      simp only at hn5 o5 r
      have no8N := Rx.out.no8
      have M6 := Lib.hid (f.heap Mx.out neM)
      have R6 := Lib.hid r
      have O6 := Lib.hid (Ox.out.kept f no8N (fun b hb e => by have := Hox.out b hb; have := HPM.out; have := HNP.out; omega))
      have D6 := Lib.hid (Dx.out.kept8 f no8N)
      have S6 := Lib.hid (stepN.out _ _ Sx.out f)
      have HD := decE_any a5 c5 d1 u6 (env.out _ S6.out) (by rw [hn5]; exact o5.isB) Hd1.out.1
      rw [hn5] at HD
      have HDe := Lib.hid HD
      clear r f no8N Mx Rx Ox Dx Sx HD o5 hn5 pc HBy
      cases hde : PK.decE d1 with
      | none =>
        rw [hde] at HDe
        have hres : RES = none := by
          have h1 := Hrd.out
          rw [Hnone.out hde] at h1
          have h2 := HDEC.out
          rw [h1] at h2
          exact h2
        have Hres := Lib.hid hres
        clear hde Hnone Hsome Hrd hres HDEC
        go_wp2_with fail
        refine HDe.out.mono ?_
        rintro e u7 ⟨rfl, b⟩
        have S7 := Lib.hid (S6.out.below b)
        clear b HDe M6 R6 O6 D6 S6
        simp only [errV]
        obtain ⟨WN, hWN⟩ : ∃ W, W = u7.alloc (.cells #[.int .i64 0, .int .i64 0, .int .i64 0, .slice none 0 0] 57) := ⟨_, rfl⟩
        have S8 : Hid (Bs w WN N P) := Lib.hid (S7.out.below (by rw [hWN]; exact (Below.refl _ _).alloc (Nat.le_refl _) _))
        have hrb := S8.out.rb
        rw [hWN] at hrb
        obtain ⟨⟨z0, z1, z2, z3, z4, z5, z6, z7, z8, z9, za, zb⟩, zf⟩ := cells12 hrb
        clear hrb S7
        go_wp2
        rw [← hWN]
        clear hWN z0 z1 z2 z3 z4 z5 z6 z7 z8 z9 za zb zf
        have FBd := Lib.hid (cells12 (stored12 S8.out.rb (.int .i64 0) (.int .i64 0) (.int .i64 0) (.int .i64 0) (.int .i64 0) (.int .i64 0) (.int .i64 0) (.int .i64 0) (.bool false) (.int .i64 0) (.slice none 0 0) (.slice none 0 0)))
        have BBd : Hid (Below w.heap.size w (set12 WN w.heap.size (.int .i64 0) (.int .i64 0) (.int .i64 0) (.int .i64 0) (.int .i64 0) (.int .i64 0) (.int .i64 0) (.int .i64 0) (.bool false) (.int .i64 0) (.slice none 0 0) (.slice none 0 0))) := Lib.hid (Fr.belowM S8.out.be (set12_fr WN _ (.int .i64 0) (.int .i64 0) (.int .i64 0) (.int .i64 0) (.int .i64 0) (.int .i64 0) (.int .i64 0) (.int .i64 0) (.bool false) (.int .i64 0) (.slice none 0 0) (.slice none 0 0)) (Nat.le_refl _) (Array.getElem?_eq_some_iff.1 S8.out.rb).1)
        generalize hWf : (((((((((((WN.setCell ⟨w.heap.size, 0, none⟩ (.int .i64 0)).setCell ⟨w.heap.size, 1, none⟩ (.int .i64 0)).setCell ⟨w.heap.size, 2, none⟩ (.int .i64 0)).setCell ⟨w.heap.size, 3, none⟩ (.int .i64 0)).setCell ⟨w.heap.size, 4, none⟩ (.int .i64 0)).setCell ⟨w.heap.size, 5, none⟩ (.int .i64 0)).setCell ⟨w.heap.size, 6, none⟩ (.int .i64 0)).setCell ⟨w.heap.size, 7, none⟩ (.int .i64 0)).setCell ⟨w.heap.size, 8, none⟩ (.bool false)).setCell ⟨w.heap.size, 9, none⟩ (.int .i64 0)).setCell ⟨w.heap.size, 10, none⟩ (.slice none 0 0)).setCell ⟨w.heap.size, 11, none⟩ (.slice none 0 0) = W' at *
        have hWf' : W' = set12 WN w.heap.size (.int .i64 0) (.int .i64 0) (.int .i64 0) (.int .i64 0) (.int .i64 0) (.int .i64 0) (.int .i64 0) (.int .i64 0) (.bool false) (.int .i64 0) (.slice none 0 0) (.slice none 0 0) := hWf.symm
        rw [← hWf'] at FBd BBd
        obtain ⟨⟨e0, e1, e2, e3, e4, e5, e6, e7, e8, e9, ea', eb⟩, _⟩ := FBd.out
        refine bodyPost_ret (v := .tuple #[zeroM, .iface 60 (.int .i64 3)]) (by simp [results, Tryz.results11, go_sem, e0, e1, e2, e3, e4, e5, e6, e7, e8, e9, ea', eb, zeroM]) rfl ?_
        exact ⟨.inl ⟨Hres.out, rfl⟩, BBd.out⟩
      | some e =>
        rw [hde] at HDe
        have hnx := Hsome.out e hde
        have Hnx : Hid (PK.readEs n lc kc = (PK.readEs m l1 k1).map fun r => ((ys.map RE.ent ++ [e]) ++ r.1, r.2)) := Lib.hid (by
          rw [Hrd.out, hnx]
          cases PK.readEs m l1 k1 <;> simp)
        clear hde hnx Hnone Hsome Hrd HDEC
        obtain ⟨ei, et, ek, ed⟩ := e
        go_wp2_with fail
        refine HDe.out.mono ?_
        rintro e u7 ⟨⟨a6, n6, c6, rfl, i6⟩, b⟩
        simp only at i6
        have hn6 : ed.length = n6 := by obtain ⟨_, _, e, _⟩ := i6; simp at e; exact e.2.1.symm
        obtain ⟨V1, hV1⟩ : ∃ V, V = u7.alloc (.cells #[.int .i64 ei, .int .i64 et, .int .i64 ek, .slice a6 n6 c6] 57) := ⟨_, rfl⟩
        obtain ⟨V2, hV2⟩ : ∃ V, V = V1.alloc (.cells #[.int .i64 ei, .int .i64 et, .int .i64 ek, .slice a6 n6 c6] 57) := ⟨_, rfl⟩
        have b1 : Below u7.heap.size u7 V1 := by rw [hV1]; exact (Below.refl _ _).alloc (Nat.le_refl _) _
        have b2 : Below V1.heap.size V1 V2 := by rw [hV2]; exact (Below.refl _ _).alloc (Nat.le_refl _) _
        have hb12 : Below u7.heap.size u7 V2 := b1.trans (b2.mono b1.size)
        have bb : Below u6.heap.size u6 V2 := b.trans (hb12.mono b.size)
        have hMlt := (Array.getElem?_eq_some_iff.1 M6.out).1
        have M7 : Hid (V2.heap[Mb]? = some (.cells #[.int .i64 v1, .int .i64 v2, .int .i64 v3, .int .i64 v4, .int .i64 v5, .int .i64 v6, .int .i64 v7, .int .i64 v8, .bool b9, .int .i64 va, .slice da dn dc, .slice a' k c'] 30)) := Lib.hid ((bb.block _ hMlt).trans M6.out)
        have mb1 : (u7.alloc (.cells #[.int .i64 ei, .int .i64 et, .int .i64 ek, .slice a6 n6 c6] 57)).heap[Mb]? = some (.cells #[.int .i64 v1, .int .i64 v2, .int .i64 v3, .int .i64 v4, .int .i64 v5, .int .i64 v6, .int .i64 v7, .int .i64 v8, .bool b9, .int .i64 va, .slice da dn dc, .slice a' k c'] 30) := by
          rw [← hV1]; exact ((b.trans (b1.mono b.size)).block _ hMlt).trans M6.out
        have R7 := Lib.hid (R6.out.below bb)
        have O7 := Lib.hid (O6.out.below bb)
        have D7 := Lib.hid (D6.out.below bb)
        have S7 := Lib.hid (S6.out.below bb)
        have F7 : Hid ((⟨ei, et, ek, a6, n6, c6, ed⟩ : RE).Fit V2) := Lib.hid ⟨hn6, i6.below hb12⟩
        have C7 : Hid (∀ (j : Nat) (u : Value), (⟨ei, et, ek, a6, n6, c6, ed⟩ : RE).vals[j]? = some u → V2.cell? ⟨V1.heap.size, j, none⟩ = some u) := Lib.hid (fun j u hu => by
          rw [hV2, World.cell?_alloc_new, ← hu, RE.vals]
          simp)
        have hV1s : V1.heap.size = u7.heap.size + 1 := by rw [hV1]; simp
        rw [hV1s] at C7
        have hMV2 : Mb < V2.heap.size := Nat.lt_of_lt_of_le hMlt bb.size
        rw [hV2, hV1] at O7 C7 F7
        have HMV := Lib.hid (show Mb < ((u7.alloc (.cells #[.int .i64 ei, .int .i64 et, .int .i64 ek, .slice a6 n6 c6] 57)).alloc (.cells #[.int .i64 ei, .int .i64 et, .int .i64 ek, .slice a6 n6 c6] 57)).heap.size by rw [← hV1, ← hV2]; exact hMV2)
        rw [hV2, hV1] at M7 R7 D7 S7
        obtain ⟨⟨q0, q1, q2, q3, q4, q5, q6, q7, q8, q9, qa, qb⟩, _⟩ := cells12 mb1
        clear i6 hn6 hV2 hV1 b1 b2 hb12 bb b hMlt mb1 hV1s hMV2 M6 R6 O6 D6 S6 HDe q0 q1 q2 q3 q4 q5 q6 q7 q8 q9 qa
        simp only [errV]
        go_wp2_with (at_builtin; refine wpList_appE rfl (.tmp 57) (.tmp 59) rfl T28 (v := .slice a' k c') (n := k) Hyl.out rfl O7.out rfl C7.out F7.out (by have := HN64.out; omega) ?_; intro a8 c8 w8 o8 g8 b8; have M8 := Lib.hid (g8.heap M7.out (fun e => by have := Hox.out Mb e; omega)); obtain ⟨⟨z0, z1, z2, z3, z4, z5, z6, z7, z8, z9, za, zb⟩, zf⟩ := cells12 M8.out; have O8 := Lib.hid o8; have G8 := Lib.hid g8; have B8 := Lib.hid b8; clear o8 g8 b8)
        have no8O : ∀ q, Value.ownBlock (.slice a' k c') = some q → ∀ j n, ((u7.alloc (.cells #[.int .i64 ei, .int .i64 et, .int .i64 ek, .slice a6 n6 c6] 57)).alloc (.cells #[.int .i64 ei, .int .i64 et, .int .i64 ek, .slice a6 n6 c6] 57)).cell? ⟨q, j, none⟩ ≠ some (.int .u8 n) := by
          intro q hq
          rcases O7.out with ⟨e, _⟩ | ⟨g, cap, e, _, _, _, _, _, h5, _⟩
          · rw [e] at hq; simp [Value.ownBlock] at hq
          · rw [e] at hq; simp [Value.ownBlock] at hq; subst hq; exact h5
        have fM : Fr (fun q => q = Mb) w8 (w8.setCell ⟨Mb, 11, none⟩ (.slice a8 (k + 1) c8)) := Fr.setCell (X := fun q => q = Mb) (Fr.refl _ _) (fun _ => rfl) _
        have no8M : ∀ q, q = Mb → ∀ j n, w8.cell? ⟨q, j, none⟩ ≠ some (.int .u8 n) := fun q hq j n => by subst hq; exact no8_12 M8.out (by simp) j n
        have hX8 : ∀ b, Value.ownBlock (.slice a8 (k + 1) c8) = some b → Mb < b := by
          intro q hq
          rcases B8.out with e | ⟨g, rfl, hg⟩
          · rw [e] at hq; exact Hox.out q hq
          · have := HMV.out; simp only [Value.ownBlock, Option.some.injEq] at hq; omega
        have geN := HNP.out
        have geM := HPM.out
        have geR := HNs.out
        refine ⟨⟨k + 1, a8, c8, ys ++ [⟨ei, et, ek, a6, n6, c6, ed⟩], l1, k1, hlt, by simp, Lib.hid (by rw [List.length_append, Hyl.out]; rfl), Lib.hid ?_, Lib.hid ?_, Lib.hid ?_, Lib.hid hX8, Lib.hid ?_, Lib.hid ?_, Lib.hid ?_, Lib.hid Hd1.out.2⟩, by simp [intOf]; omega⟩
        · simp only [World.setCell, Array.getElem?_modify, if_true, M8.out, Option.map_some]
          simp
        · exact (R7.out.kept8 G8.out (fun e => by have := Hox.out N e; omega) no8O).kept8 fM (fun e => neM e.symm) no8M
        · exact O8.out.kept fM no8M (fun b hb e => by have := hX8 b hb; omega)
        · exact (D7.out.kept8 G8.out no8O).kept8 fM no8M
        · exact (S7.out.fr G8.out (fun q hq => by have := Hox.out q hq; omega)).fr fM (fun q hq => by omega)
        · rw [Hm.out, Hnx.out, List.map_append]; rfl
    · obtain rfl : k = n := by omega
      have hrd := Hrd.out
      rw [Nat.sub_self] at hrd
      have hrd2 : PK.readEs k lc kc = some (ys.map RE.ent, l', k') := by rw [hrd]; show some (ys.map RE.ent ++ [], l', k') = _; rw [List.append_nil]
      have h2 := HDEC.out
      rw [hrd2] at h2
      simp only at h2
      have HDN2 := Lib.hid (done_any N l' k' wr Rx.out)
      have H2 := Lib.hid h2
      clear hrd hrd2 h2 Hrd HDEC
      generalize PK.doneP l' k' = D at *
      cases D with
      | succ D =>
        have Hres : Hid (RES = none) := Lib.hid (by rw [H2.out, if_pos (.inl (by omega))])
        obtain ⟨⟨z0, z1, z2, z3, z4, z5, z6, z7, z8, z9, za, zb⟩, zf⟩ := cells12 Sx.out.rb
        clear H2
        go_wp2_with fail
        refine HDN2.out.mono ?_
        rintro e u6 ⟨rfl, hu⟩
        subst hu
        simp only [errV]
        go_wp2
        clear z0 z1 z2 z3 z4 z5 z6 z7 z8 z9 za zb zf pc
        have FBd := Lib.hid (cells12 (stored12 Sx.out.rb (.int .i64 0) (.int .i64 0) (.int .i64 0) (.int .i64 0) (.int .i64 0) (.int .i64 0) (.int .i64 0) (.int .i64 0) (.bool false) (.int .i64 0) (.slice none 0 0) (.slice none 0 0)))
        have BBd : Hid (Below w.heap.size w (set12 wr w.heap.size (.int .i64 0) (.int .i64 0) (.int .i64 0) (.int .i64 0) (.int .i64 0) (.int .i64 0) (.int .i64 0) (.int .i64 0) (.bool false) (.int .i64 0) (.slice none 0 0) (.slice none 0 0))) := Lib.hid (Fr.belowM Sx.out.be (set12_fr wr _ (.int .i64 0) (.int .i64 0) (.int .i64 0) (.int .i64 0) (.int .i64 0) (.int .i64 0) (.int .i64 0) (.int .i64 0) (.bool false) (.int .i64 0) (.slice none 0 0) (.slice none 0 0)) (Nat.le_refl _) (Array.getElem?_eq_some_iff.1 Sx.out.rb).1)
        generalize hWf : (((((((((((wr.setCell ⟨w.heap.size, 0, none⟩ (.int .i64 0)).setCell ⟨w.heap.size, 1, none⟩ (.int .i64 0)).setCell ⟨w.heap.size, 2, none⟩ (.int .i64 0)).setCell ⟨w.heap.size, 3, none⟩ (.int .i64 0)).setCell ⟨w.heap.size, 4, none⟩ (.int .i64 0)).setCell ⟨w.heap.size, 5, none⟩ (.int .i64 0)).setCell ⟨w.heap.size, 6, none⟩ (.int .i64 0)).setCell ⟨w.heap.size, 7, none⟩ (.int .i64 0)).setCell ⟨w.heap.size, 8, none⟩ (.bool false)).setCell ⟨w.heap.size, 9, none⟩ (.int .i64 0)).setCell ⟨w.heap.size, 10, none⟩ (.slice none 0 0)).setCell ⟨w.heap.size, 11, none⟩ (.slice none 0 0) = W' at *
        have hWf' : W' = set12 wr w.heap.size (.int .i64 0) (.int .i64 0) (.int .i64 0) (.int .i64 0) (.int .i64 0) (.int .i64 0) (.int .i64 0) (.int .i64 0) (.bool false) (.int .i64 0) (.slice none 0 0) (.slice none 0 0) := hWf.symm
        rw [← hWf'] at FBd BBd
        obtain ⟨⟨e0, e1, e2, e3, e4, e5, e6, e7, e8, e9, ea', eb⟩, _⟩ := FBd.out
        refine bodyPost_ret (v := .tuple #[zeroM, .iface 60 (.int .i64 3)]) (by simp [results, Tryz.results11, go_sem, e0, e1, e2, e3, e4, e5, e6, e7, e8, e9, ea', eb, zeroM]) rfl ?_
        exact ⟨.inl ⟨Hres.out, rfl⟩, BBd.out⟩
      | zero =>
        obtain ⟨y, hy⟩ : ∃ y : RM, y = ⟨v1, v2, v3, v4, v5, v6, v7, v8, b9, va, da, dn, dc, d, a', k, c', ys⟩ := ⟨_, rfl⟩
        have hfit : y.Fit wr := by rw [hy]; exact ⟨HDN.out, Dx.out, Ox.out.esS⟩
        have hmsg : y.msg = ⟨v1, v2, v3, v4, v5, v6, v7, v8, b9, va, d, ys.map RE.ent⟩ := by rw [hy]; rfl
        have HM := may_any y wr hfit
        have hval : y.val = .agg #[.int .i64 v1, .int .i64 v2, .int .i64 v3, .int .i64 v4, .int .i64 v5, .int .i64 v6, .int .i64 v7, .int .i64 v8, .bool b9, .int .i64 va, .slice da dn dc, .slice a' k c'] := by rw [hy]; rfl
        rw [hval] at HM
        have HMay := Lib.hid HM
        have hH2 : RES = if ¬ PK.mayM y.msg then none else some y.msg := by
          rw [H2.out, hmsg]
          by_cases q : PK.mayM ⟨v1, v2, v3, v4, v5, v6, v7, v8, b9, va, d, ys.map RE.ent⟩
          · rw [if_neg (by simp [q]), if_neg (by simp [q])]
          · rw [if_pos (.inr q), if_pos q]
        have Hy := Lib.hid hy
        obtain ⟨⟨q0, q1, q2, q3, q4, q5, q6, q7, q8, q9, qa, qb⟩, _⟩ := cells12 Mx.out
        clear hfit hmsg HM H2 hval hy
        by_cases hmay : PK.mayM y.msg
        · have Hres : Hid (RES = some y.msg) := Lib.hid (by rw [hH2, if_neg (by simp [hmay])])
          rw [decide_eq_true hmay] at HMay
          clear hmay hH2
          generalize ((v1 : Nat) : Int) = i1 at *
          generalize ((v2 : Nat) : Int) = i2 at *
          generalize ((v3 : Nat) : Int) = i3 at *
          generalize ((v4 : Nat) : Int) = i4 at *
          generalize ((v5 : Nat) : Int) = i5 at *
          generalize ((v6 : Nat) : Int) = i6 at *
          generalize ((v7 : Nat) : Int) = i7 at *
          generalize ((v8 : Nat) : Int) = i8 at *
          generalize ((va : Nat) : Int) = ia at *
          go_wp2_with fail
          refine HDN2.out.mono ?_
          rintro e u6 ⟨rfl, hu⟩
          subst hu
          simp only [errV]
          clear HDN2
          go_wp2_with fail
          refine HMay.out.mono ?_
          rintro e u7 ⟨rfl, b⟩
          have M7 := Lib.hid ((b.block _ (Array.getElem?_eq_some_iff.1 Mx.out).1).trans Mx.out)
          have S7 := Lib.hid (Sx.out.below b)
          have D7 := Lib.hid (Dx.out.below b)
          have O7 := Lib.hid (Ox.out.below b)
          clear q0 q1 q2 q3 q4 q5 q6 q7 q8 q9 qa qb b Mx Rx Ox Dx Sx HMay pc
          obtain ⟨⟨z0, z1, z2, z3, z4, z5, z6, z7, z8, z9, za, zb⟩, zf⟩ := cells12 S7.out.rb
          go_wp2_with (refine wpList_load_row rfl 30 (.tmp 6) rfl Mb rfl _ _ _ _ M7.out Tryz.underlying30 rfl (by kernel_rfl) ?_)
          clear z0 z1 z2 z3 z4 z5 z6 z7 z8 z9 za zb zf
          have FBd := Lib.hid (cells12 (stored12 S7.out.rb (.int .i64 i1) (.int .i64 i2) (.int .i64 i3) (.int .i64 i4) (.int .i64 i5) (.int .i64 i6) (.int .i64 i7) (.int .i64 i8) (.bool b9) (.int .i64 ia) (.slice da dn dc) (.slice a' k c')))
          have fR := set12_fr u7 w.heap.size (.int .i64 i1) (.int .i64 i2) (.int .i64 i3) (.int .i64 i4) (.int .i64 i5) (.int .i64 i6) (.int .i64 i7) (.int .i64 i8) (.bool b9) (.int .i64 ia) (.slice da dn dc) (.slice a' k c')
          have no8R : ∀ q, q = w.heap.size → ∀ j n, u7.cell? ⟨q, j, none⟩ ≠ some (.int .u8 n) := fun q hq j n => by subst hq; exact no8_12 S7.out.rb (by simp) j n
          have BBd : Hid (Below w.heap.size w (set12 u7 w.heap.size (.int .i64 i1) (.int .i64 i2) (.int .i64 i3) (.int .i64 i4) (.int .i64 i5) (.int .i64 i6) (.int .i64 i7) (.int .i64 i8) (.bool b9) (.int .i64 ia) (.slice da dn dc) (.slice a' k c'))) := Lib.hid (Fr.belowM S7.out.be fR (Nat.le_refl _) (Array.getElem?_eq_some_iff.1 S7.out.rb).1)
          have DD : Hid (IsB (set12 u7 w.heap.size (.int .i64 i1) (.int .i64 i2) (.int .i64 i3) (.int .i64 i4) (.int .i64 i5) (.int .i64 i6) (.int .i64 i7) (.int .i64 i8) (.bool b9) (.int .i64 ia) (.slice da dn dc) (.slice a' k c')) (.slice da dn dc) d) := Lib.hid (D7.out.kept8 fR no8R)
          have EE : Hid (EsS (set12 u7 w.heap.size (.int .i64 i1) (.int .i64 i2) (.int .i64 i3) (.int .i64 i4) (.int .i64 i5) (.int .i64 i6) (.int .i64 i7) (.int .i64 i8) (.bool b9) (.int .i64 ia) (.slice da dn dc) (.slice a' k c')) (.slice a' k c') ys) := Lib.hid ((O7.out.kept fR no8R (fun b hb e => by have := Hox.out b hb; have := HPM.out; have := HNP.out; have := HNs.out; omega)).esS)
          clear fR no8R M7 S7 D7 O7
          generalize hWf : (((((((((((u7.setCell ⟨w.heap.size, 0, none⟩ (.int .i64 i1)).setCell ⟨w.heap.size, 1, none⟩ (.int .i64 i2)).setCell ⟨w.heap.size, 2, none⟩ (.int .i64 i3)).setCell ⟨w.heap.size, 3, none⟩ (.int .i64 i4)).setCell ⟨w.heap.size, 4, none⟩ (.int .i64 i5)).setCell ⟨w.heap.size, 5, none⟩ (.int .i64 i6)).setCell ⟨w.heap.size, 6, none⟩ (.int .i64 i7)).setCell ⟨w.heap.size, 7, none⟩ (.int .i64 i8)).setCell ⟨w.heap.size, 8, none⟩ (.bool b9)).setCell ⟨w.heap.size, 9, none⟩ (.int .i64 ia)).setCell ⟨w.heap.size, 10, none⟩ (.slice da dn dc)).setCell ⟨w.heap.size, 11, none⟩ (.slice a' k c') = W' at *
          have hWf' : W' = set12 u7 w.heap.size (.int .i64 i1) (.int .i64 i2) (.int .i64 i3) (.int .i64 i4) (.int .i64 i5) (.int .i64 i6) (.int .i64 i7) (.int .i64 i8) (.bool b9) (.int .i64 ia) (.slice da dn dc) (.slice a' k c') := hWf.symm
          rw [← hWf'] at FBd BBd DD EE
          obtain ⟨⟨e0, e1, e2, e3, e4, e5, e6, e7, e8, e9, ea', eb⟩, _⟩ := FBd.out
          refine bodyPost_ret (v := .tuple #[.agg #[.int .i64 i1, .int .i64 i2, .int .i64 i3, .int .i64 i4, .int .i64 i5, .int .i64 i6, .int .i64 i7, .int .i64 i8, .bool b9, .int .i64 ia, .slice da dn dc, .slice a' k c'], .nilIface]) (by simp [results, Tryz.results11, go_sem, e0, e1, e2, e3, e4, e5, e6, e7, e8, e9, ea', eb]) rfl ?_
          exact ⟨.inr ⟨y, by rw [Hy.out]; rfl, by rw [Hy.out]; exact ⟨HDN.out, DD.out, EE.out⟩, Hres.out⟩, BBd.out⟩
        · have Hres : Hid (RES = none) := Lib.hid (by rw [hH2, if_pos hmay])
          rw [decide_eq_false hmay] at HMay
          clear hmay hH2
          generalize ((v1 : Nat) : Int) = i1 at *
          generalize ((v2 : Nat) : Int) = i2 at *
          generalize ((v3 : Nat) : Int) = i3 at *
          generalize ((v4 : Nat) : Int) = i4 at *
          generalize ((v5 : Nat) : Int) = i5 at *
          generalize ((v6 : Nat) : Int) = i6 at *
          generalize ((v7 : Nat) : Int) = i7 at *
          generalize ((v8 : Nat) : Int) = i8 at *
          generalize ((va : Nat) : Int) = ia at *
          go_wp2_with fail
          refine HDN2.out.mono ?_
          rintro e u6 ⟨rfl, hu⟩
          subst hu
          simp only [errV]
          clear HDN2
          go_wp2_with fail
          refine HMay.out.mono ?_
          rintro e u7 ⟨rfl, b⟩
          have S7 := Lib.hid (Sx.out.below b)
          clear q0 q1 q2 q3 q4 q5 q6 q7 q8 q9 qa qb b Mx Rx Ox Dx Sx HMay pc
          obtain ⟨⟨z0, z1, z2, z3, z4, z5, z6, z7, z8, z9, za, zb⟩, zf⟩ := cells12 S7.out.rb
          go_wp2
          clear z0 z1 z2 z3 z4 z5 z6 z7 z8 z9 za zb zf
          have FBd := Lib.hid (cells12 (stored12 S7.out.rb (.int .i64 0) (.int .i64 0) (.int .i64 0) (.int .i64 0) (.int .i64 0) (.int .i64 0) (.int .i64 0) (.int .i64 0) (.bool false) (.int .i64 0) (.slice none 0 0) (.slice none 0 0)))
          have BBd : Hid (Below w.heap.size w (set12 u7 w.heap.size (.int .i64 0) (.int .i64 0) (.int .i64 0) (.int .i64 0) (.int .i64 0) (.int .i64 0) (.int .i64 0) (.int .i64 0) (.bool false) (.int .i64 0) (.slice none 0 0) (.slice none 0 0))) := Lib.hid (Fr.belowM S7.out.be (set12_fr u7 _ (.int .i64 0) (.int .i64 0) (.int .i64 0) (.int .i64 0) (.int .i64 0) (.int .i64 0) (.int .i64 0) (.int .i64 0) (.bool false) (.int .i64 0) (.slice none 0 0) (.slice none 0 0)) (Nat.le_refl _) (Array.getElem?_eq_some_iff.1 S7.out.rb).1)
          generalize hWf : (((((((((((u7.setCell ⟨w.heap.size, 0, none⟩ (.int .i64 0)).setCell ⟨w.heap.size, 1, none⟩ (.int .i64 0)).setCell ⟨w.heap.size, 2, none⟩ (.int .i64 0)).setCell ⟨w.heap.size, 3, none⟩ (.int .i64 0)).setCell ⟨w.heap.size, 4, none⟩ (.int .i64 0)).setCell ⟨w.heap.size, 5, none⟩ (.int .i64 0)).setCell ⟨w.heap.size, 6, none⟩ (.int .i64 0)).setCell ⟨w.heap.size, 7, none⟩ (.int .i64 0)).setCell ⟨w.heap.size, 8, none⟩ (.bool false)).setCell ⟨w.heap.size, 9, none⟩ (.int .i64 0)).setCell ⟨w.heap.size, 10, none⟩ (.slice none 0 0)).setCell ⟨w.heap.size, 11, none⟩ (.slice none 0 0) = W' at *
          have hWf' : W' = set12 u7 w.heap.size (.int .i64 0) (.int .i64 0) (.int .i64 0) (.int .i64 0) (.int .i64 0) (.int .i64 0) (.int .i64 0) (.int .i64 0) (.bool false) (.int .i64 0) (.slice none 0 0) (.slice none 0 0) := hWf.symm
          rw [← hWf'] at FBd BBd
          obtain ⟨⟨e0, e1, e2, e3, e4, e5, e6, e7, e8, e9, ea', eb⟩, _⟩ := FBd.out
          refine bodyPost_ret (v := .tuple #[zeroM, .iface 60 (.int .i64 3)]) (by simp [results, Tryz.results11, go_sem, e0, e1, e2, e3, e4, e5, e6, e7, e8, e9, ea', eb, zeroM]) rfl ?_
          exact ⟨.inl ⟨Hres.out, rfl⟩, BBd.out⟩
end Go.Proofs.YtbgockggbpmhnaaGreatDoor
