/-
  The document's Decode of a tree, by a contract.
  Conditions: the parameter reads as bytes and is at most 2^47 bytes long.
-/
import Derived.Test.YtkanjdijmdjbaaaGreatDoorTakeR
namespace Go.Proofs.YtkanjdijmdjbaaaGreatDoor
open Go Go.RowKit

/-- All that Decode asks. -/
def QT.goodB (N : List QT.Nd) (U : List QT.Us) : Bool := (QT.okV N U).1 && QT.rootedB N && QT.fitsB N U && QT.holdsB N U
/-- The tree of bytes. -/
def QT.decT (l : List UInt8) : Option (List QT.Nd × List QT.Us) :=
  if (QT.takeT l 0).2.2.2 = 0 ∧ (QT.takeT l 0).2.2.1 = [] ∧ QT.goodB (QT.takeT l 0).1 (QT.takeT l 0).2.1 = true then some ((QT.takeT l 0).1, (QT.takeT l 0).2.1) else none
theorem QT.decT_err {l : List UInt8} (h : (QT.takeT l 0).2.2.2 ≠ 0) : QT.decT l = none := if_neg (fun e => h e.1)
theorem QT.decT_at {l l' : List UInt8} {N : List QT.Nd} {U : List QT.Us} (h : QT.takeT l 0 = (N, U, l', 0)) : QT.decT l = if l' = [] ∧ QT.goodB N U = true then some (N, U) else none := by
  unfold QT.decT
  rw [h]
  simp
theorem QT.take_small {l l' : List UInt8} {k : Nat} {N : List QT.Nd} {U : List QT.Us} (h : QT.takeT l 0 = (N, U, l', k)) : N.length ≤ 256 ∧ U.length ≤ 1024 ∧ (∀ x ∈ N, QT.fineNd x) ∧ ∀ x ∈ U, QT.fineUs x := by
  unfold QT.takeT at h
  simp only [Prod.mk.injEq] at h
  obtain ⟨rfl, rfl, _, _⟩ := h
  exact ⟨by rw [QT.readL_length]; exact QT.count_cap 256 _ _, by rw [QT.readL_length]; exact QT.count_cap 1024 _ _, QT.readL_all (fun l k => QT.fine_readNd l k) _ _ _, QT.readL_all (fun l k => QT.fine_readUs l k) _ _ _⟩
def DecT (w w' : World) (v : Ending) (r : Option (List QT.Nd × List QT.Us)) : Prop :=
  (match r with
  | none => v = .returned (.tuple #[.agg #[.slice none 0 0, .slice none 0 0], .int .i64 3])
  | some (N, U) => ∃ (a0 : Option Addr) (n0 c0 : Nat) (a : Option Addr) (n c : Nat), v = .returned (.tuple #[.agg #[.slice a0 n0 c0, .slice a n c], .int .i64 0]) ∧ RdsNd w' (.slice a0 n0 c0) N ∧ RdsUs w' (.slice a n c) U) ∧ Below w.heap.size w w'
theorem valsNd_noslice (x : QT.Nd) (a : Option Addr) (n c : Nat) (h : Value.slice a n c ∈ valsNd x) : False := by simp [valsNd] at h
theorem valsUs_noslice (x : QT.Us) (a : Option Addr) (n c : Nat) (h : Value.slice a n c ∈ valsUs x) : False := by simp [valsUs] at h
theorem RdsNd.kept8 {X : Nat → Prop} {w w' : World} {v : Value} {N : List QT.Nd} (h : RdsNd w v N) (f : Fr X w w') (hx : ∀ q, X q → ∀ (j : Nat) (x : QT.Nd) (u : Value), u ∈ valsNd x → w.cell? ⟨q, j, none⟩ = some u → False) : RdsNd w' v N := by
  obtain ⟨a, cap, rfl, h1, h2, h3⟩ := h
  refine ⟨a, cap, rfl, h1, h2, ?_⟩
  rcases h3 with h3 | ⟨b, o, rfl, hc⟩
  · exact .inl h3
  · exact .inr ⟨b, o, rfl, fun i x hi j u hu => f.cell (hc i x hi j u hu) (fun q => hx b q _ x _ (List.mem_of_getElem? hu) (hc i x hi j u hu))⟩
theorem RdsUs.kept8 {X : Nat → Prop} {w w' : World} {v : Value} {N : List QT.Us} (h : RdsUs w v N) (f : Fr X w w') (hx : ∀ q, X q → ∀ (j : Nat) (x : QT.Us) (u : Value), u ∈ valsUs x → w.cell? ⟨q, j, none⟩ = some u → False) : RdsUs w' v N := by
  obtain ⟨a, cap, rfl, h1, h2, h3⟩ := h
  refine ⟨a, cap, rfl, h1, h2, ?_⟩
  rcases h3 with h3 | ⟨b, o, rfl, hc⟩
  · exact .inl h3
  · exact .inr ⟨b, o, rfl, fun i x hi j u hu => f.cell (hc i x hi j u hu) (fun q => hx b q _ x _ (List.mem_of_getElem? hu) (hc i x hi j u hu))⟩
set_option maxRecDepth 100000 in
set_option maxHeartbeats 16000000 in
theorem rdecT_any (a : Option Addr) (c : Nat) (l : List UInt8) (w : World) (hv : IsB w (.slice a l.length c) l) (hl47 : l.length ≤ roomB) :
    Calls Tryz.prog 23 #[.slice a l.length c] w fun v w' => DecT w w' v (QT.decT l) := by
  obtain ⟨W, hW⟩ : ∃ W, W = w.alloc (.cells #[.slice none 0 0, .slice none 0 0] 32) := ⟨_, rfl⟩
  have bW : Below w.heap.size w W := by rw [hW]; exact (Below.refl _ _).alloc (Nat.le_refl _) _
  have gW : W.heap[w.heap.size]? = some (.cells #[.slice none 0 0, .slice none 0 0] 32) := by rw [hW]; exact heap_alloc_new _ _
  have HT := Lib.hid (rtakeT_any a l.length c l 0 W rfl (hv.below (by rw [hW]; exact (Below.refl _ _).alloc (Nat.le_refl _) _)) hl47)
  clear hv hl47
  generalize l.length = m at *
  go_enter Tryz.func23, Tryz.ntmps23
  go_wp2_with fail
  rw [← hW]
  refine HT.out.mono ?_
  rintro e w1 ⟨⟨a1, n1, c1, l1, k1, vN, N, vU, U, ok, rfl, hn1, rN, rU, hk, hq⟩, b1⟩
  obtain ⟨aN, cN, eN, _, _, _⟩ := id rN
  subst eN
  obtain ⟨aU, cU, eU, _, _, _⟩ := id rU
  subst eU
  subst hn1
  have b0 : Below w.heap.size w w1 := bW.trans (b1.mono bW.size)
  have g0 := (b1.block _ (Array.getElem?_eq_some_iff.1 gW).1).trans gW
  obtain ⟨V, hV⟩ : ∃ V, V = (w1.alloc (.cells #[.slice a1 l1.length c1, .int .i64 k1] 80)).alloc (.cells #[.slice aN N.length cN, .slice aU U.length cU] 32) := ⟨_, rfl⟩
  have hwV : Below w1.heap.size w1 V := by rw [hV]; exact ((Below.refl _ _).alloc (Nat.le_refl _) _).alloc (by simp) _
  have gV : V.heap[w.heap.size]? = some (.cells #[.slice none 0 0, .slice none 0 0] 32) := (hwV.block _ (Array.getElem?_eq_some_iff.1 g0).1).trans g0
  have gT : V.heap[w1.heap.size + 1]? = some (.cells #[.slice aN N.length cN, .slice aU U.length cU] 32) := by
    rw [hV]
    have := heap_alloc_new (w1.alloc (.cells #[.slice a1 l1.length c1, .int .i64 k1] 80)) (.cells #[.slice aN N.length cN, .slice aU U.length cU] 32)
    simpa using this
  have bV := b0.trans (hwV.mono b0.size)
  have rV := rN.below hwV
  have uV := rU.below hwV
  have kT : Hid (∀ X, Below V.heap.size V X → X.heap[w.heap.size]? = some (.cells #[.slice none 0 0, .slice none 0 0] 32) ∧ X.heap[w1.heap.size + 1]? = some (.cells #[.slice aN N.length cN, .slice aU U.length cU] 32) ∧ Below w.heap.size w X ∧ RdsNd X (.slice aN N.length cN) N ∧ RdsUs X (.slice aU U.length cU) U) := Lib.hid (fun X b =>
    ⟨(b.block _ (Array.getElem?_eq_some_iff.1 gV).1).trans gV, (b.block _ (Array.getElem?_eq_some_iff.1 gT).1).trans gT, bV.trans (b.mono bV.size), rV.below b, uV.below b⟩)
  have noB : ∀ X, Below V.heap.size V X → ∀ j u, X.cell? ⟨w.heap.size, j, none⟩ = some u → u = .slice none 0 0 := fun X b j u e => by
    simp only [World.cell?, (kT.out X b).1] at e
    rcases j with _ | _ | j <;> simp at e <;> exact e.symm
  have kz : Hid (∀ X, Below V.heap.size V X → RdsNd ((X.setCell ⟨w.heap.size, 0, none⟩ (.slice aN N.length cN)).setCell ⟨w.heap.size, 1, none⟩ (.slice aU U.length cU)) (.slice aN N.length cN) N) := Lib.hid (fun X b =>
    (kT.out X b).2.2.2.1.kept8 (X := fun j => j = w.heap.size) (Fr.setCell (X := fun j => j = w.heap.size) (Fr.setCell (X := fun j => j = w.heap.size) (Fr.refl _ _) (fun _ => rfl) _) (fun _ => rfl) _) (fun q hq j x u hx e => by
      subst hq
      have := noB X b j _ e
      rw [this] at hx
      exact valsNd_noslice x _ _ _ hx))
  have ku : Hid (∀ X, Below V.heap.size V X → RdsUs ((X.setCell ⟨w.heap.size, 0, none⟩ (.slice aN N.length cN)).setCell ⟨w.heap.size, 1, none⟩ (.slice aU U.length cU)) (.slice aU U.length cU) U) := Lib.hid (fun X b =>
    (kT.out X b).2.2.2.2.kept8 (X := fun j => j = w.heap.size) (Fr.setCell (X := fun j => j = w.heap.size) (Fr.setCell (X := fun j => j = w.heap.size) (Fr.refl _ _) (fun _ => rfl) _) (fun _ => rfl) _) (fun q hq j x u hx e => by
      subst hq
      have := noB X b j _ e
      rw [this] at hx
      exact valsUs_noslice x _ _ _ hx))
  have bW0 : Below V.heap.size V V := Below.refl _ _
  clear noB b0 g0 hwV gV gT bV rV uV bW0 bW gW hW HT b1 rN rU
  by_cases hk1 : k1 = 0
  · have hT := (hq hk1).1
    have hok := (hq hk1).2
    have hd := QT.decT_at hT
    obtain ⟨sN, sU, fN, fU⟩ := QT.take_small hT
    have HRo := Lib.hid (fun (X : World) (b : Below V.heap.size V X) => rrooted_any aN N.length cN (.slice aU U.length cU) N X (kT.out X b).2.2.2.1 (by omega))
    have HFi := Lib.hid (fun (X : World) (b : Below V.heap.size V X) => rfits_any aN N.length cN aU U.length cU N U X (kT.out X b).2.2.2.1 (kT.out X b).2.2.2.2 sN sU (fun x hx => ⟨(fN x hx).2.1, (fN x hx).2.2.1⟩) (fun x hx => (fU x hx).2))
    have HHo := Lib.hid (fun (hf : QT.fitsB N U = true) (X : World) (b : Below V.heap.size V X) => rholds_any aN N.length cN aU U.length cU N U X (kT.out X b).2.2.2.1 (kT.out X b).2.2.2.2 sN sU (fun x hx => (fN x hx).2) (fun x hx => (fU x hx).2) hf)
    have HD := Lib.hid (rdone_any a1 c1 k1 l1 V)
    by_cases hl1 : l1 = []
    · rw [show PK.doneP l1 k1 = 0 from by unfold PK.doneP; rw [if_neg (fun e => e.2 hl1), hk1]] at HD
      obtain ⟨g1, e1⟩ : ∃ b, b = (QT.okV N U).1 := ⟨_, rfl⟩
      obtain ⟨g2, e2⟩ : ∃ b, b = QT.rootedB N := ⟨_, rfl⟩
      obtain ⟨g3, e3⟩ : ∃ b, b = QT.fitsB N U := ⟨_, rfl⟩
      obtain ⟨g4, e4⟩ : ∃ b, b = QT.holdsB N U := ⟨_, rfl⟩
      have hgood : QT.goodB N U = (g1 && g2 && g3 && g4) := by unfold QT.goodB; rw [e1, e2, e3, e4]
      rw [hgood] at hd
      rw [← e1] at hok
      rw [← e2] at HRo
      rw [← e3] at HFi HHo
      rw [← e4] at HHo
      have HL1 := Lib.hid hl1
      have Hd := Lib.hid hd
      have hno : Hid ((g1 && g2 && g3 && g4) = false → QT.decT l = none) := Lib.hid (fun e => by rw [Hd.out, if_neg (fun q => by rw [e] at q; exact Bool.noConfusion q.2)])
      have hyes : Hid ((g1 && g2 && g3 && g4) = true → QT.decT l = some (N, U)) := Lib.hid (fun e => by rw [Hd.out, if_pos ⟨HL1.out, e⟩])
      subst hok
      clear hq hk hk1 hT hd sN sU fN fU hl1 e1 e2 e3 e4 hgood Hd HL1
      cases hg1 : ok with
      | false =>
        have hw := Lib.hid (hno.out (by rw [hg1]; rfl))
        subst hg1
        go_wp2_with fail
        rw [← hV]
        refine HD.out.mono ?_
        rintro e V1 ⟨rfl, b1⟩
        have bV1 := Lib.hid b1
        clear b1 HD hV
        obtain ⟨s0, s1, _, _⟩ := cells2 (kT.out V1 bV1.out).2.1
        clear HRo HFi HHo hno hyes
        have kx := kT.out V1 bV1.out
        obtain ⟨p0, p1, p2, p3⟩ := cells2 kx.1
        obtain ⟨t0, t1, _, _⟩ := cells2 kx.2.1
        have gz := stored2 kx.1 (.slice none 0 0) (.slice none 0 0)
        have fz : Fr (fun j => j = w.heap.size) V1 ((V1.setCell ⟨w.heap.size, 0, none⟩ (.slice none 0 0)).setCell ⟨w.heap.size, 1, none⟩ (.slice none 0 0)) := Fr.setCell (X := fun j => j = w.heap.size) (Fr.setCell (X := fun j => j = w.heap.size) (Fr.refl _ _) (fun _ => rfl) _) (fun _ => rfl) _
        have bz : Below w.heap.size w ((V1.setCell ⟨w.heap.size, 0, none⟩ (.slice none 0 0)).setCell ⟨w.heap.size, 1, none⟩ (.slice none 0 0)) := kx.2.2.1.trans ⟨fz.os, fz.tape, fz.output, fz.size, fun q hq => fz.block q (Nat.lt_of_lt_of_le hq kx.2.2.1.size) (by omega)⟩
        have rz := kx.2.2.2.1
        have uz := kx.2.2.2.2
        obtain ⟨Z, hZ⟩ : ∃ Z, Z = ((V1.setCell ⟨w.heap.size, 0, none⟩ (.slice none 0 0)).setCell ⟨w.heap.size, 1, none⟩ (.slice none 0 0)) := ⟨_, rfl⟩
        rw [← hZ] at gz bz
        have Fin : Hid (DecT w Z (.returned (.tuple #[.agg #[.slice none 0 0, .slice none 0 0], .int .i64 3])) (QT.decT l)) := Lib.hid (by rw [hw.out]; exact ⟨rfl, bz⟩)
        have EW := Lib.hid (cells2 gz)
        have HZ : Hid (((V1.setCell ⟨w.heap.size, 0, none⟩ (.slice none 0 0)).setCell ⟨w.heap.size, 1, none⟩ (.slice none 0 0)) = Z) := hZ.symm
        clear kx gz fz bz rz uz hZ kT kz ku
        go_wp2_with (rw [HZ.out]; obtain ⟨e0, e1, _⟩ := EW.out; refine bodyPost_ret (v := .tuple #[.agg #[.slice none 0 0, .slice none 0 0], .int .i64 3]) (by simp [results, Tryz.results23, go_sem, e0, e1]) rfl ?_; exact Fin.out)
      | true =>
        subst hg1
        go_wp2_with fail
        rw [← hV]
        refine HD.out.mono ?_
        rintro e V1 ⟨rfl, b1⟩
        have bV1 := Lib.hid b1
        clear b1 HD hV
        obtain ⟨s0, s1, _, _⟩ := cells2 (kT.out V1 bV1.out).2.1
        cases g2 with
        | false =>
          have hw := Lib.hid (hno.out rfl)
          clear HFi HHo hno hyes
          go_wp2_with fail
          refine (HRo.out V1 bV1.out).mono ?_
          rintro e V2 ⟨rfl, b2⟩
          have bV2 := Lib.hid (bV1.out.trans (b2.mono bV1.out.size))
          clear b2 HRo s0 s1
          obtain ⟨s0, s1, _, _⟩ := cells2 (kT.out V2 bV2.out).2.1
          have kx := kT.out V2 bV2.out
          obtain ⟨p0, p1, p2, p3⟩ := cells2 kx.1
          obtain ⟨t0, t1, _, _⟩ := cells2 kx.2.1
          have gz := stored2 kx.1 (.slice none 0 0) (.slice none 0 0)
          have fz : Fr (fun j => j = w.heap.size) V2 ((V2.setCell ⟨w.heap.size, 0, none⟩ (.slice none 0 0)).setCell ⟨w.heap.size, 1, none⟩ (.slice none 0 0)) := Fr.setCell (X := fun j => j = w.heap.size) (Fr.setCell (X := fun j => j = w.heap.size) (Fr.refl _ _) (fun _ => rfl) _) (fun _ => rfl) _
          have bz : Below w.heap.size w ((V2.setCell ⟨w.heap.size, 0, none⟩ (.slice none 0 0)).setCell ⟨w.heap.size, 1, none⟩ (.slice none 0 0)) := kx.2.2.1.trans ⟨fz.os, fz.tape, fz.output, fz.size, fun q hq => fz.block q (Nat.lt_of_lt_of_le hq kx.2.2.1.size) (by omega)⟩
          have rz := kx.2.2.2.1
          have uz := kx.2.2.2.2
          obtain ⟨Z, hZ⟩ : ∃ Z, Z = ((V2.setCell ⟨w.heap.size, 0, none⟩ (.slice none 0 0)).setCell ⟨w.heap.size, 1, none⟩ (.slice none 0 0)) := ⟨_, rfl⟩
          rw [← hZ] at gz bz
          have Fin : Hid (DecT w Z (.returned (.tuple #[.agg #[.slice none 0 0, .slice none 0 0], .int .i64 3])) (QT.decT l)) := Lib.hid (by rw [hw.out]; exact ⟨rfl, bz⟩)
          have EW := Lib.hid (cells2 gz)
          have HZ : Hid (((V2.setCell ⟨w.heap.size, 0, none⟩ (.slice none 0 0)).setCell ⟨w.heap.size, 1, none⟩ (.slice none 0 0)) = Z) := hZ.symm
          clear kx gz fz bz rz uz hZ kT kz ku
          go_wp2_with (rw [HZ.out]; obtain ⟨e0, e1, _⟩ := EW.out; refine bodyPost_ret (v := .tuple #[.agg #[.slice none 0 0, .slice none 0 0], .int .i64 3]) (by simp [results, Tryz.results23, go_sem, e0, e1]) rfl ?_; exact Fin.out)
        | true =>
          go_wp2_with fail
          refine (HRo.out V1 bV1.out).mono ?_
          rintro e V2 ⟨rfl, b2⟩
          have bV2 := Lib.hid (bV1.out.trans (b2.mono bV1.out.size))
          clear b2 HRo s0 s1
          obtain ⟨s0, s1, _, _⟩ := cells2 (kT.out V2 bV2.out).2.1
          cases g3 with
          | false =>
            have hw := Lib.hid (hno.out rfl)
            clear HHo hno hyes
            go_wp2_with fail
            refine (HFi.out V2 bV2.out).mono ?_
            rintro e V3 ⟨rfl, b3⟩
            have bV3 := Lib.hid (bV2.out.trans (b3.mono bV2.out.size))
            clear b3 HFi s0 s1
            obtain ⟨s0, s1, _, _⟩ := cells2 (kT.out V3 bV3.out).2.1
            have kx := kT.out V3 bV3.out
            obtain ⟨p0, p1, p2, p3⟩ := cells2 kx.1
            obtain ⟨t0, t1, _, _⟩ := cells2 kx.2.1
            have gz := stored2 kx.1 (.slice none 0 0) (.slice none 0 0)
            have fz : Fr (fun j => j = w.heap.size) V3 ((V3.setCell ⟨w.heap.size, 0, none⟩ (.slice none 0 0)).setCell ⟨w.heap.size, 1, none⟩ (.slice none 0 0)) := Fr.setCell (X := fun j => j = w.heap.size) (Fr.setCell (X := fun j => j = w.heap.size) (Fr.refl _ _) (fun _ => rfl) _) (fun _ => rfl) _
            have bz : Below w.heap.size w ((V3.setCell ⟨w.heap.size, 0, none⟩ (.slice none 0 0)).setCell ⟨w.heap.size, 1, none⟩ (.slice none 0 0)) := kx.2.2.1.trans ⟨fz.os, fz.tape, fz.output, fz.size, fun q hq => fz.block q (Nat.lt_of_lt_of_le hq kx.2.2.1.size) (by omega)⟩
            have rz := kx.2.2.2.1
            have uz := kx.2.2.2.2
            obtain ⟨Z, hZ⟩ : ∃ Z, Z = ((V3.setCell ⟨w.heap.size, 0, none⟩ (.slice none 0 0)).setCell ⟨w.heap.size, 1, none⟩ (.slice none 0 0)) := ⟨_, rfl⟩
            rw [← hZ] at gz bz
            have Fin : Hid (DecT w Z (.returned (.tuple #[.agg #[.slice none 0 0, .slice none 0 0], .int .i64 3])) (QT.decT l)) := Lib.hid (by rw [hw.out]; exact ⟨rfl, bz⟩)
            have EW := Lib.hid (cells2 gz)
            have HZ : Hid (((V3.setCell ⟨w.heap.size, 0, none⟩ (.slice none 0 0)).setCell ⟨w.heap.size, 1, none⟩ (.slice none 0 0)) = Z) := hZ.symm
            clear kx gz fz bz rz uz hZ kT kz ku
            go_wp2_with (rw [HZ.out]; obtain ⟨e0, e1, _⟩ := EW.out; refine bodyPost_ret (v := .tuple #[.agg #[.slice none 0 0, .slice none 0 0], .int .i64 3]) (by simp [results, Tryz.results23, go_sem, e0, e1]) rfl ?_; exact Fin.out)
          | true =>
            replace HHo := Lib.hid (HHo.out rfl)
            go_wp2_with fail
            refine (HFi.out V2 bV2.out).mono ?_
            rintro e V3 ⟨rfl, b3⟩
            have bV3 := Lib.hid (bV2.out.trans (b3.mono bV2.out.size))
            clear b3 HFi s0 s1
            obtain ⟨s0, s1, _, _⟩ := cells2 (kT.out V3 bV3.out).2.1
            cases g4 with
            | false =>
              have hw := Lib.hid (hno.out rfl)
              clear hno hyes
              go_wp2_with fail
              refine (HHo.out V3 bV3.out).mono ?_
              rintro e V4 ⟨rfl, b4⟩
              have bV4 := Lib.hid (bV3.out.trans (b4.mono bV3.out.size))
              clear b4 HHo s0 s1
              obtain ⟨s0, s1, _, _⟩ := cells2 (kT.out V4 bV4.out).2.1
              have kx := kT.out V4 bV4.out
              obtain ⟨p0, p1, p2, p3⟩ := cells2 kx.1
              obtain ⟨t0, t1, _, _⟩ := cells2 kx.2.1
              have gz := stored2 kx.1 (.slice none 0 0) (.slice none 0 0)
              have fz : Fr (fun j => j = w.heap.size) V4 ((V4.setCell ⟨w.heap.size, 0, none⟩ (.slice none 0 0)).setCell ⟨w.heap.size, 1, none⟩ (.slice none 0 0)) := Fr.setCell (X := fun j => j = w.heap.size) (Fr.setCell (X := fun j => j = w.heap.size) (Fr.refl _ _) (fun _ => rfl) _) (fun _ => rfl) _
              have bz : Below w.heap.size w ((V4.setCell ⟨w.heap.size, 0, none⟩ (.slice none 0 0)).setCell ⟨w.heap.size, 1, none⟩ (.slice none 0 0)) := kx.2.2.1.trans ⟨fz.os, fz.tape, fz.output, fz.size, fun q hq => fz.block q (Nat.lt_of_lt_of_le hq kx.2.2.1.size) (by omega)⟩
              have rz := kx.2.2.2.1
              have uz := kx.2.2.2.2
              obtain ⟨Z, hZ⟩ : ∃ Z, Z = ((V4.setCell ⟨w.heap.size, 0, none⟩ (.slice none 0 0)).setCell ⟨w.heap.size, 1, none⟩ (.slice none 0 0)) := ⟨_, rfl⟩
              rw [← hZ] at gz bz
              have Fin : Hid (DecT w Z (.returned (.tuple #[.agg #[.slice none 0 0, .slice none 0 0], .int .i64 3])) (QT.decT l)) := Lib.hid (by rw [hw.out]; exact ⟨rfl, bz⟩)
              have EW := Lib.hid (cells2 gz)
              have HZ : Hid (((V4.setCell ⟨w.heap.size, 0, none⟩ (.slice none 0 0)).setCell ⟨w.heap.size, 1, none⟩ (.slice none 0 0)) = Z) := hZ.symm
              clear kx gz fz bz rz uz hZ kT kz ku
              go_wp2_with (rw [HZ.out]; obtain ⟨e0, e1, _⟩ := EW.out; refine bodyPost_ret (v := .tuple #[.agg #[.slice none 0 0, .slice none 0 0], .int .i64 3]) (by simp [results, Tryz.results23, go_sem, e0, e1]) rfl ?_; exact Fin.out)
            | true =>
              have hw := Lib.hid (hyes.out rfl)
              clear hno hyes
              go_wp2_with fail
              refine (HHo.out V3 bV3.out).mono ?_
              rintro e V4 ⟨rfl, b4⟩
              have bV4 := Lib.hid (bV3.out.trans (b4.mono bV3.out.size))
              clear b4 HHo s0 s1
              obtain ⟨s0, s1, _, _⟩ := cells2 (kT.out V4 bV4.out).2.1
              have kx := kT.out V4 bV4.out
              obtain ⟨p0, p1, p2, p3⟩ := cells2 kx.1
              obtain ⟨t0, t1, _, _⟩ := cells2 kx.2.1
              have gz := stored2 kx.1 (.slice aN N.length cN) (.slice aU U.length cU)
              have fz : Fr (fun j => j = w.heap.size) V4 ((V4.setCell ⟨w.heap.size, 0, none⟩ (.slice aN N.length cN)).setCell ⟨w.heap.size, 1, none⟩ (.slice aU U.length cU)) := Fr.setCell (X := fun j => j = w.heap.size) (Fr.setCell (X := fun j => j = w.heap.size) (Fr.refl _ _) (fun _ => rfl) _) (fun _ => rfl) _
              have bz : Below w.heap.size w ((V4.setCell ⟨w.heap.size, 0, none⟩ (.slice aN N.length cN)).setCell ⟨w.heap.size, 1, none⟩ (.slice aU U.length cU)) := kx.2.2.1.trans ⟨fz.os, fz.tape, fz.output, fz.size, fun q hq => fz.block q (Nat.lt_of_lt_of_le hq kx.2.2.1.size) (by omega)⟩
              have rz := kx.2.2.2.1
              have uz := kx.2.2.2.2
              obtain ⟨Z, hZ⟩ : ∃ Z, Z = ((V4.setCell ⟨w.heap.size, 0, none⟩ (.slice aN N.length cN)).setCell ⟨w.heap.size, 1, none⟩ (.slice aU U.length cU)) := ⟨_, rfl⟩
              rw [← hZ] at gz bz
              replace rz : RdsNd Z (.slice aN N.length cN) N := by
                rw [hZ]
                exact kz.out V4 bV4.out
              replace uz : RdsUs Z (.slice aU U.length cU) U := by
                rw [hZ]
                exact ku.out V4 bV4.out
              have Fin : Hid (DecT w Z (.returned (.tuple #[.agg #[.slice aN N.length cN, .slice aU U.length cU], .int .i64 0])) (QT.decT l)) := Lib.hid (by rw [hw.out]; exact ⟨⟨aN, N.length, cN, aU, U.length, cU, rfl, rz, uz⟩, bz⟩)
              have EW := Lib.hid (cells2 gz)
              have HZ : Hid (((V4.setCell ⟨w.heap.size, 0, none⟩ (.slice aN N.length cN)).setCell ⟨w.heap.size, 1, none⟩ (.slice aU U.length cU)) = Z) := hZ.symm
              clear kx gz fz bz rz uz hZ kT kz ku
              go_wp2_with (rw [HZ.out]; obtain ⟨e0, e1, _⟩ := EW.out; refine bodyPost_ret (v := .tuple #[.agg #[.slice aN N.length cN, .slice aU U.length cU], .int .i64 0]) (by simp [results, Tryz.results23, go_sem, e0, e1]) rfl ?_; exact Fin.out)
    · have hdn : PK.doneP l1 k1 = 3 := by unfold PK.doneP; rw [if_pos ⟨hk1, hl1⟩]
      rw [hdn] at HD
      have hw := Lib.hid (show QT.decT l = none from by rw [hd, if_neg (fun e => hl1 e.1)])
      clear hq hk hk1 hT hok hd sN sU fN fU hl1 hdn HRo HFi HHo
      go_wp2_with fail
      rw [← hV]
      refine HD.out.mono ?_
      rintro e V1 ⟨rfl, b1⟩
      have bV1 := Lib.hid b1
      clear b1 HD hV
      obtain ⟨s0, s1, _, _⟩ := cells2 (kT.out V1 bV1.out).2.1
      have kx := kT.out V1 bV1.out
      obtain ⟨p0, p1, p2, p3⟩ := cells2 kx.1
      obtain ⟨t0, t1, _, _⟩ := cells2 kx.2.1
      have gz := stored2 kx.1 (.slice none 0 0) (.slice none 0 0)
      have fz : Fr (fun j => j = w.heap.size) V1 ((V1.setCell ⟨w.heap.size, 0, none⟩ (.slice none 0 0)).setCell ⟨w.heap.size, 1, none⟩ (.slice none 0 0)) := Fr.setCell (X := fun j => j = w.heap.size) (Fr.setCell (X := fun j => j = w.heap.size) (Fr.refl _ _) (fun _ => rfl) _) (fun _ => rfl) _
      have bz : Below w.heap.size w ((V1.setCell ⟨w.heap.size, 0, none⟩ (.slice none 0 0)).setCell ⟨w.heap.size, 1, none⟩ (.slice none 0 0)) := kx.2.2.1.trans ⟨fz.os, fz.tape, fz.output, fz.size, fun q hq => fz.block q (Nat.lt_of_lt_of_le hq kx.2.2.1.size) (by omega)⟩
      have rz := kx.2.2.2.1
      have uz := kx.2.2.2.2
      obtain ⟨Z, hZ⟩ : ∃ Z, Z = ((V1.setCell ⟨w.heap.size, 0, none⟩ (.slice none 0 0)).setCell ⟨w.heap.size, 1, none⟩ (.slice none 0 0)) := ⟨_, rfl⟩
      rw [← hZ] at gz bz
      have Fin : Hid (DecT w Z (.returned (.tuple #[.agg #[.slice none 0 0, .slice none 0 0], .int .i64 3])) (QT.decT l)) := Lib.hid (by rw [hw.out]; exact ⟨rfl, bz⟩)
      have EW := Lib.hid (cells2 gz)
      have HZ : Hid (((V1.setCell ⟨w.heap.size, 0, none⟩ (.slice none 0 0)).setCell ⟨w.heap.size, 1, none⟩ (.slice none 0 0)) = Z) := hZ.symm
      clear kx gz fz bz rz uz hZ kT kz ku
      go_wp2_with (rw [HZ.out]; obtain ⟨e0, e1, _⟩ := EW.out; refine bodyPost_ret (v := .tuple #[.agg #[.slice none 0 0, .slice none 0 0], .int .i64 3]) (by simp [results, Tryz.results23, go_sem, e0, e1]) rfl ?_; exact Fin.out)
  · have hw := Lib.hid (QT.decT_err (l := l) (fun e => hk1 (hk.2 e)))
    have HD := Lib.hid (rdone_any a1 c1 k1 l1 V)
    have hdn : PK.doneP l1 k1 = k1 := by unfold PK.doneP; rw [if_neg (fun e => hk1 e.1)]
    rw [hdn] at HD
    have hk2 : ¬ (k1 : Int) = 0 := by omega
    clear hq hk hk1 hdn
    go_wp2_with fail
    rw [← hV]
    refine HD.out.mono ?_
    rintro e V1 ⟨rfl, b1⟩
    have bV1 := Lib.hid b1
    clear b1 HD hV
    obtain ⟨s0, s1, _, _⟩ := cells2 (kT.out V1 bV1.out).2.1
    have kx := kT.out V1 bV1.out
    obtain ⟨p0, p1, p2, p3⟩ := cells2 kx.1
    obtain ⟨t0, t1, _, _⟩ := cells2 kx.2.1
    have gz := stored2 kx.1 (.slice none 0 0) (.slice none 0 0)
    have fz : Fr (fun j => j = w.heap.size) V1 ((V1.setCell ⟨w.heap.size, 0, none⟩ (.slice none 0 0)).setCell ⟨w.heap.size, 1, none⟩ (.slice none 0 0)) := Fr.setCell (X := fun j => j = w.heap.size) (Fr.setCell (X := fun j => j = w.heap.size) (Fr.refl _ _) (fun _ => rfl) _) (fun _ => rfl) _
    have bz : Below w.heap.size w ((V1.setCell ⟨w.heap.size, 0, none⟩ (.slice none 0 0)).setCell ⟨w.heap.size, 1, none⟩ (.slice none 0 0)) := kx.2.2.1.trans ⟨fz.os, fz.tape, fz.output, fz.size, fun q hq => fz.block q (Nat.lt_of_lt_of_le hq kx.2.2.1.size) (by omega)⟩
    have rz := kx.2.2.2.1
    have uz := kx.2.2.2.2
    obtain ⟨Z, hZ⟩ : ∃ Z, Z = ((V1.setCell ⟨w.heap.size, 0, none⟩ (.slice none 0 0)).setCell ⟨w.heap.size, 1, none⟩ (.slice none 0 0)) := ⟨_, rfl⟩
    rw [← hZ] at gz bz
    have Fin : Hid (DecT w Z (.returned (.tuple #[.agg #[.slice none 0 0, .slice none 0 0], .int .i64 3])) (QT.decT l)) := Lib.hid (by rw [hw.out]; exact ⟨rfl, bz⟩)
    have EW := Lib.hid (cells2 gz)
    have HZ : Hid (((V1.setCell ⟨w.heap.size, 0, none⟩ (.slice none 0 0)).setCell ⟨w.heap.size, 1, none⟩ (.slice none 0 0)) = Z) := hZ.symm
    clear kx gz fz bz rz uz hZ kT kz ku
    go_wp2_with (rw [HZ.out]; obtain ⟨e0, e1, _⟩ := EW.out; refine bodyPost_ret (v := .tuple #[.agg #[.slice none 0 0, .slice none 0 0], .int .i64 3]) (by simp [results, Tryz.results23, go_sem, e0, e1]) rfl ?_; exact Fin.out)
end Go.Proofs.YtkanjdijmdjbaaaGreatDoor
