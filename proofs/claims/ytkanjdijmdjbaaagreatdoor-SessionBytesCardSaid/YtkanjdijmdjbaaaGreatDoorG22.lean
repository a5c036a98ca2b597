/-
  The program's table of bytes: session.Decode.
  Conditions: the listed variables read as listed ('Env'); the bytes read as such and are at most 2^47 many.
  The program's sessions' numbers, sorted: session.Table.Sessions.
  Conditions: the map holds the list's entries; their numbers rise.
  The program's Sessions of a table.
  Conditions: the table's map holds the list's entries; their numbers rise.
-/
import Derived.Test.YtkanjdijmdjbaaaGreatDoorG20
import Derived.Test.YtkanjdijmdjbaaaGreatDoorG19
import Derived.Test.YtkanjdijmdjbaaaGreatDoorDecP
import Derived.Test.YtkanjdijmdjbaaaGreatDoorG12
import Derived.Test.YtkanjdijmdjbaaaGreatDoorEncP
import Derived.Test.YtkanjdijmdjbaaaGreatDoorIterL
import Derived.Lib.SlKeysI
namespace Go.Proofs.YtkanjdijmdjbaaaGreatDoor
open Go Go.RowKit

/-- DECODE's MEMORY: the reader RM, the table TB, its map mb. -/
structure SsS (w v3 V : World) (RM TB mb : Nat) (tv : Value) (l : List UInt8) (k : Nat) (ok : Bool) (n : Nat) (L : List QT.Rw) : Prop where
  be : Below w.heap.size w V
  fr : Fr (fun j => j = RM) v3 V
  rd : Rd V RM l k
  tb : V.heap[TB]? = some (.cells #[tv, .map (some mb)] 69)
  mp : MapI ok V mb n (L.map QT.snOf)
  lr : l.length ≤ roomB
  d1 : TB ≠ RM ∧ mb ≠ RM ∧ TB ≠ mb
  d2 : w.heap.size ≤ RM ∧ v3.heap.size ≤ mb ∧ v3.heap.size ≤ TB ∧ w.heap.size ≤ v3.heap.size
section
variable {n n' : Nat} {w v3 V V' : World} {RM TB mb : Nat} {tv : Value} {l l' : List UInt8} {k k' : Nat} {ok ok' : Bool} {L L' : List QT.Rw}
theorem SsS.below (h : SsS w v3 V RM TB mb tv l k ok n L) (f : Below V.heap.size V V') : SsS w v3 V' RM TB mb tv l k ok n L :=
  ⟨h.be.trans (f.mono h.be.size), h.fr.trans (Fr.of_below f), h.rd.below' f, (f.block TB (Array.getElem?_eq_some_iff.1 h.tb).1).trans h.tb, h.mp.below f, h.lr, h.d1, h.d2⟩
theorem SsS.env (h : SsS w v3 V RM TB mb tv l k ok n L) (hE : Env w) : Env V := hE.wr h.be hE.big
/-- The reader turns (and new blocks). -/
theorem SsS.rdTo (h : SsS w v3 V RM TB mb tv l k ok n L) (f : Fr (fun j => j = RM) V V') (hr : Rd V' RM l' k') (hl : l'.length ≤ roomB) : SsS w v3 V' RM TB mb tv l' k' ok n L :=
  ⟨belowSet h.be f h.d2.1, h.fr.trans f, hr, f.heap h.tb h.d1.1, h.mp.kept f h.d1.2.1, hl, h.d1, h.d2⟩
theorem mapI_noByte {w : World} {b n : Nat} {ok : Bool} {L : List QT.Sn} (h : MapI ok w b n L) (j : Nat) (x : Int) : w.cell? ⟨b, j, none⟩ ≠ some (.int .u8 x) := by
  obtain ⟨D, ⟨es, clock, hb, _⟩, _⟩ := h
  simp [World.cell?, hb]
/-- The map turns. -/
theorem SsS.put (h : SsS w v3 V RM TB mb tv l k ok n L) (f : Fr (fun j => j = mb) V V') (hm : MapI ok' V' mb n' (L'.map QT.snOf)) : SsS w v3 V' RM TB mb tv l k ok' n' L' :=
  ⟨belowSet h.be f (by have := h.d2; omega),
   ⟨f.os.trans h.fr.os, f.tape.trans h.fr.tape, f.output.trans h.fr.output, Nat.le_trans h.fr.size f.size, fun q hq hx => (f.block q (Nat.lt_of_lt_of_le hq h.fr.size) (by have := h.d2; omega)).trans (h.fr.block q hq hx)⟩,
   h.rd.kept8q f (fun e => h.d1.2.1 e.symm) (fun q hq => by subst hq; exact mapI_noByte h.mp), f.heap h.tb h.d1.2.2, hm, h.lr, h.d1, h.d2⟩
end
theorem QT.okS_fresh {b : Bool} {L : List QT.Rw} {x : QT.Rw} (h : (QT.okS b (L ++ [x])).1 = true) : (QT.okS b L).1 = true ∧ QT.fnI (L.map QT.snOf) (QT.snOf x).n = none := by
  have h1 := h
  rw [QT.okS_snoc] at h1
  unfold QT.stepS at h1
  simp only [Bool.and_eq_true] at h1
  refine ⟨h1.1.1, ?_⟩
  obtain ⟨_, _, h3⟩ := QT.okS_rises b (L ++ [x]) 0 h
  rw [List.pairwise_append] at h3
  unfold QT.fnI
  rw [List.find?_eq_none]
  intro y hy
  obtain ⟨z, hz, rfl⟩ := List.mem_map.1 hy
  have := h3.2.2 z hz x (by simp)
  simp only [QT.snOf, beq_iff_eq]
  omega
/-- A TABLE. -/
structure TabQ (w : World) (TB mb T bn bu n m k : Nat) (N : List QT.Nd) (U : List QT.Us) (L : List QT.Sn) : Prop where
  tb : w.heap[TB]? = some (.cells #[.pointer (some ⟨T, 0, none⟩), .map (some mb)] 69)
  tr : TreeQ w T bn bu n m N U
  mp : MapI true w mb k L
/-- ALL THAT A TABLE OUGHT TO BE. -/
structure FullT (N : List QT.Nd) (U : List QT.Us) (L : List QT.Sn) : Prop where
  fu : FullQ N U
  fit : QT.fitsB N U = true
  hol : QT.holdsB N U = true
  ris : L.Pairwise (fun a b => a.n < b.n)
  fin : ∀ x ∈ L, QT.fineSn x
  len : L.length ≤ 64
def DecS (w w' : World) (e : Ending) (r : Option (List QT.Nd × List QT.Us × List QT.Sn)) : Prop :=
  (match r with
  | none => e = .returned (.tuple #[.pointer none, .iface 78 (.int .i64 3)])
  | some (N, U, L) => ∃ TB mb T bn bu n m k, e = .returned (.tuple #[.pointer (some ⟨TB, 0, none⟩), .nilIface]) ∧ TabQ w' TB mb T bn bu n m k N U L ∧ FullT N U L) ∧ Below w.heap.size w w'
set_option maxRecDepth 100000 in
set_option maxHeartbeats 16000000 in
/-- The table of bytes. -/
theorem decodeS_any (a : Option Addr) (c : Nat) (l : List UInt8) (w : World) (hE : Env w) (hv : IsB w (.slice a l.length c) l) (hl47 : l.length ≤ roomB) :
    Calls Tryz.prog 5 #[.slice a l.length c] w fun e w' => DecS w w' e (QT.decTab l) := by
  have hstc := @run_store_complex Tryz.prog
  have hmm := @run_makeMap Tryz.prog
  obtain ⟨y, l1, k1, hp1⟩ : ∃ v l' k', PK.runP 98 1048576 l 0 = (v, l', k') := ⟨_, _, _, rfl⟩
  obtain ⟨cn, la, ka, hp2⟩ : ∃ v l' k', PK.countP 64 l1 k1 = (v, l', k') := ⟨_, _, _, rfl⟩
  have hlr1 : l1.length ≤ roomB := by have := (QT.runG 98 1048576 l 0).1; rw [hp1] at this; exact Nat.le_trans this hl47
  have hlry : y.length ≤ roomB := by have := (QT.runG 98 1048576 l 0).2; rw [hp1] at this; exact Nat.le_trans this hl47
  have hcn : cn ≤ 64 := by have := QT.count_cap 64 l1 k1; rw [show ((64 : Nat) : Int) = 64 from rfl, hp2] at this; exact this
  have hlra : la.length ≤ roomB := by have := QT.count_rest 64 l1 k1; rw [hp2] at this; exact Nat.le_trans this hlr1
  have hcn' : (cn : Int) ≤ 281474976710656 := by omega
  have htab : ∀ L l' k', QT.readL QT.readSn cn la ka = (L, l', k') → QT.takeTab l = (y, L, l', k') := fun L l' k' h => by
    unfold QT.takeTab
    simp only [hp1, hp2, h]
  have HRd := Lib.hid (read_any a c l w hE hv)
  have hEg := hE.big
  have HEn := Lib.hid (fun (V : World) (b : Below w.heap.size w V) => hE.wr b hEg)
  obtain ⟨RM, hRM⟩ : ∃ b, b = w.heap.size := ⟨_, rfl⟩
  rw [← hRM] at HRd
  have Htab := Lib.hid htab
  have HP1 := Lib.hid hp1
  have HP2 := Lib.hid hp2
  have Hcn := Lib.hid hcn
  have Hl1 := Lib.hid hlr1
  have Hly := Lib.hid hlry
  have Hla := Lib.hid hlra
  have HL := Lib.hid hl47
  have HRM := Lib.hid hRM
  clear hE hv hl47 hp1 hp2 hlr1 hlry hcn hlra htab hEg hRM
  go_enter Tryz.func5, Tryz.ntmps5
  go_wp2_with fail
  refine HRd.out.mono ?_
  rintro e v1 ⟨rfl, r1, b1⟩
  have B1 : Hid (Below w.heap.size w v1) := Lib.hid (by rw [← HRM.out]; exact b1)
  have C1 := Lib.hid (bytes_any RM l 0 1048576 v1 (HEn.out v1 B1.out) r1 (by omega) HL.out)
  rw [HP1.out] at C1
  clear HRd r1 b1
  go_wp2_with fail
  refine C1.out.mono ?_
  rintro e v2 ⟨⟨ya, yn, yc, rfl, hyn, oy⟩, r2, f2⟩
  simp only at hyn oy r2
  have B2 := Lib.hid (belowSet B1.out f2 (by have := HRM.out; omega))
  subst hyn
  have C2 := Lib.hid (decodeQ_any ya yc y v2 (HEn.out v2 B2.out) oy.isB Hly.out)
  have R2 := Lib.hid r2
  clear C1 r2 f2 oy B1
  go_wp2_with fail
  refine C2.out.mono ?_
  rintro e v3 ⟨hq, b3⟩
  have B3 := Lib.hid (B2.out.trans (b3.mono B2.out.size))
  have R3 := Lib.hid (R2.out.below' b3)
  clear C2 R2 B2 b3
  obtain ⟨tp, ev, t0, he, htr⟩ : ∃ (tp : Option Addr) (ev : Nat) (t0 : Bool), e = .returned (.tuple #[.pointer tp, errV ev]) ∧ Hid (t0 = (ev == 0) ∧ ((ev = 3 ∧ QT.decT y = none) ∨ ∃ N U T bn bu n m, ev = 0 ∧ QT.decT y = some (N, U) ∧ tp = some ⟨T, 0, none⟩ ∧ TreeQ v3 T bn bu n m N U ∧ FullQ N U ∧ QT.fitsB N U = true ∧ QT.holdsB N U = true)) := by
    cases hd : QT.decT y with
    | none =>
      rw [hd] at hq
      exact ⟨none, 3, false, hq, Lib.hid ⟨rfl, .inl ⟨rfl, rfl⟩⟩⟩
    | some p =>
      obtain ⟨N, U⟩ := p
      rw [hd] at hq
      obtain ⟨T, bn, bu, n, m, h1, h2, h3, h4, h5⟩ := hq
      exact ⟨_, 0, true, h1, Lib.hid ⟨rfl, .inr ⟨N, U, T, bn, bu, n, m, rfl, rfl, rfl, h2, h3, h4, h5⟩⟩⟩
  subst he
  clear hq
  obtain ⟨w4, hw4⟩ : ∃ W, W = (v3.alloc (.map #[] 0)).alloc (.cells #[.pointer tp, .map (some v3.heap.size)] 69) := ⟨_, rfl⟩
  obtain ⟨mb, hmb⟩ : ∃ b, b = v3.heap.size := ⟨_, rfl⟩
  obtain ⟨TB, hTB⟩ : ∃ b, b = v3.heap.size + 1 := ⟨_, rfl⟩
  have D4 : Hid (∀ ok, SsS w v3 w4 RM TB mb (.pointer tp) l1 k1 ok 0 []) := Lib.hid (fun ok => by
    have e1 : (v3.alloc (.map #[] 0)).heap.size = v3.heap.size + 1 := by simp
    have bA : Below v3.heap.size v3 w4 := by rw [hw4]; exact ((Below.refl _ _).alloc (Nat.le_refl _) _).alloc (by simp) _
    have bB : Below (v3.alloc (.map #[] 0)).heap.size (v3.alloc (.map #[] 0)) w4 := by rw [hw4]; exact (Below.refl _ _).alloc (Nat.le_refl _) _
    have hRl : RM < v3.heap.size := by
      obtain ⟨_, _, _, hh, _⟩ := R3.out
      exact (Array.getElem?_eq_some_iff.1 hh).1
    have hs := B3.out.size
    have hR := HRM.out
    refine ⟨B3.out.trans (bA.mono hs), Fr.of_below bA, R3.out.below' bA, ?_, ?_, Hl1.out, by omega, by omega⟩
    · have := heap_alloc_new (v3.alloc (.map #[] 0)) (.cells #[.pointer tp, .map (some v3.heap.size)] 69)
      rw [e1] at this
      rw [hw4, hTB, hmb]
      exact this
    · have := (MapI.made (ok := ok) v3).below bB
      rw [hmb]
      exact this)
  have HW4 := Lib.hid hw4.symm
  have Hmb := Lib.hid hmb.symm
  have HTB := Lib.hid hTB.symm
  have HneT : Hid (∀ T bn bu n m N U, TreeQ v3 T bn bu n m N U → ¬ T = RM ∧ ¬ bn = RM ∧ ¬ bu = RM) := Lib.hid (fun T bn bu n m N U h => by
    obtain ⟨_, ra, rc, hh, _⟩ := R3.out
    refine ⟨fun e => ?_, fun e => ?_, fun e => ?_⟩
    · have := h.tb
      rw [e, hh] at this
      simp at this
    · obtain ⟨D, ⟨es, clock, hb, _⟩, _⟩ := h.mN
      rw [e, hh] at hb
      simp at hb
    · obtain ⟨D, ⟨es, clock, hb, _⟩, _⟩ := h.mU
      rw [e, hh] at hb
      simp at hb)
  clear hw4 hmb hTB R3 B3
  go_upto_region 4 with fail
  rw [HW4.out, HTB.out, Hmb.out]
  clear HW4 Hmb HTB
  go_cut [8] (fun v8 V => v8 = .bool t0 ∧ V = w4)
  case first =>
    obtain ⟨h1, h2⟩ := htr.out
    rcases h2 with ⟨h3, _⟩ | ⟨_, _, _, _, _, _, _, h3, _⟩
    · subst h3
      subst h1
      clear htr
      unfold errV
      go_wp2_with fail
      go_meet
      exact ⟨rfl, rfl⟩
    · subst h3
      subst h1
      clear htr
      unfold errV
      go_wp2_with fail
      go_meet
      exact ⟨rfl, rfl⟩
  case rest =>
    obtain ⟨rfl, rfl⟩ := hcut
    generalize errV ev = EV
    have C3 := Lib.hid (count_any RM l1 k1 wc (HEn.out wc (D4.out true).be) (D4.out true).rd)
    rw [HP2.out] at C3
    go_wp2_with fail
    refine C3.out.mono ?_
    rintro e v5 ⟨rfl, r5, f5⟩
    have D5 : Hid (SsS w v3 v5 RM TB mb (.pointer tp) la ka (QT.okS t0 []).1 0 []) := Lib.hid ((D4.out _).rdTo f5 r5 Hla.out)
    rw [show Value.bool t0 = Value.bool (QT.okS t0 []).1 from rfl]
    clear C3 r5 f5 D4
    clear wc
    go_wp2_with fail
    go_loopw [8, 9, 30] (fun v8 v9 v30 V => ∃ (j : Nat) (L : List QT.Rw) (lj : List UInt8) (kj : Nat), j ≤ cn ∧ v30 = .int .i64 j ∧ v8 = .bool (QT.okS t0 L).1 ∧ v9 = .int .i64 ((QT.okS t0 L).2 : Nat) ∧ Hid (QT.readL QT.readSn j la ka = (L, lj, kj)) ∧ Hid (SsS w v3 V RM TB mb (.pointer tp) lj kj (QT.okS t0 L).1 j L)) (fun _ _ v _ => cn - (intOf v).toNat)
    case atStart => exact ⟨0, [], la, ka, Nat.zero_le _, rfl, rfl, rfl, Lib.hid rfl, D5⟩
    case round =>
      obtain ⟨j, L, lj, kj, hj, rfl, rfl, rfl, HR, D⟩ := hrel
      clear D5
      by_cases hlt : j < cn
      · have h1 : (j : Int) < (cn : Int) := by omega
        obtain ⟨n1, l2, k2, hq1⟩ : ∃ v l' k', PK.uintP QT.cap lj kj = (v, l', k') := ⟨_, _, _, rfl⟩
        obtain ⟨n2, l3, k3, hq2⟩ : ∃ v l' k', PK.uintP QT.cap l2 k2 = (v, l', k') := ⟨_, _, _, rfl⟩
        obtain ⟨yb, l4, k4, hq3⟩ : ∃ v l' k', PK.runP 98 256 l3 k3 = (v, l', k') := ⟨_, _, _, rfl⟩
        have hrd := QT.readSn_at hq1 hq2 hq3
        have g2 : l2.length ≤ roomB := by have := QT.uint_rest QT.cap lj kj; rw [hq1] at this; exact Nat.le_trans this D.out.lr
        have g3 : l3.length ≤ roomB := by have := QT.uint_rest QT.cap l2 k2; rw [hq2] at this; exact Nat.le_trans this g2
        have g4 : l4.length ≤ roomB := by have := (QT.runG 98 256 l3 k3).1; rw [hq3] at this; exact Nat.le_trans this g3
        have gy : yb.length ≤ roomB := by have := (QT.runG 98 256 l3 k3).2; rw [hq3] at this; exact Nat.le_trans this g3
        have hn1 := QT.uint_of hq1
        have hn2 := QT.uint_of hq2
        simp only [QT.cap] at hn1 hn2
        have c1 : IntKind.i64.wrap (n1 : Int) = (n1 : Int) := by rw [IntKind.wrap_i64]; omega
        have c2 : IntKind.i64.wrap (n2 : Int) = (n2 : Int) := by rw [IntKind.wrap_i64]; omega
        have C1 := Lib.hid (uint_any RM QT.cap lj kj wr (HEn.out wr D.out.be) D.out.rd)
        rw [hq1, show (QT.cap : Int) = 1099511627776 from rfl] at C1
        have HRd := Lib.hid hrd
        have HQ2 := Lib.hid hq2
        have HQ3 := Lib.hid hq3
        have G2 := Lib.hid g2
        have G3 := Lib.hid g3
        have G4 := Lib.hid g4
        have Gy := Lib.hid gy
        have Hn1 := Lib.hid hn1
        have Hn2 := Lib.hid hn2
        clear hq1 hq2 hq3 hrd g2 g3 g4 gy hn1 hn2
        go_wp2_with fail
        refine C1.out.mono ?_
        rintro e v6 ⟨rfl, r6, f6⟩
        have D6 := Lib.hid (D.out.rdTo f6 r6 G2.out)
        have C2 := Lib.hid (uint_any RM QT.cap l2 k2 v6 (HEn.out v6 D6.out.be) D6.out.rd)
        rw [HQ2.out, show (QT.cap : Int) = 1099511627776 from rfl] at C2
        clear C1 r6 f6 D
        go_wp2_with fail
        refine C2.out.mono ?_
        rintro e v7 ⟨rfl, r7, f7⟩
        have D7 := Lib.hid (D6.out.rdTo f7 r7 G3.out)
        have C3 := Lib.hid (bytes_any RM l3 k3 256 v7 (HEn.out v7 D7.out.be) D7.out.rd (by omega) G3.out)
        rw [HQ3.out] at C3
        clear C2 r7 f7 D6
        go_wp2_with fail
        refine C3.out.mono ?_
        rintro e v8 ⟨⟨ba, bn, bc, rfl, hbn, ob⟩, r8, f8⟩
        have D8 := Lib.hid (D7.out.rdTo f8 r8 G4.out)
        have C4 := Lib.hid (dreply_any ba bn bc yb v8 (HEn.out v8 D8.out.be) hbn ob.isB Gy.out)
        clear C3 r8 f8 D7 hbn ob
        go_wp2_with fail
        refine C4.out.mono ?_
        rintro e v9 ⟨he0, b9⟩
        have D9 := Lib.hid (D8.out.below b9)
        clear C4 D8 b9
        obtain ⟨z, er, rs, he, hz⟩ : ∃ (z : QT.Rp) (er : Nat) (rs : Bool), e = .returned (.tuple #[.agg #[.int .i64 z.er, .int .i64 z.se, .int .i64 z.an.er, .complex .f64 (FL.fB z.an.u1) (FL.fB z.an.u2), .complex .f64 (FL.fB z.an.t1) (FL.fB z.an.t2)], errV er]) ∧ Hid (z = (QT.decRp yb).getD QT.rp0 ∧ rs = (QT.decRp yb).isSome ∧ (er = 0 ∧ rs = true ∨ er = 3 ∧ rs = false)) := by
          cases hd : QT.decRp yb with
          | none =>
            rw [hd] at he0
            exact ⟨QT.rp0, 3, false, he0, Lib.hid ⟨rfl, rfl, .inr ⟨rfl, rfl⟩⟩⟩
          | some x =>
            rw [hd] at he0
            exact ⟨x, 0, true, he0, Lib.hid ⟨rfl, rfl, .inl ⟨rfl, rfl⟩⟩⟩
        subst he
        clear he0
        obtain ⟨w5, hw5⟩ : ∃ W, W = v9.alloc (.cells #[.int .i64 z.er, .int .i64 z.se, .int .i64 z.an.er, .complex .f64 (FL.fB z.an.u1) (FL.fB z.an.u2), .complex .f64 (FL.fB z.an.t1) (FL.fB z.an.t2)] 47) := ⟨_, rfl⟩
        obtain ⟨X, hX⟩ : ∃ b, b = v9.heap.size := ⟨_, rfl⟩
        have b95 : Below v9.heap.size v9 w5 := by rw [hw5]; exact (Below.refl _ _).alloc (Nat.le_refl _) _
        have gX : w5.heap[X]? = some (.cells #[.int .i64 z.er, .int .i64 z.se, .int .i64 z.an.er, .complex .f64 (FL.fB z.an.u1) (FL.fB z.an.u2), .complex .f64 (FL.fB z.an.t1) (FL.fB z.an.t2)] 47) := by rw [hw5, hX]; exact heap_alloc_new _ _
        have D10 := Lib.hid (D9.out.below b95)
        have hXm : ¬ X = mb := by have := D9.out.mp.lt; omega
        have GX := Lib.hid gX
        have HW5 := Lib.hid hw5.symm
        have HX := Lib.hid hX.symm
        have HXm := Lib.hid hXm
        clear hw5 hX b95 gX D9 hXm
        go_upto_region 10 with fail
        rw [HW5.out, HX.out]
        clear HW5 HX
        obtain ⟨ok, hok⟩ : ∃ b, b = (QT.okS t0 L).1 := ⟨_, rfl⟩
        obtain ⟨bf, hbf⟩ : ∃ b, b = (QT.okS t0 L).2 := ⟨_, rfl⟩
        rw [← hok, ← hbf]
        have Hok := Lib.hid hok
        have Hbf := Lib.hid hbf
        clear hok hbf
        go_cut [8] (fun v8 V => v8 = .bool (ok && rs && decide (bf < n1)) ∧ V = w5)
        case first =>
          have hcmp : decide ((bf : Int) < (n1 : Int)) = decide (bf < n1) := by
            by_cases h : bf < n1
            · rw [decide_eq_true h, decide_eq_true (by omega)]
            · rw [decide_eq_false h, decide_eq_false (by omega)]
          have Hcmp := Lib.hid hcmp
          clear hcmp
          cases ok with
          | false =>
            go_wp2_with fail
            go_meet
            exact ⟨rfl, rfl⟩
          | true =>
            rcases hz.out.2.2 with ⟨h1, h2⟩ | ⟨h1, h2⟩
            · subst h1
              subst h2
              clear hz
              unfold errV
              go_wp2_with fail
              go_meet
              exact ⟨by rw [← Hcmp.out]; rfl, rfl⟩
            · subst h1
              subst h2
              clear hz
              unfold errV
              go_wp2_with fail
              go_meet
              exact ⟨rfl, rfl⟩
        case rest =>
          obtain ⟨rfl, rfl⟩ := hcut
          obtain ⟨x, hx⟩ : ∃ x : QT.Rw, x = (n1, n2, QT.decRp yb) := ⟨_, rfl⟩
          have hsn := QT.okS_snoc t0 L x
          have D11 := D10.out.below (Below.refl _ wc).drew
          have hsx : QT.snOf x = ⟨n1, n2, z⟩ := by rw [hx, QT.snOf, hz.out.1]
          obtain ⟨w6, hput, hm, hf⟩ := D11.mp.put Tryz.underlying67 (by have := Hcn.out; omega) (QT.snOf x) (by rw [hsx]; exact Hn1.out) (ok' := (QT.okS t0 (L ++ [x])).1) (fun e => QT.okS_fresh e)
          have hm' : MapI (QT.okS t0 (L ++ [x])).1 w6 mb (j + 1) ((L ++ [x]).map QT.snOf) := by rw [List.map_append]; exact hm
          have D12 := Lib.hid (D11.put hf hm')
          have hread : QT.readL QT.readSn (j + 1) la ka = (L ++ [x], l4, k4) := by
            rw [QT.readL_snoc, HR.out, HRd.out, hx]
          have HRn := Lib.hid hread
          rw [hsx, vSn] at hput
          have e9 : (QT.okS t0 (L ++ [x])).2 = n1 := by rw [hsn, QT.stepS, hx]
          have e8 : (QT.okS t0 (L ++ [x])).1 = (ok && rs && decide (bf < n1)) := by rw [hsn, QT.stepS, hx, Hok.out, Hbf.out, hz.out.2.1]
          have E9 := Lib.hid e9
          have E8 := Lib.hid e8
          obtain ⟨⟨z0, z1, z2, z3, z4⟩, _⟩ := cells5f GX.out
          have ht := D10.out.tb
          obtain ⟨_, t1, _, _⟩ := cells2 ht
          have hTm := D10.out.d1.2.2
          have S0 : (wc.drew.cell? ⟨TB, 1, none⟩ = some (.map (some mb)) ∧ wc.drew.cell? ⟨X, 0, none⟩ = some (.int .i64 z.er) ∧ wc.drew.cell? ⟨X, 1, none⟩ = some (.int .i64 z.se) ∧ wc.drew.cell? ⟨X, 2, none⟩ = some (.int .i64 z.an.er) ∧ wc.drew.cell? ⟨X, 3, none⟩ = some (.complex .f64 (FL.fB z.an.u1) (FL.fB z.an.u2)) ∧ wc.drew.cell? ⟨X, 4, none⟩ = some (.complex .f64 (FL.fB z.an.t1) (FL.fB z.an.t2))) := ⟨t1, z0, z1, z2, z3, z4⟩
          have S6 : (w6.cell? ⟨TB, 1, none⟩ = some (.map (some mb)) ∧ w6.cell? ⟨X, 0, none⟩ = some (.int .i64 z.er) ∧ w6.cell? ⟨X, 1, none⟩ = some (.int .i64 z.se) ∧ w6.cell? ⟨X, 2, none⟩ = some (.int .i64 z.an.er) ∧ w6.cell? ⟨X, 3, none⟩ = some (.complex .f64 (FL.fB z.an.u1) (FL.fB z.an.u2)) ∧ w6.cell? ⟨X, 4, none⟩ = some (.complex .f64 (FL.fB z.an.t1) (FL.fB z.an.t2))) := ⟨hf.cell (show wc.drew.cell? _ = _ from t1) hTm, hf.cell (show wc.drew.cell? _ = _ from z0) HXm.out, hf.cell (show wc.drew.cell? _ = _ from z1) HXm.out, hf.cell (show wc.drew.cell? _ = _ from z2) HXm.out, hf.cell (show wc.drew.cell? _ = _ from z3) HXm.out, hf.cell (show wc.drew.cell? _ = _ from z4) HXm.out⟩
          clear hread hsn e9 e8 hm hm' hf D11 D10 ht hTm hsx hx HR HRd GX HXm
          rw [← E8.out]
          go_wp2_with fail
          refine wp_region_noPanic ?_
          refine wp_region_held_drew (S := fun V => (V.cell? ⟨TB, 1, none⟩ = some (.map (some mb)) ∧ V.cell? ⟨X, 0, none⟩ = some (.int .i64 z.er) ∧ V.cell? ⟨X, 1, none⟩ = some (.int .i64 z.se) ∧ V.cell? ⟨X, 2, none⟩ = some (.int .i64 z.an.er) ∧ V.cell? ⟨X, 3, none⟩ = some (.complex .f64 (FL.fB z.an.u1) (FL.fB z.an.u2)) ∧ V.cell? ⟨X, 4, none⟩ = some (.complex .f64 (FL.fB z.an.t1) (FL.fB z.an.t2)))) (by kernel_rfl) S0 (fun hHeld => ?_)
          refine rTk 0 ?_; try simp only [Act.put, rP1, rP2, rP3]
          refine rTk 1 ?_; try simp only [Act.put, rP1, rP2, rP3]
          refine rTk 2 ?_; try simp only [Act.put, rP1, rP2, rP3]
          refine rTk 3 ?_; try simp only [Act.put, rP1, rP2, rP3]
          refine rTk 4 ?_; try simp only [Act.put, rP1, rP2, rP3]
          refine rTk 5 ?_; try simp only [Act.put, rP1, rP2, rP3]
          refine rTk 6 ?_; try simp only [Act.put, rP1, rP2, rP3]
          refine rTk 7 ?_; try simp only [Act.put, rP1, rP2, rP3]
          refine rBr 8 fun K hK => ?_
          go_simp
          skip
          refine hK.out _ _ (by (try dsimp only); assumption) (fun hHeld => ?_)
          clear hK K
          try simp only [Act.put, rP1, rP2, rP3]
          refine wpAnyH_done (by kernel_rfl) ?_ _
          refine NoPanic.normal ?_
          clear hHeld S6
          go_wp2
          exact ⟨⟨j + 1, L ++ [x], l4, k4, hlt, by simp, rfl, by rw [E9.out], HRn, D12⟩, by simp [intOf]; omega⟩
      · obtain rfl : j = cn := by omega
        have htk := Htab.out L lj kj HR.out
        have hjj : ¬ ((j : Int) < (j : Int)) := by omega
        have HDn := Lib.hid (done_any RM lj kj wr D.out.rd)
        have Hbe := Lib.hid D.out.be
        by_cases hz : kj = 0 ∧ lj = []
        · obtain ⟨rfl, rfl⟩ := hz
          rw [PK.doneP_zero] at HDn
          cases hok : (QT.okS t0 L).1 with
          | false =>
            have hr : QT.decTab l = none := by
              unfold QT.decTab
              rw [htk]
              simp only
              obtain ⟨h1, h2⟩ := htr.out
              rcases h2 with ⟨_, h4⟩ | ⟨N, U, _, _, _, _, _, h3, h4, _⟩
              · rw [h4]
              · rw [h4]
                simp only
                refine if_neg (fun e => ?_)
                rw [h3] at h1
                rw [h1] at hok
                have := e.2.2
                rw [show ((0 : Nat) == 0) = true from rfl] at hok
                rw [hok] at this
                cases this
            have Hr := Lib.hid hr
            clear htk hr D HR htr HneT Htab
            go_wp2_with fail
            refine HDn.out.mono ?_
            rintro e w1 ⟨rfl, rfl⟩
            unfold errV
            go_wp2
            go_ret2
            rw [Hr.out]
            exact ⟨rfl, Hbe.out⟩
          | true =>
            obtain ⟨ht0, hfl, hpw⟩ := QT.okS_rises t0 L 0 hok
            obtain ⟨h1, h2⟩ := htr.out
            rcases h2 with ⟨h3, _⟩ | ⟨N, U, T, bn, bu, n, m, h3, h4, h5, h6, h7, h8, h9⟩
            · rw [h3, ht0] at h1
              cases h1
            · have hr : QT.decTab l = some (N, U, L.map QT.snOf) := by
                unfold QT.decTab
                rw [htk]
                simp only
                rw [h4]
                simp only
                rw [ht0] at hok
                exact if_pos ⟨trivial, trivial, hok⟩
              obtain ⟨x1, x2, x3⟩ := HneT.out T bn bu n m N U h6
              have hlen : L.length = j := by
                have := QT.readL_length QT.readSn j la ka
                rw [HR.out] at this
                exact this
              have hfin : ∀ x ∈ L, QT.fineSn (QT.snOf x) := by
                have := QT.readL_all (f := QT.readSn) (p := fun x => QT.fineSn (QT.snOf x)) (fun l k => QT.readSn_fine l k) j la ka
                rw [HR.out] at this
                exact this
              have htb := D.out.tb
              have hmp := D.out.mp
              rw [hok] at hmp
              rw [h5] at htb
              have Fin : Hid (DecS w wr (.returned (.tuple #[.pointer (some ⟨TB, 0, none⟩), .nilIface])) (QT.decTab l)) := Lib.hid (by
                rw [hr]
                exact ⟨⟨TB, mb, T, bn, bu, n, m, j, rfl, ⟨htb, h6.fr D.out.fr x1 x2 x3, hmp⟩, ⟨h7, h8, h9, List.pairwise_map.2 hpw, fun x hx => by
                  obtain ⟨y, hy, rfl⟩ := List.mem_map.1 hx
                  exact hfin y hy, by rw [List.length_map, hlen]; exact Hcn.out⟩⟩, Hbe.out⟩)
              clear htk hr D HR htr HneT Htab ht0 hfl hpw h1 h3 h4 h5 h6 h7 h8 h9 x1 x2 x3 hlen hfin htb hmp
              go_wp2_with fail
              refine HDn.out.mono ?_
              rintro e w1 ⟨rfl, rfl⟩
              unfold errV
              go_wp2
              go_ret2
              exact Fin.out
        · have hr : QT.decTab l = none := by
            unfold QT.decTab
            rw [htk]
            simp only
            cases QT.decT y with
            | none => rfl
            | some p => exact if_neg (fun e => hz ⟨e.1, e.2.1⟩)
          obtain ⟨d, hd⟩ := doneP_bad hz
          rw [hd] at HDn
          have Hr := Lib.hid hr
          clear htk hr D HR htr HneT Htab hz hd
          go_wp2_with fail
          refine HDn.out.mono ?_
          rintro e w1 ⟨rfl, rfl⟩
          unfold errV
          go_wp2
          go_ret2
          rw [Hr.out]
          exact ⟨rfl, Hbe.out⟩
end Go.Proofs.YtkanjdijmdjbaaaGreatDoor

namespace Go.Proofs.YtkanjdijmdjbaaaGreatDoor
open Go Go.RowKit Go.Maps Go.Sort Go.Shelf

theorem sortsI (m : Nat) : AnyZI.SortsIn Tryz.prog Tryz.laySI_ren Fence.wide m :=
  ⟨fun blk off cap ss W hH hblk hsz => callsIn_wide.2 (AnyM.slices_Sort_int Tryz.layIn blk off cap ss W hH hblk hsz),
   fun p cap W => callsIn_wide.2 (AnyM.slices_Sort_int_none Tryz.layIn p cap W)⟩
theorem keysI (mb : Option Nat) (W : World) : Calls Tryz.prog 79 #[.map mb] W fun e w' => e = .returned (.func (.func 122) #[] #[.pointer (some ⟨W.heap.size, 0, none⟩)]) ∧ w' = W.alloc (.cells #[.map mb] 67) :=
  callsIn_wide.1 (AnyZI.keys_in Tryz.layKI Fence.wide 5 trivial rfl mb W)
set_option maxHeartbeats 1000000 in
theorem sortedI {H : Type} (b nn : Nat) (D0 : DataW H) (R : Value → Option (DataW H × List MemPlace)) (w : World) (hown : w.ownsMap Tryz.prog 3 R b nn D0) (hmax : Maps.size D0 ≤ maxLen) (hbytes : Maps.size D0 * 8 ≤ 140737488355328) :
    Calls Tryz.prog 78 #[.func (.func 122) #[] #[.pointer (some ⟨w.heap.size, 0, none⟩)]] (w.alloc (.cells #[.map (some b)] 67)) fun e w' => ∃ (v : Value) (ss : List Int), e = .returned v ∧ ss.Perm (intKeys D0) ∧
      w'.ownsRow (w.alloc (.cells #[.map (some b)] 67)).heap.size 3 1 v ss.length ((ss.mergeSort (fun x y => decide (x ≤ y))).map encZ) ∧ (v = .slice none 0 0 ↔ ss = []) ∧ Below (w.alloc (.cells #[.map (some b)] 67)).heap.size (w.alloc (.cells #[.map (some b)] 67)) w' := by
  have hbl := hown.lt
  have hseq : SeqGives Fence.wide 2 Tryz.prog 122 #[.pointer (some ⟨w.heap.size, 0, none⟩)] encZ (fun ss => ss.Perm (intKeys D0)) (Maps.size D0) (w.alloc (.cells #[.map (some b)] 67)) :=
    AnyZI.keys_gives (ρ := Tryz.layKI_ren) { Tryz.layKI with } Fence.wide _ trivial rfl (by omega) w.heap.size b nn D0 _ (by simp) (by simp) (by
      obtain ⟨es, clock, hb, Ft, hs, hD⟩ := hown
      exact ⟨es, clock, (Below.heap_alloc _ _ b hbl).trans hb, Ft, hs, hD⟩)
  exact callsIn_wide.1 (AnyZI.sorted_in Tryz.laySI Fence.wide 5 trivial trivial trivial trivial rfl (by omega) (sortsI _) (enters_of Tryz.func121 (by kernel_rfl) rfl) 122 #[.pointer (some ⟨w.heap.size, 0, none⟩)] trivial (enters_of Tryz.func122 (by kernel_rfl) rfl) _ _ hmax hbytes _ hseq)
theorem keys_sortedI {w : World} {b n : Nat} {N : List QT.Sn} {D : DataW Value} {R : Value → Option (DataW Value × List MemPlace)} (hown : w.ownsMap Tryz.prog 3 R b n D) (hr : ReadsI D N) (hs : N.Pairwise (fun x y => x.n < y.n)) {ss : List Int} (hp : ss.Perm (intKeys D)) :
    ss.mergeSort (fun x y => decide (x ≤ y)) = N.map (fun x => (x.n : Int)) := by
  obtain ⟨es, rfl, hk⟩ := hown.keysOf
  obtain ⟨es2, e2, hap, _⟩ := hown.entries KKI
  injection e2 with e2
  subst e2
  have hps : (N.map (fun x => (x.n : Int))).Pairwise (fun x y => x < y) := List.pairwise_map.2 (hs.imp (fun {a b} h => by omega))
  have hnd : (N.map (fun x => (x.n : Int))).Nodup := hps.imp (fun {x y} h e => by omega)
  have hm : ∀ x, x ∈ N.map (fun x => (x.n : Int)) ↔ Maps.has (.map es : DataW Value) (.int .i64 x) = true := fun x => by
    rw [hr.hasZ x]
    unfold QT.fnZ
    rw [List.find?_isSome, List.mem_map]
    constructor
    · rintro ⟨y, h1, h2⟩; exact ⟨y, h1, by simpa using h2⟩
    · rintro ⟨y, h1, h2⟩; exact ⟨y, h1, by simpa using h2⟩
  have h1 := perm_intKeys hap (fun p hp => by
    obtain ⟨v, hv⟩ := hk p hp
    obtain ⟨x, _, hx, _⟩ := Maps.keyOf_i64 KI hv
    exact ⟨x, hx⟩) hnd hm
  have h2 : (N.map (fun x => (x.n : Int))).mergeSort (fun x y => decide (x ≤ y)) = N.map (fun x => (x.n : Int)) := List.mergeSort_of_pairwise (hps.imp (fun {x y} h => by simpa using Int.le_of_lt h))
  rw [← h2]
  exact ((List.mergeSort_perm ss _).trans ((hp.trans h1.symm).trans (List.mergeSort_perm _ _).symm)).eq_of_pairwise (le := fun a b : Int => a ≤ b) (fun a b _ _ h h' => by omega) (by
    have := List.pairwise_mergeSort (le := fun x y : Int => decide (x ≤ y)) (fun a b c h h' => by simp at *; omega) (fun a b => by simp; omega) ss
    exact this.imp (fun {a b} h => by simpa using h)) (by
    have := List.pairwise_mergeSort (le := fun x y : Int => decide (x ≤ y)) (fun a b c h h' => by simp at *; omega) (fun a b => by simp; omega) (N.map (fun x => (x.n : Int)))
    exact this.imp (fun {a b} h => by simpa using h))
end Go.Proofs.YtkanjdijmdjbaaaGreatDoor

namespace Go.Proofs.YtkanjdijmdjbaaaGreatDoor
open Go Go.RowKit Go.Maps Go.Sort

/-- A slice of numbers that the call has made. -/
def OwnI (w : World) (base : Nat) (v : Value) (L : List QT.Sn) : Prop :=
  ∃ a c, v = .slice a L.length c ∧ ∀ (j : Nat) (x : QT.Sn), L[j]? = some x → ∃ g, a = some ⟨g, 0, none⟩ ∧ base ≤ g ∧ w.cell? ⟨g, j, none⟩ = some (.int .i64 (x.n : Nat))
theorem OwnI.below {w w' : World} {base : Nat} {v : Value} {L : List QT.Sn} (h : OwnI w base v L) (f : Below w.heap.size w w') : OwnI w' base v L := by
  obtain ⟨a, c, rfl, h⟩ := h
  refine ⟨a, c, rfl, fun j x hx => ?_⟩
  obtain ⟨g, h1, h2, h3⟩ := h j x hx
  exact ⟨g, h1, h2, (World.cell?_of_block (a := ⟨g, j, none⟩) (f.block g (World.block_lt_of_cell? _ _ h3))).trans h3⟩
theorem OwnI.of_row {w : World} {base : Nat} {v : Value} {L : List QT.Sn} (h : w.ownsRow base 3 1 v L.length ((L.map (fun x => (x.n : Int))).map encZ)) : OwnI w base v L := by
  obtain ⟨_, h⟩ := h
  rcases h with ⟨h1, h2⟩ | ⟨g, cap, cur, h1, h2, h3, h4, h5, h6, h7⟩
  · have : L = [] := List.length_eq_zero_iff.1 h2
    subst this
    exact ⟨none, 0, h1, fun j x hx => by simp at hx⟩
  · refine ⟨_, _, h1, fun j x hs => ⟨g, rfl, h2, ?_⟩⟩
    have hj := (List.getElem?_eq_some_iff.1 hs).1
    have hc : cur[j]? = some (.int .i64 (x.n : Nat)) := by
      have : (cur.toList.take (L.length * 1))[j]? = some (encZ (x.n : Int)) := by rw [h7, List.getElem?_map, List.getElem?_map, hs]; rfl
      rw [List.getElem?_take_of_lt (by omega), Array.getElem?_toList] at this
      exact this
    simp [World.cell?, h3, hc]
set_option maxHeartbeats 2000000 in
theorem sessions_any (TB mb T bn bu n m k : Nat) (N : List QT.Nd) (U : List QT.Us) (L : List QT.Sn) (w : World) (hT : TabQ w TB mb T bn bu n m k N U L) (hr : L.Pairwise (fun a b => a.n < b.n)) (hl : L.length ≤ 64) :
    Calls Tryz.prog 33 #[.pointer (some ⟨TB, 0, none⟩)] w fun e w' => ∃ v, e = .returned v ∧ OwnI w' w.heap.size v L ∧ Below w.heap.size w w' := by
  obtain ⟨t0, t1, _, _⟩ := cells2 hT.tb
  obtain ⟨D, hown, hrd⟩ := hT.mp
  have hsz : Maps.size D ≤ 64 := by rw [(hrd rfl).2]; exact hl
  have HS := Lib.hid (sortedI mb k D (heldG vSn) w hown (by simp only [maxLen]; omega) (by omega))
  have HK := Lib.hid (fun (ss : List Int) (hp : ss.Perm (intKeys D)) => keys_sortedI hown (hrd rfl) hr hp)
  clear hT hown hrd hr hsz hl
  go_enter Tryz.func33, Tryz.ntmps33
  go_wp2_with fail
  refine (keysI (some mb) w).mono ?_
  rintro e w1 ⟨rfl, rfl⟩
  go_wp2_with fail
  refine HS.out.mono ?_
  rintro e w2 ⟨v, ss, rfl, hp, hrow, _, hb⟩
  have hk := HK.out ss hp
  have hlen : ss.length = L.length := by
    have := congrArg List.length hk
    rw [List.length_mergeSort, List.length_map] at this
    exact this
  rw [hk, hlen] at hrow
  have HO : Hid (OwnI w2 w.heap.size v L) := Lib.hid (by
    obtain ⟨a, c, e, h⟩ := OwnI.of_row hrow
    refine ⟨a, c, e, fun j x hx => ?_⟩
    obtain ⟨g, h1, h2, h3⟩ := h j x hx
    exact ⟨g, h1, by simp at h2; omega, h3⟩)
  have HB := Lib.hid (((Below.refl _ w).alloc (Nat.le_refl _) (.cells #[.map (some mb)] 67)).trans (hb.mono (by simp)))
  clear hrow hb hk hlen HS HK hp
  go_wp2
  go_ret
  exact ⟨v, rfl, HO.out, HB.out⟩
end Go.Proofs.YtkanjdijmdjbaaaGreatDoor
