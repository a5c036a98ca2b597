/-
  The program's Decode of a tree, by a contract.
  Conditions: the listed variables read as listed ('Env'); the parameter reads as bytes and is at most 2^47 bytes long.
-/
import Derived.Test.YtkanjdijmdjbaaaGreatDoorG18
import Derived.Test.YtkanjdijmdjbaaaGreatDoorG17
import Derived.Test.YtkanjdijmdjbaaaGreatDoorDecQ
import Derived.Deep.DeepCutAuto
namespace Go.Proofs.YtkanjdijmdjbaaaGreatDoor
open Go Go.RowKit

theorem DsS.init {w v1 v2 : World} {l : List UInt8} {RB bn bu T : Nat} (hl : l.length ≤ roomB) (r1 : Rd v1 w.heap.size l 0) (b1 : Below w.heap.size w v1)
    (hRB : RB = v1.heap.size) (hbn : bn = v1.heap.size + 1) (hbu : bu = v1.heap.size + 1 + 1)
    (t2 : ∀ okN okU, TreeD v2 T bn bu okN okU 0 0 [] []) (hT : v1.heap.size < T)
    (b2 : Below (v1.heap.size + 1) (v1.alloc (.cells #[.pointer (some ⟨w.heap.size, 0, none⟩)] 62)) v2) :
    DsS w v2 w.heap.size RB T bn bu l 0 true true 0 0 [] [] := by
  have hs : w.heap.size < v1.heap.size := by
    obtain ⟨_, _, _, hh, _⟩ := r1
    exact (Array.getElem?_eq_some_iff.1 hh).1
  have e1 : (v1.alloc (.cells #[.pointer (some ⟨w.heap.size, 0, none⟩)] 62)).heap.size = v1.heap.size + 1 := by simp
  have b3 : Below v1.heap.size v1 v2 := ((Below.refl _ _).alloc (Nat.le_refl _) _).trans (b2.mono (by omega))
  refine ⟨b1.trans (b3.mono b1.size), ?_, r1.below' b3, t2 true true, hl, by omega, by omega⟩
  have h1 := heap_alloc_new v1 (.cells #[.pointer (some ⟨w.heap.size, 0, none⟩)] 62)
  have h2 := (b2.block v1.heap.size (by omega)).trans h1
  rw [hRB]
  exact (cells1 h2).1
theorem box_late {wr v : World} {RM k : Nat} {l : List UInt8} (hr : Rd v RM l k) (f : Fr (fun j => j = RM) wr v) (Z : Obj) :
    Fr (fun j => j = RM) wr (v.alloc Z) ∧ Rd (v.alloc Z) RM l k ∧ wr.heap.size ≤ v.heap.size ∧ (v.alloc Z).heap[v.heap.size]? = some Z :=
  ⟨f.alloc _, hr.below' ((Below.refl _ _).alloc (Nat.le_refl _) _), f.size, heap_alloc_new v Z⟩
theorem box_frN {wr v V : World} {RM B : Nat} (f : Fr (fun j => j = RM) wr v) (hB : wr.heap.size ≤ B) (h : Fr (fun j => j = B) v V) : Fr (fun j => j = RM) wr V :=
  ⟨h.os.trans f.os, h.tape.trans f.tape, h.output.trans f.output, Nat.le_trans f.size h.size, fun q hq hx => (h.block q (Nat.lt_of_lt_of_le hq f.size) (by omega)).trans (f.block q hq hx)⟩
theorem box_earlyN {wr v : World} {RM B k : Nat} {l : List UInt8} {a0 a1 : ByteArray} {x2 x3 x4 y2 y3 y4 : Nat} {t : TypeId} (hr : Rd v RM l k) (f : Fr (fun j => j = RM) wr v) (hB : wr.heap.size ≤ B) (hne : ¬ B = RM)
    (h : v.heap[B]? = some (.cells #[.string a0, .string a1, .complex .f64 x2 y2, .complex .f64 x3 y3, .complex .f64 x4 y4] t)) (v0 v1 v2 v3 v4 : Value) :
    Fr (fun j => j = RM) wr (((((v.setCell ⟨B, 0, none⟩ v0).setCell ⟨B, 1, none⟩ v1).setCell ⟨B, 2, none⟩ v2).setCell ⟨B, 3, none⟩ v3).setCell ⟨B, 4, none⟩ v4) ∧
    Rd (((((v.setCell ⟨B, 0, none⟩ v0).setCell ⟨B, 1, none⟩ v1).setCell ⟨B, 2, none⟩ v2).setCell ⟨B, 3, none⟩ v3).setCell ⟨B, 4, none⟩ v4) RM l k ∧ wr.heap.size ≤ B ∧
    (((((v.setCell ⟨B, 0, none⟩ v0).setCell ⟨B, 1, none⟩ v1).setCell ⟨B, 2, none⟩ v2).setCell ⟨B, 3, none⟩ v3).setCell ⟨B, 4, none⟩ v4).heap[B]? = some (.cells #[v0, v1, v2, v3, v4] t) := by
  refine ⟨box_frN f hB (fr5 v B v0 v1 v2 v3 v4), hr.kept8q (fr5 v B v0 v1 v2 v3 v4) (fun e => hne e.symm) (fun q hq j n => ?_), hB, stored5 h v0 v1 v2 v3 v4⟩
  subst hq
  simp only [World.cell?, h]
  match j with
  | 0 => simp
  | 1 => simp
  | 2 => simp
  | 3 => simp
  | 4 => simp
  | j + 5 => simp
theorem fr3q (w : World) (M : Nat) (y0 y1 y2 : Value) : Fr (fun j => j = M) w (((w.setCell ⟨M, 0, none⟩ y0).setCell ⟨M, 1, none⟩ y1).setCell ⟨M, 2, none⟩ y2) :=
  ((Fr.setCell (X := fun j => j = M) (Fr.refl _ _) (fun _ => rfl) _).trans (Fr.setCell (X := fun j => j = M) (Fr.refl _ _) (fun _ => rfl) _)).trans (Fr.setCell (X := fun j => j = M) (Fr.refl _ _) (fun _ => rfl) _)
theorem stored3q {w : World} {M : Nat} {x0 x1 x2 : Value} {t : TypeId} (h : w.heap[M]? = some (.cells #[x0, x1, x2] t)) (y0 y1 y2 : Value) :
    (((w.setCell ⟨M, 0, none⟩ y0).setCell ⟨M, 1, none⟩ y1).setCell ⟨M, 2, none⟩ y2).heap[M]? = some (.cells #[y0, y1, y2] t) := by
  simp only [World.setCell, Array.getElem?_modify, if_true, h, Option.map_some]
  simp
theorem DsS.okU {w V : World} {RM RB T bn bu n m k : Nat} {l : List UInt8} {okN : Bool} {N : List QT.Nd} (h : DsS w V RM RB T bn bu l k okN true n m N []) (o : Bool) : DsS w V RM RB T bn bu l k okN o n m N [] := by
  cases o with
  | true => exact h
  | false => exact ⟨h.be, h.rb, h.rd, ⟨h.tr.tb, h.tr.mN, h.tr.mU.not [], h.tr.ne⟩, h.lr, h.d1, h.d2⟩
/-- 'v, ok := m[k]', whatever it holds, in each world that has the map as it was. -/
theorem lookAnyF {α : Type} {key : α → QT.Str} {val : α → Value} {ok : Bool} {w : World} {b n : Nat} {N : List α} (h : MapD key val ok w b n N) {t e : TypeId} {z : Value} (ht : Tryz.prog.underlying t = some (.map 9 e)) (hz : ∀ V, (zeroValue e).run Tryz.prog V = .ok z V) (hz0 : ∃ x, z = val x) (s : QT.Str) (hs : s.length ≤ 1099511627776) :
    ∃ x q, (ok = true → q = (QT.fnd key N s).isSome) ∧ ∀ V, V.heap[b]? = w.heap[b]? → (Instr.lookup t (.map (some b)) (.string (str s)) true).run Tryz.prog V = .ok (.tuple #[val x, .bool q]) V := by
  obtain ⟨D, hown, hr⟩ := h
  have key1 : ∀ V : World, V.heap[b]? = w.heap[b]? → V.ownsMap Tryz.prog 9 (heldG val) b n D := fun V e => by
    obtain ⟨es, clock, hb, r⟩ := hown
    exact ⟨es, clock, e.trans hb, r⟩
  obtain ⟨v, ps, hrun, hv⟩ := hown.look_ok KK ht (hz w) (zd := .held z) (zp := []) (by obtain ⟨x, rfl⟩ := hz0; exact heldG_val val x) (keyStr s hs)
  obtain ⟨⟨x, rfl⟩, hx⟩ := heldG_form hv
  refine ⟨x, _, fun e => (hr e).has s, fun V e => ?_⟩
  obtain ⟨v2, ps2, hrun2, hv2⟩ := (key1 V e).look_ok KK ht (hz V) (zd := .held z) (zp := []) (by obtain ⟨x, rfl⟩ := hz0; exact heldG_val val x) (keyStr s hs)
  have e1 : D.atKey (Lit.string s) (DataW.held z) = DataW.held (val x) := congrArg Prod.fst hx
  rw [e1] at hv2
  rw [hrun2, held_inj hv2]
def DecQ (w w' : World) (e : Ending) (r : Option (List QT.Nd × List QT.Us)) : Prop :=
  (match r with
  | none => e = .returned (.tuple #[.pointer none, .iface 78 (.int .i64 3)])
  | some (N, U) => ∃ T bn bu n m, e = .returned (.tuple #[.pointer (some ⟨T, 0, none⟩), .nilIface]) ∧ TreeQ w' T bn bu n m N U ∧ FullQ N U ∧ QT.fitsB N U = true ∧ QT.holdsB N U = true) ∧ Below w.heap.size w w'
theorem box_earlyU {wr v : World} {RM B k : Nat} {l : List UInt8} {a0 a1 : ByteArray} {x2 y2 : Nat} {t : TypeId} (hr : Rd v RM l k) (f : Fr (fun j => j = RM) wr v) (hB : wr.heap.size ≤ B) (hne : ¬ B = RM)
    (h : v.heap[B]? = some (.cells #[.string a0, .string a1, .complex .f64 x2 y2] t)) (v0 v1 v2 : Value) :
    Fr (fun j => j = RM) wr (((v.setCell ⟨B, 0, none⟩ v0).setCell ⟨B, 1, none⟩ v1).setCell ⟨B, 2, none⟩ v2) ∧
    Rd (((v.setCell ⟨B, 0, none⟩ v0).setCell ⟨B, 1, none⟩ v1).setCell ⟨B, 2, none⟩ v2) RM l k ∧ wr.heap.size ≤ B ∧
    (((v.setCell ⟨B, 0, none⟩ v0).setCell ⟨B, 1, none⟩ v1).setCell ⟨B, 2, none⟩ v2).heap[B]? = some (.cells #[v0, v1, v2] t) := by
  refine ⟨box_frN f hB (fr3q v B v0 v1 v2), hr.kept8q (fr3q v B v0 v1 v2) (fun e => hne e.symm) (fun q hq j n => ?_), hB, stored3q h v0 v1 v2⟩
  subst hq
  simp only [World.cell?, h]
  match j with
  | 0 => simp
  | 1 => simp
  | 2 => simp
  | j + 3 => simp
set_option maxRecDepth 100000 in
set_option maxHeartbeats 16000000 in
theorem decodeQ_any (a : Option Addr) (c : Nat) (l : List UInt8) (w : World) (hE : Env w) (hv : IsB w (.slice a l.length c) l) (hl47 : l.length ≤ roomB) :
    Calls Tryz.prog 16 #[.slice a l.length c] w fun e w' => DecQ w w' e (QT.decT l) := by
  have hstc := @run_store_complex Tryz.prog
  have HRd := Lib.hid (read_any a c l w hE hv)
  have HE := Lib.hid hE
  have HL := Lib.hid hl47
  clear hE hv hl47
  go_enter Tryz.func16, Tryz.ntmps16
  go_wp2_with fail
  refine HRd.out.mono ?_
  rintro e v1 ⟨rfl, r1, b1⟩
  have HN := Lib.hid (newQ_any (v1.alloc (.cells #[.pointer (some ⟨w.heap.size, 0, none⟩)] 62)))
  rw [show (v1.alloc (.cells #[.pointer (some ⟨w.heap.size, 0, none⟩)] 62)).heap.size = v1.heap.size + 1 from by simp] at HN
  obtain ⟨RB, hRB⟩ : ∃ b, b = v1.heap.size := ⟨_, rfl⟩
  obtain ⟨bn, hbn⟩ : ∃ b, b = v1.heap.size + 1 := ⟨_, rfl⟩
  obtain ⟨bu, hbu⟩ : ∃ b, b = v1.heap.size + 1 + 1 := ⟨_, rfl⟩
  obtain ⟨T, hT⟩ : ∃ b, b = v1.heap.size + 1 + 1 + 1 := ⟨_, rfl⟩
  have HD := Lib.hid (fun v2 t2 b2 => DsS.init (v2 := v2) (T := T) HL.out r1 b1 hRB hbn hbu t2 (by omega) b2)
  clear HRd r1 b1
  go_wp2_with fail
  refine HN.out.mono ?_
  rintro e v2 ⟨rfl, t2, b2⟩
  rw [← hT, ← hRB]
  have D2 := Lib.hid (HD.out v2 (by rw [hT, hbn, hbu]; exact t2) b2)
  clear HD HN t2 b2 hT hbu hbn hRB
  clear v1
  obtain ⟨RM, hRM⟩ : ∃ b, b = w.heap.size := ⟨_, rfl⟩
  rw [← hRM] at D2
  rw [← hRM]
  clear hRM
  have rb := D2.out.rb
  obtain ⟨cn, la, ka, hp0⟩ : ∃ v l' k', PK.countP 256 l 0 = (v, l', k') := ⟨_, _, _, rfl⟩
  have hcn : cn ≤ 256 := by have := QT.count_cap 256 l 0; rw [show ((256 : Nat) : Int) = 256 from rfl, hp0] at this; exact this
  have hlra : la.length ≤ roomB := by have := QT.count_rest 256 l 0; rw [hp0] at this; exact Nat.le_trans this HL.out
  have HC := Lib.hid (count_any256 RM l 0 v2 (D2.out.env HE.out) D2.out.rd)
  rw [hp0] at HC
  have HP0 := Lib.hid hp0
  clear hp0
  go_wp2_with fail
  refine HC.out.mono ?_
  rintro e v3 ⟨rfl, r3, k3⟩
  have D3 := Lib.hid (D2.out.rdTo k3 r3 hlra)
  have hcn' : (cn : Int) ≤ 281474976710656 := by omega
  have Hcn := Lib.hid hcn
  clear D2 HC r3 k3 rb hlra hcn
  clear v2
  go_wp2_with fail
  go_loopw [7, 8, 19] (fun v7 v8 v19 V => ∃ (j : Nat) (N : List QT.Nd) (lj : List UInt8) (kj : Nat), j ≤ cn ∧ v19 = .int .i64 j ∧ v7 = .string (str (QT.okN N).2) ∧ v8 = .bool (QT.okN N).1 ∧ Hid (QT.readL QT.readNd j la ka = (N, lj, kj)) ∧ Hid (DsS w V RM RB T bn bu lj kj (QT.okN N).1 true j 0 N [])) (fun _ _ v _ => cn - (intOf v).toNat)
  case atStart => exact ⟨0, [], la, ka, Nat.zero_le _, rfl, rfl, rfl, Lib.hid rfl, D3⟩
  case round =>
    obtain ⟨j, N, lj, kj, hj, rfl, rfl, rfl, HR, D⟩ := hrel
    by_cases hlt : j < cn
    · have h1 : (j : Int) < (cn : Int) := by omega
      obtain ⟨s1, l1, k1, hp1⟩ : ∃ v l' k', PK.runP 116 32 lj kj = (v, l', k') := ⟨_, _, _, rfl⟩
      obtain ⟨s2, l2, k2, hp2⟩ : ∃ v l' k', PK.runP 116 32 l1 k1 = (v, l', k') := ⟨_, _, _, rfl⟩
      obtain ⟨n1, m3, j3, hq3⟩ : ∃ v l' k', PK.uintP QT.cap l2 k2 = (v, l', k') := ⟨_, _, _, rfl⟩
      obtain ⟨n2, l3, k3, hp3⟩ : ∃ v l' k', PK.uintP QT.cap m3 j3 = (v, l', k') := ⟨_, _, _, rfl⟩
      obtain ⟨n3, m4, j4, hq4⟩ : ∃ v l' k', PK.uintP QT.cap l3 k3 = (v, l', k') := ⟨_, _, _, rfl⟩
      obtain ⟨n4, l4, k4, hp4⟩ : ∃ v l' k', PK.uintP QT.cap m4 j4 = (v, l', k') := ⟨_, _, _, rfl⟩
      obtain ⟨n5, m5, j5, hq5⟩ : ∃ v l' k', PK.uintP QT.cap l4 k4 = (v, l', k') := ⟨_, _, _, rfl⟩
      obtain ⟨n6, l5, k5, hp5⟩ : ∃ v l' k', PK.uintP QT.cap m5 j5 = (v, l', k') := ⟨_, _, _, rfl⟩
      have hrd : QT.readNd lj kj = (⟨s1, s2, n1, n2, n3, n4, n5, n6⟩, l5, k5) := by simp only [QT.readNd, hp1, hp2, hq3, hp3, hq4, hp4, hq5, hp5]
      have g1 : l1.length ≤ roomB := by have := QT.run_rest lj kj; rw [hp1] at this; exact Nat.le_trans this D.out.lr
      have g2 : l2.length ≤ roomB := by have := QT.run_rest l1 k1; rw [hp2] at this; exact Nat.le_trans this g1
      have g3 : l3.length ≤ roomB := by have a1 := QT.uint_rest QT.cap l2 k2; rw [hq3] at a1; have a2 := QT.uint_rest QT.cap m3 j3; rw [hp3] at a2; exact Nat.le_trans a2 (Nat.le_trans a1 g2)
      have g4 : l4.length ≤ roomB := by have a1 := QT.uint_rest QT.cap l3 k3; rw [hq4] at a1; have a2 := QT.uint_rest QT.cap m4 j4; rw [hp4] at a2; exact Nat.le_trans a2 (Nat.le_trans a1 g3)
      have g5 : l5.length ≤ roomB := by have a1 := QT.uint_rest QT.cap l4 k4; rw [hq5] at a1; have a2 := QT.uint_rest QT.cap m5 j5; rw [hp5] at a2; exact Nat.le_trans a2 (Nat.le_trans a1 g4)
      have hne := D.out.d1.1
      have hgl := D.out.rd.glob
      have E0 : Hid (∀ V, Fr (fun j => j = RM) wr V → Env V) := Lib.hid (fun V f => (D.out.env HE.out).kept f (fun k hk e => by omega))
      have cont : Hid (∀ V, Fr (fun j => j = RM) wr V → (Hid (Fr (fun j => j = RM) wr V) ∧ V.cell? ⟨RB, 0, none⟩ = some (.pointer (some ⟨RM, 0, none⟩)))) := Lib.hid (fun V f => ⟨Lib.hid f, f.cell D.out.rb hne⟩)
      have CT0 : ∀ (l l' : List UInt8) (k k' : Nat) (s : QT.Str), PK.runP 116 32 l k = (s, l', k') → l.length ≤ roomB → Hid (∀ V, (Hid (Fr (fun j => j = RM) wr V) ∧ V.cell? ⟨RB, 0, none⟩ = some (.pointer (some ⟨RM, 0, none⟩))) → Hid (Rd V RM l k) → Calls Tryz.prog 48 #[.pointer (some ⟨RM, 0, none⟩), .int .i64 32] V fun e w' => e = .returned (.string (str s)) ∧ Hid (Rd w' RM l' k') ∧ Hid (Fr (fun i => i = RM) V w') ∧ (Hid (Fr (fun j => j = RM) wr w') ∧ w'.cell? ⟨RB, 0, none⟩ = some (.pointer (some ⟨RM, 0, none⟩)))) := fun l l' k k' s hp hl => Lib.hid (fun V hs hr => (text_any RM l k 32 V (E0.out V hs.1.out) hr.out (by omega) hl).mono fun e w' ⟨q1, q2, q3⟩ => by
        rw [hp] at q1 q2
        exact ⟨q1, Lib.hid q2, Lib.hid q3, cont.out w' (hs.1.out.trans q3)⟩)
      have CA0 : ∀ (l m l' : List UInt8) (k q k' x y : Nat), PK.uintP QT.cap l k = (x, m, q) → PK.uintP QT.cap m q = (y, l', k') → Hid (∀ V, (Hid (Fr (fun j => j = RM) wr V) ∧ V.cell? ⟨RB, 0, none⟩ = some (.pointer (some ⟨RM, 0, none⟩))) → Hid (Rd V RM l k) → Calls Tryz.prog 47 #[.pointer (some ⟨RB, 0, none⟩)] V fun e w' => e = .returned (.complex .f64 (FL.fB x) (FL.fB y)) ∧ Hid (Rd w' RM l' k') ∧ Hid (Fr (fun i => i = RM) V w') ∧ (Hid (Fr (fun j => j = RM) wr w') ∧ w'.cell? ⟨RB, 0, none⟩ = some (.pointer (some ⟨RM, 0, none⟩)))) := fun l m l' k q k' x y hp hq => Lib.hid (fun V hs hr => by
        have h := damount_any RB RM l k V (E0.out V hs.1.out) hr.out hs.2 hne
        rw [hp] at h
        simp only at h
        rw [hq] at h
        exact h.mono fun e w' ⟨q1, q2, q3⟩ => ⟨q1, Lib.hid q2, Lib.hid q3, cont.out w' (hs.1.out.trans q3)⟩)
      have C1 := CT0 lj l1 kj k1 s1 hp1 D.out.lr
      have C2 := CT0 l1 l2 k1 k2 s2 hp2 g1
      have C3 := CA0 l2 m3 l3 k2 j3 k3 n1 n2 hq3 hp3
      have C4 := CA0 l3 m4 l4 k3 j4 k4 n3 n4 hq4 hp4
      have C5 := CA0 l4 m5 l5 k4 j5 k5 n5 n6 hq5 hp5
      have HRd := Lib.hid hrd
      have HG5 := Lib.hid g5
      have Hs1 : Hid (s1.length ≤ 32) := Lib.hid (by have := QT.run32_len lj kj; rw [hp1] at this; exact this)
      have HRM : Hid (RM < wr.heap.size) := Lib.hid (by obtain ⟨_, _, _, hh, _⟩ := D.out.rd; exact (Array.getElem?_eq_some_iff.1 hh).1)
      have S0 := cont.out wr.drew (Fr.refl _ _).drew
      have r0 : Hid (Rd wr.drew RM lj kj) := Lib.hid (D.out.rd.below' ((Below.refl _ _).drew))
      have SA0 := cont.out (wr.alloc (.cells #[.string ⟨#[]⟩, .string ⟨#[]⟩, .complex .f64 0 0, .complex .f64 0 0, .complex .f64 0 0] 50)).drew ((Fr.refl _ _).alloc _).drew
      have RA0 : Hid (Rd (wr.alloc (.cells #[.string ⟨#[]⟩, .string ⟨#[]⟩, .complex .f64 0 0, .complex .f64 0 0, .complex .f64 0 0] 50)).drew RM lj kj) := Lib.hid (D.out.rd.below' ((Below.refl _ _).alloc (Nat.le_refl _) _).drew)
      have SAl : Hid (∀ V, (Hid (Fr (fun j => j = RM) wr V) ∧ V.cell? ⟨RB, 0, none⟩ = some (.pointer (some ⟨RM, 0, none⟩))) → (Hid (Fr (fun j => j = RM) wr (V.alloc (.cells #[.string ⟨#[]⟩, .string ⟨#[]⟩, .complex .f64 0 0, .complex .f64 0 0, .complex .f64 0 0] 50))) ∧ (V.alloc (.cells #[.string ⟨#[]⟩, .string ⟨#[]⟩, .complex .f64 0 0, .complex .f64 0 0, .complex .f64 0 0] 50)).cell? ⟨RB, 0, none⟩ = some (.pointer (some ⟨RM, 0, none⟩)))) := Lib.hid (fun V h => cont.out _ (h.1.out.alloc _))
      have SAv : Hid (∀ V, (Hid (Fr (fun j => j = RM) wr V) ∧ V.cell? ⟨RB, 0, none⟩ = some (.pointer (some ⟨RM, 0, none⟩))) → (Hid (Fr (fun j => j = RM) wr (V.alloc (.cells #[.string (str s1), .string (str s2), .complex .f64 (FL.fB n1) (FL.fB n2), .complex .f64 (FL.fB n3) (FL.fB n4), .complex .f64 (FL.fB n5) (FL.fB n6)] 50))) ∧ (V.alloc (.cells #[.string (str s1), .string (str s2), .complex .f64 (FL.fB n1) (FL.fB n2), .complex .f64 (FL.fB n3) (FL.fB n4), .complex .f64 (FL.fB n5) (FL.fB n6)] 50)).cell? ⟨RB, 0, none⟩ = some (.pointer (some ⟨RM, 0, none⟩)))) := Lib.hid (fun V h => cont.out _ (h.1.out.alloc _))
      have SSt : Hid (∀ (V : World) (B : Nat), (Hid (Fr (fun j => j = RM) wr V) ∧ V.cell? ⟨RB, 0, none⟩ = some (.pointer (some ⟨RM, 0, none⟩))) → wr.heap.size ≤ B → (Hid (Fr (fun j => j = RM) wr (((((V.setCell ⟨B, 0, none⟩ (.string (str s1))).setCell ⟨B, 1, none⟩ (.string (str s2))).setCell ⟨B, 2, none⟩ (.complex .f64 (FL.fB n1) (FL.fB n2))).setCell ⟨B, 3, none⟩ (.complex .f64 (FL.fB n3) (FL.fB n4))).setCell ⟨B, 4, none⟩ (.complex .f64 (FL.fB n5) (FL.fB n6)))) ∧ (((((V.setCell ⟨B, 0, none⟩ (.string (str s1))).setCell ⟨B, 1, none⟩ (.string (str s2))).setCell ⟨B, 2, none⟩ (.complex .f64 (FL.fB n1) (FL.fB n2))).setCell ⟨B, 3, none⟩ (.complex .f64 (FL.fB n3) (FL.fB n4))).setCell ⟨B, 4, none⟩ (.complex .f64 (FL.fB n5) (FL.fB n6))).cell? ⟨RB, 0, none⟩ = some (.pointer (some ⟨RM, 0, none⟩)))) := Lib.hid (fun V B h hB => cont.out _ (box_frN h.1.out hB (fr5 V B _ _ _ _ _)))
      have RAl0 : ∀ (l : List UInt8) (k : Nat), Hid (∀ V, Hid (Rd V RM l k) → Hid (Rd (V.alloc (.cells #[.string ⟨#[]⟩, .string ⟨#[]⟩, .complex .f64 0 0, .complex .f64 0 0, .complex .f64 0 0] 50)) RM l k)) := fun l k => Lib.hid (fun V h => Lib.hid (h.out.below' ((Below.refl _ _).alloc (Nat.le_refl _) _)))
      have RAl1 := RAl0 l1 k1
      have RAl2 := RAl0 l2 k2
      have RAl3 := RAl0 l3 k3
      have RAl4 := RAl0 l4 k4
      have rb := D.out.rb
      clear RAl0 CT0 CA0 E0 cont hp1 hp2 hq3 hp3 hq4 hp4 hq5 hp5 hrd g1 g2 g3 g4 g5 hne hgl
      clear m3 m4 m5 j3 j4 j5
      go_upto_region 8 with fail
      go_cut [9] (fun v9 V => ∃ B, v9 = .pointer (some ⟨B, 0, none⟩) ∧ Hid (Fr (fun j => j = RM) wr V ∧ Rd V RM l5 k5 ∧ wr.heap.size ≤ B ∧ V.heap[B]? = some (.cells #[.string (str s1), .string (str s2), .complex .f64 (FL.fB n1) (FL.fB n2), .complex .f64 (FL.fB n3) (FL.fB n4), .complex .f64 (FL.fB n5) (FL.fB n6)] 50)))
      case first =>
        go_wp2_with fail
        refine wp_region_noPanic ?_
        refine wp_region_held_drew (S := fun V => (Hid (Fr (fun j => j = RM) wr V) ∧ V.cell? ⟨RB, 0, none⟩ = some (.pointer (some ⟨RM, 0, none⟩)))) (by kernel_rfl) S0 (fun hHeld => ?_)
        refine rTk 0 ?_; try simp only [Act.put, rP1, rP2, rP3]
        refine rTk 2 ?_; try simp only [Act.put, rP1, rP2, rP3]
        refine rTk 4 ?_; try simp only [Act.put, rP1, rP2, rP3]
        refine rTk 6 ?_; try simp only [Act.put, rP1, rP2, rP3]
        refine rTk 8 ?_; try simp only [Act.put, rP1, rP2, rP3]
        refine wpAnyH_ready (rs := [1, 11]) (by kernel_rfl) (by simp) ?_
        refine AllReadyH.cons (List.getElem?_toArray.trans rfl) (fun K hK => ?cc) (AllReadyH.cons (List.getElem?_toArray.trans rfl) (fun K hK => ?aa) (AllReadyH.nil))
        case cc =>
          go_simp
          go_at_call 48
          refine (C1.out _ ?_ r0).mono ?_
          assumption
          rintro e v1 ⟨rfl, r1, f1, k1⟩
          try (go_wp2_with fail)
          refine hK.out _ _ (by (try dsimp only); assumption) (fun hHeld => ?_)
          clear hK K
          try simp only [Act.put, rP1, rP2, rP3]
          refine wpAnyH_ready (rs := [3, 11]) (by kernel_rfl) (by simp) ?_
          refine AllReadyH.cons (List.getElem?_toArray.trans rfl) (fun K hK => ?ccc) (AllReadyH.cons (List.getElem?_toArray.trans rfl) (fun K hK => ?aac) (AllReadyH.nil))
          case ccc =>
            go_simp
            go_at_call 48
            refine (C2.out _ ?_ r1).mono ?_
            assumption
            rintro e v2 ⟨rfl, r2, f2, k2⟩
            try (go_wp2_with fail)
            refine hK.out _ _ (by (try dsimp only); assumption) (fun hHeld => ?_)
            clear hK K
            try simp only [Act.put, rP1, rP2, rP3]
            refine wpAnyH_ready (rs := [5, 11]) (by kernel_rfl) (by simp) ?_
            refine AllReadyH.cons (List.getElem?_toArray.trans rfl) (fun K hK => ?cccc) (AllReadyH.cons (List.getElem?_toArray.trans rfl) (fun K hK => ?aacc) (AllReadyH.nil))
            case cccc =>
              go_simp
              go_at_call 47
              refine (C3.out _ ?_ r2).mono ?_
              assumption
              rintro e v3 ⟨rfl, r3, f3, k3⟩
              try (go_wp2_with fail)
              refine hK.out _ _ (by (try dsimp only); assumption) (fun hHeld => ?_)
              clear hK K
              try simp only [Act.put, rP1, rP2, rP3]
              refine wpAnyH_ready (rs := [7, 11]) (by kernel_rfl) (by simp) ?_
              refine AllReadyH.cons (List.getElem?_toArray.trans rfl) (fun K hK => ?ccccc) (AllReadyH.cons (List.getElem?_toArray.trans rfl) (fun K hK => ?aaccc) (AllReadyH.nil))
              case ccccc =>
                go_simp
                go_at_call 47
                refine (C4.out _ ?_ r3).mono ?_
                assumption
                rintro e v4 ⟨rfl, r4, f4, k4⟩
                try (go_wp2_with fail)
                refine hK.out _ _ (by (try dsimp only); assumption) (fun hHeld => ?_)
                clear hK K
                try simp only [Act.put, rP1, rP2, rP3]
                refine wpAnyH_ready (rs := [9, 11]) (by kernel_rfl) (by simp) ?_
                refine AllReadyH.cons (List.getElem?_toArray.trans rfl) (fun K hK => ?cccccc) (AllReadyH.cons (List.getElem?_toArray.trans rfl) (fun K hK => ?aacccc) (AllReadyH.nil))
                case cccccc =>
                  go_simp
                  go_at_call 47
                  refine (C5.out _ ?_ r4).mono ?_
                  assumption
                  rintro e v5 ⟨rfl, r5, f5, k5⟩
                  try (go_wp2_with fail)
                  refine hK.out _ _ (by (try dsimp only); assumption) (fun hHeld => ?_)
                  clear hK K
                  try simp only [Act.put, rP1, rP2, rP3]
                  refine rTk 10 ?_; try simp only [Act.put, rP1, rP2, rP3]
                  refine rBr 11 fun K hK => ?hhccccc
                  case hhccccc =>
                    go_simp
                    have kal := SAl.out v5 k5
                    have kv := SAv.out v5 k5
                    refine hK.out _ _ (by (try dsimp only); assumption) (fun hHeld => ?_)
                    clear hK K
                    try simp only [Act.put, rP1, rP2, rP3]
                    refine rBr 12 fun K hK => ?iiccccc
                    case iiccccc =>
                      go_simp
                      try (go_wp2_with fail)
                      refine hK.out _ _ (by (try dsimp only); assumption) (fun hHeld => ?_)
                      clear hK K
                      try simp only [Act.put, rP1, rP2, rP3]
                      refine wpAnyH_done (by kernel_rfl) ?_ _
                      refine NoPanic.normal ?_
                      go_wp2_with fail
                      go_meet
                      exact ⟨v5.heap.size, rfl, Lib.hid (box_late r5.out k5.1.out _)⟩
                case aacccc =>
                  go_simp
                  have kal := SAl.out v4 k4
                  have rz := RAl4.out v4 r4
                  refine hK.out _ _ (by (try dsimp only); assumption) (fun hHeld => ?_)
                  clear hK K
                  try simp only [Act.put, rP1, rP2, rP3]
                  have hB : Hid ((v4.alloc (.cells #[.string ⟨#[]⟩, .string ⟨#[]⟩, .complex .f64 0 0, .complex .f64 0 0, .complex .f64 0 0] 50)).heap[v4.heap.size]? = some (.cells #[.string ⟨#[]⟩, .string ⟨#[]⟩, .complex .f64 0 0, .complex .f64 0 0, .complex .f64 0 0] 50)) := Lib.hid (heap_alloc_new v4 (.cells #[.string ⟨#[]⟩, .string ⟨#[]⟩, .complex .f64 0 0, .complex .f64 0 0, .complex .f64 0 0] 50))
                  have HsB : Hid (wr.heap.size ≤ v4.heap.size) := Lib.hid (k4.1.out.size)
                  have HneB : Hid (¬ v4.heap.size = RM) := Lib.hid (by have := HsB.out; have := HRM.out; omega)
                  refine rBr 9 fun K hK => ?ddcccca
                  case ddcccca =>
                    go_simp
                    go_at_call 47
                    refine (C5.out _ ?_ rz).mono ?_
                    assumption
                    rintro e v5 ⟨rfl, r5, f5, k5⟩
                    replace hB := Lib.hid (f5.out.heap hB.out HneB.out)
                    try (go_wp2_with fail)
                    refine hK.out _ _ (by (try dsimp only); assumption) (fun hHeld => ?_)
                    clear hK K
                    try simp only [Act.put, rP1, rP2, rP3]
                    refine rTk 10 ?_; try simp only [Act.put, rP1, rP2, rP3]
                    refine rBr 12 fun K hK => ?iiccccad
                    case iiccccad =>
                      obtain ⟨⟨z0, z1, z2, z3, z4⟩, g0, g1, g2, g3, g4⟩ := cells5f hB.out
                      have kv := SSt.out v5 v4.heap.size k5 HsB.out
                      go_simp
                      try (go_wp2_with fail)
                      refine hK.out _ _ (by (try dsimp only); assumption) (fun hHeld => ?_)
                      clear hK K
                      try simp only [Act.put, rP1, rP2, rP3]
                      refine wpAnyH_done (by kernel_rfl) ?_ _
                      refine NoPanic.normal ?_
                      go_wp2_with fail
                      go_meet
                      exact ⟨v4.heap.size, rfl, Lib.hid (box_earlyN r5.out k5.1.out HsB.out HneB.out hB.out _ _ _ _ _)⟩
              case aaccc =>
                go_simp
                have kal := SAl.out v3 k3
                have rz := RAl3.out v3 r3
                refine hK.out _ _ (by (try dsimp only); assumption) (fun hHeld => ?_)
                clear hK K
                try simp only [Act.put, rP1, rP2, rP3]
                have hB : Hid ((v3.alloc (.cells #[.string ⟨#[]⟩, .string ⟨#[]⟩, .complex .f64 0 0, .complex .f64 0 0, .complex .f64 0 0] 50)).heap[v3.heap.size]? = some (.cells #[.string ⟨#[]⟩, .string ⟨#[]⟩, .complex .f64 0 0, .complex .f64 0 0, .complex .f64 0 0] 50)) := Lib.hid (heap_alloc_new v3 (.cells #[.string ⟨#[]⟩, .string ⟨#[]⟩, .complex .f64 0 0, .complex .f64 0 0, .complex .f64 0 0] 50))
                have HsB : Hid (wr.heap.size ≤ v3.heap.size) := Lib.hid (k3.1.out.size)
                have HneB : Hid (¬ v3.heap.size = RM) := Lib.hid (by have := HsB.out; have := HRM.out; omega)
                refine rBr 7 fun K hK => ?ddccca
                case ddccca =>
                  go_simp
                  go_at_call 47
                  refine (C4.out _ ?_ rz).mono ?_
                  assumption
                  rintro e v4 ⟨rfl, r4, f4, k4⟩
                  replace hB := Lib.hid (f4.out.heap hB.out HneB.out)
                  try (go_wp2_with fail)
                  refine hK.out _ _ (by (try dsimp only); assumption) (fun hHeld => ?_)
                  clear hK K
                  try simp only [Act.put, rP1, rP2, rP3]
                  refine rBr 9 fun K hK => ?ddcccad
                  case ddcccad =>
                    go_simp
                    go_at_call 47
                    refine (C5.out _ ?_ r4).mono ?_
                    assumption
                    rintro e v5 ⟨rfl, r5, f5, k5⟩
                    replace hB := Lib.hid (f5.out.heap hB.out HneB.out)
                    try (go_wp2_with fail)
                    refine hK.out _ _ (by (try dsimp only); assumption) (fun hHeld => ?_)
                    clear hK K
                    try simp only [Act.put, rP1, rP2, rP3]
                    refine rTk 10 ?_; try simp only [Act.put, rP1, rP2, rP3]
                    refine rBr 12 fun K hK => ?iicccadd
                    case iicccadd =>
                      obtain ⟨⟨z0, z1, z2, z3, z4⟩, g0, g1, g2, g3, g4⟩ := cells5f hB.out
                      have kv := SSt.out v5 v3.heap.size k5 HsB.out
                      go_simp
                      try (go_wp2_with fail)
                      refine hK.out _ _ (by (try dsimp only); assumption) (fun hHeld => ?_)
                      clear hK K
                      try simp only [Act.put, rP1, rP2, rP3]
                      refine wpAnyH_done (by kernel_rfl) ?_ _
                      refine NoPanic.normal ?_
                      go_wp2_with fail
                      go_meet
                      exact ⟨v3.heap.size, rfl, Lib.hid (box_earlyN r5.out k5.1.out HsB.out HneB.out hB.out _ _ _ _ _)⟩
            case aacc =>
              go_simp
              have kal := SAl.out v2 k2
              have rz := RAl2.out v2 r2
              refine hK.out _ _ (by (try dsimp only); assumption) (fun hHeld => ?_)
              clear hK K
              try simp only [Act.put, rP1, rP2, rP3]
              have hB : Hid ((v2.alloc (.cells #[.string ⟨#[]⟩, .string ⟨#[]⟩, .complex .f64 0 0, .complex .f64 0 0, .complex .f64 0 0] 50)).heap[v2.heap.size]? = some (.cells #[.string ⟨#[]⟩, .string ⟨#[]⟩, .complex .f64 0 0, .complex .f64 0 0, .complex .f64 0 0] 50)) := Lib.hid (heap_alloc_new v2 (.cells #[.string ⟨#[]⟩, .string ⟨#[]⟩, .complex .f64 0 0, .complex .f64 0 0, .complex .f64 0 0] 50))
              have HsB : Hid (wr.heap.size ≤ v2.heap.size) := Lib.hid (k2.1.out.size)
              have HneB : Hid (¬ v2.heap.size = RM) := Lib.hid (by have := HsB.out; have := HRM.out; omega)
              refine rBr 5 fun K hK => ?ddcca
              case ddcca =>
                go_simp
                go_at_call 47
                refine (C3.out _ ?_ rz).mono ?_
                assumption
                rintro e v3 ⟨rfl, r3, f3, k3⟩
                replace hB := Lib.hid (f3.out.heap hB.out HneB.out)
                try (go_wp2_with fail)
                refine hK.out _ _ (by (try dsimp only); assumption) (fun hHeld => ?_)
                clear hK K
                try simp only [Act.put, rP1, rP2, rP3]
                refine rBr 7 fun K hK => ?ddccad
                case ddccad =>
                  go_simp
                  go_at_call 47
                  refine (C4.out _ ?_ r3).mono ?_
                  assumption
                  rintro e v4 ⟨rfl, r4, f4, k4⟩
                  replace hB := Lib.hid (f4.out.heap hB.out HneB.out)
                  try (go_wp2_with fail)
                  refine hK.out _ _ (by (try dsimp only); assumption) (fun hHeld => ?_)
                  clear hK K
                  try simp only [Act.put, rP1, rP2, rP3]
                  refine rBr 9 fun K hK => ?ddccadd
                  case ddccadd =>
                    go_simp
                    go_at_call 47
                    refine (C5.out _ ?_ r4).mono ?_
                    assumption
                    rintro e v5 ⟨rfl, r5, f5, k5⟩
                    replace hB := Lib.hid (f5.out.heap hB.out HneB.out)
                    try (go_wp2_with fail)
                    refine hK.out _ _ (by (try dsimp only); assumption) (fun hHeld => ?_)
                    clear hK K
                    try simp only [Act.put, rP1, rP2, rP3]
                    refine rTk 10 ?_; try simp only [Act.put, rP1, rP2, rP3]
                    refine rBr 12 fun K hK => ?iiccaddd
                    case iiccaddd =>
                      obtain ⟨⟨z0, z1, z2, z3, z4⟩, g0, g1, g2, g3, g4⟩ := cells5f hB.out
                      have kv := SSt.out v5 v2.heap.size k5 HsB.out
                      go_simp
                      try (go_wp2_with fail)
                      refine hK.out _ _ (by (try dsimp only); assumption) (fun hHeld => ?_)
                      clear hK K
                      try simp only [Act.put, rP1, rP2, rP3]
                      refine wpAnyH_done (by kernel_rfl) ?_ _
                      refine NoPanic.normal ?_
                      go_wp2_with fail
                      go_meet
                      exact ⟨v2.heap.size, rfl, Lib.hid (box_earlyN r5.out k5.1.out HsB.out HneB.out hB.out _ _ _ _ _)⟩
          case aac =>
            go_simp
            have kal := SAl.out v1 k1
            have rz := RAl1.out v1 r1
            refine hK.out _ _ (by (try dsimp only); assumption) (fun hHeld => ?_)
            clear hK K
            try simp only [Act.put, rP1, rP2, rP3]
            have hB : Hid ((v1.alloc (.cells #[.string ⟨#[]⟩, .string ⟨#[]⟩, .complex .f64 0 0, .complex .f64 0 0, .complex .f64 0 0] 50)).heap[v1.heap.size]? = some (.cells #[.string ⟨#[]⟩, .string ⟨#[]⟩, .complex .f64 0 0, .complex .f64 0 0, .complex .f64 0 0] 50)) := Lib.hid (heap_alloc_new v1 (.cells #[.string ⟨#[]⟩, .string ⟨#[]⟩, .complex .f64 0 0, .complex .f64 0 0, .complex .f64 0 0] 50))
            have HsB : Hid (wr.heap.size ≤ v1.heap.size) := Lib.hid (k1.1.out.size)
            have HneB : Hid (¬ v1.heap.size = RM) := Lib.hid (by have := HsB.out; have := HRM.out; omega)
            refine rBr 3 fun K hK => ?ddca
            case ddca =>
              go_simp
              go_at_call 48
              refine (C2.out _ ?_ rz).mono ?_
              assumption
              rintro e v2 ⟨rfl, r2, f2, k2⟩
              replace hB := Lib.hid (f2.out.heap hB.out HneB.out)
              try (go_wp2_with fail)
              refine hK.out _ _ (by (try dsimp only); assumption) (fun hHeld => ?_)
              clear hK K
              try simp only [Act.put, rP1, rP2, rP3]
              refine rBr 5 fun K hK => ?ddcad
              case ddcad =>
                go_simp
                go_at_call 47
                refine (C3.out _ ?_ r2).mono ?_
                assumption
                rintro e v3 ⟨rfl, r3, f3, k3⟩
                replace hB := Lib.hid (f3.out.heap hB.out HneB.out)
                try (go_wp2_with fail)
                refine hK.out _ _ (by (try dsimp only); assumption) (fun hHeld => ?_)
                clear hK K
                try simp only [Act.put, rP1, rP2, rP3]
                refine rBr 7 fun K hK => ?ddcadd
                case ddcadd =>
                  go_simp
                  go_at_call 47
                  refine (C4.out _ ?_ r3).mono ?_
                  assumption
                  rintro e v4 ⟨rfl, r4, f4, k4⟩
                  replace hB := Lib.hid (f4.out.heap hB.out HneB.out)
                  try (go_wp2_with fail)
                  refine hK.out _ _ (by (try dsimp only); assumption) (fun hHeld => ?_)
                  clear hK K
                  try simp only [Act.put, rP1, rP2, rP3]
                  refine rBr 9 fun K hK => ?ddcaddd
                  case ddcaddd =>
                    go_simp
                    go_at_call 47
                    refine (C5.out _ ?_ r4).mono ?_
                    assumption
                    rintro e v5 ⟨rfl, r5, f5, k5⟩
                    replace hB := Lib.hid (f5.out.heap hB.out HneB.out)
                    try (go_wp2_with fail)
                    refine hK.out _ _ (by (try dsimp only); assumption) (fun hHeld => ?_)
                    clear hK K
                    try simp only [Act.put, rP1, rP2, rP3]
                    refine rTk 10 ?_; try simp only [Act.put, rP1, rP2, rP3]
                    refine rBr 12 fun K hK => ?iicadddd
                    case iicadddd =>
                      obtain ⟨⟨z0, z1, z2, z3, z4⟩, g0, g1, g2, g3, g4⟩ := cells5f hB.out
                      have kv := SSt.out v5 v1.heap.size k5 HsB.out
                      go_simp
                      try (go_wp2_with fail)
                      refine hK.out _ _ (by (try dsimp only); assumption) (fun hHeld => ?_)
                      clear hK K
                      try simp only [Act.put, rP1, rP2, rP3]
                      refine wpAnyH_done (by kernel_rfl) ?_ _
                      refine NoPanic.normal ?_
                      go_wp2_with fail
                      go_meet
                      exact ⟨v1.heap.size, rfl, Lib.hid (box_earlyN r5.out k5.1.out HsB.out HneB.out hB.out _ _ _ _ _)⟩
        case aa =>
          go_simp
          have kal := SA0
          have rz := RA0
          refine hK.out _ _ (by (try dsimp only); assumption) (fun hHeld => ?_)
          clear hK K
          try simp only [Act.put, rP1, rP2, rP3]
          have hB : Hid ((wr.alloc (.cells #[.string ⟨#[]⟩, .string ⟨#[]⟩, .complex .f64 0 0, .complex .f64 0 0, .complex .f64 0 0] 50)).drew.heap[wr.heap.size]? = some (.cells #[.string ⟨#[]⟩, .string ⟨#[]⟩, .complex .f64 0 0, .complex .f64 0 0, .complex .f64 0 0] 50)) := Lib.hid (heap_alloc_new wr (.cells #[.string ⟨#[]⟩, .string ⟨#[]⟩, .complex .f64 0 0, .complex .f64 0 0, .complex .f64 0 0] 50))
          have HsB : Hid (wr.heap.size ≤ wr.heap.size) := Lib.hid (Nat.le_refl _)
          have HneB : Hid (¬ wr.heap.size = RM) := Lib.hid (by have := HsB.out; have := HRM.out; omega)
          refine rBr 1 fun K hK => ?dda
          case dda =>
            go_simp
            go_at_call 48
            refine (C1.out _ ?_ rz).mono ?_
            assumption
            rintro e v1 ⟨rfl, r1, f1, k1⟩
            replace hB := Lib.hid (f1.out.heap hB.out HneB.out)
            try (go_wp2_with fail)
            refine hK.out _ _ (by (try dsimp only); assumption) (fun hHeld => ?_)
            clear hK K
            try simp only [Act.put, rP1, rP2, rP3]
            refine rBr 3 fun K hK => ?ddad
            case ddad =>
              go_simp
              go_at_call 48
              refine (C2.out _ ?_ r1).mono ?_
              assumption
              rintro e v2 ⟨rfl, r2, f2, k2⟩
              replace hB := Lib.hid (f2.out.heap hB.out HneB.out)
              try (go_wp2_with fail)
              refine hK.out _ _ (by (try dsimp only); assumption) (fun hHeld => ?_)
              clear hK K
              try simp only [Act.put, rP1, rP2, rP3]
              refine rBr 5 fun K hK => ?ddadd
              case ddadd =>
                go_simp
                go_at_call 47
                refine (C3.out _ ?_ r2).mono ?_
                assumption
                rintro e v3 ⟨rfl, r3, f3, k3⟩
                replace hB := Lib.hid (f3.out.heap hB.out HneB.out)
                try (go_wp2_with fail)
                refine hK.out _ _ (by (try dsimp only); assumption) (fun hHeld => ?_)
                clear hK K
                try simp only [Act.put, rP1, rP2, rP3]
                refine rBr 7 fun K hK => ?ddaddd
                case ddaddd =>
                  go_simp
                  go_at_call 47
                  refine (C4.out _ ?_ r3).mono ?_
                  assumption
                  rintro e v4 ⟨rfl, r4, f4, k4⟩
                  replace hB := Lib.hid (f4.out.heap hB.out HneB.out)
                  try (go_wp2_with fail)
                  refine hK.out _ _ (by (try dsimp only); assumption) (fun hHeld => ?_)
                  clear hK K
                  try simp only [Act.put, rP1, rP2, rP3]
                  refine rBr 9 fun K hK => ?ddadddd
                  case ddadddd =>
                    go_simp
                    go_at_call 47
                    refine (C5.out _ ?_ r4).mono ?_
                    assumption
                    rintro e v5 ⟨rfl, r5, f5, k5⟩
                    replace hB := Lib.hid (f5.out.heap hB.out HneB.out)
                    try (go_wp2_with fail)
                    refine hK.out _ _ (by (try dsimp only); assumption) (fun hHeld => ?_)
                    clear hK K
                    try simp only [Act.put, rP1, rP2, rP3]
                    refine rTk 10 ?_; try simp only [Act.put, rP1, rP2, rP3]
                    refine rBr 12 fun K hK => ?iiaddddd
                    case iiaddddd =>
                      obtain ⟨⟨z0, z1, z2, z3, z4⟩, g0, g1, g2, g3, g4⟩ := cells5f hB.out
                      have kv := SSt.out v5 wr.heap.size k5 HsB.out
                      go_simp
                      try (go_wp2_with fail)
                      refine hK.out _ _ (by (try dsimp only); assumption) (fun hHeld => ?_)
                      clear hK K
                      try simp only [Act.put, rP1, rP2, rP3]
                      refine wpAnyH_done (by kernel_rfl) ?_ _
                      refine NoPanic.normal ?_
                      go_wp2_with fail
                      go_meet
                      exact ⟨wr.heap.size, rfl, Lib.hid (box_earlyN r5.out k5.1.out HsB.out HneB.out hB.out _ _ _ _ _)⟩
      case rest =>
        clear C1 C2 C3 C4 C5 S0 r0 SA0 RA0 SAl SAv SSt RAl1 RAl2 RAl3 RAl4
        obtain ⟨B, rfl, HW⟩ := hcut
        have D5 := D.out.rdTo HW.out.1 HW.out.2.1 HG5.out
        obtain ⟨⟨z0, z1, z2, z3, z4⟩, _⟩ := cells5f HW.out.2.2.2
        have ht := D5.tr.tb
        obtain ⟨t0, t1, _, _⟩ := cells2 ht
        have hBn : ¬ B = bn := by have h1 := HW.out.2.2.1; have h2 := D.out.tr.mN.lt; omega
        have hTn := D5.tr.ne.2.1
        have hs1 := Hs1.out
        have NC : Hid (Calls Tryz.prog 49 #[.string (str s1)] wc fun e w' => e = .returned (.bool (QT.nameP s1)) ∧ wc = w') := Lib.hid (by
          have := named_any (str s1) wc (by rw [str_size]; omega)
          rw [str_list] at this
          exact this)
        obtain ⟨x, hx⟩ : ∃ x : QT.Nd, x = ⟨s1, s2, n1, n2, n3, n4, n5, n6⟩ := ⟨_, rfl⟩
        have hsn := QT.okN_snoc N x
        have D6 : DsS w wc.drew RM RB T bn bu l5 k5 (QT.okN N).1 true j 0 N [] := D5.below (Below.refl _ _).drew
        obtain ⟨w6, hput, hm, hf⟩ := D6.tr.mN.put Tryz.underlying118 (by have := Hcn.out; omega) x (by rw [hx]; simp only; omega) (ok' := (QT.okN (N ++ [x])).1) (fun e => QT.okN_fresh e)
        have D7 := Lib.hid (D6.putN hf hm)
        have hread : QT.readL QT.readNd (j + 1) la ka = (N ++ [x], l5, k5) := by
          rw [QT.readL_snoc, HR.out, HRd.out, hx]
        have HRn := Lib.hid hread
        rw [vNd, hx] at hput
        have e7 : (QT.okN (N ++ [x])).2 = s1 := by rw [hsn, QT.stepO, hx]
        have e8 : (QT.okN (N ++ [x])).1 = ((QT.okN N).1 && QT.nameP s1 && QT.gtS s1 (QT.okN N).2) := by rw [hsn, QT.stepO, hx, Bool.and_true]
        have E7 := Lib.hid e7
        have E8 := Lib.hid e8
        have S0 : (wc.drew.cell? ⟨T, 0, none⟩ = some (.map (some bn)) ∧ wc.drew.cell? ⟨B, 0, none⟩ = some (.string (str s1)) ∧ wc.drew.cell? ⟨B, 1, none⟩ = some (.string (str s2)) ∧ wc.drew.cell? ⟨B, 2, none⟩ = some (.complex .f64 (FL.fB n1) (FL.fB n2)) ∧ wc.drew.cell? ⟨B, 3, none⟩ = some (.complex .f64 (FL.fB n3) (FL.fB n4)) ∧ wc.drew.cell? ⟨B, 4, none⟩ = some (.complex .f64 (FL.fB n5) (FL.fB n6))) := ⟨t0, z0, z1, z2, z3, z4⟩
        have S6 : (w6.cell? ⟨T, 0, none⟩ = some (.map (some bn)) ∧ w6.cell? ⟨B, 0, none⟩ = some (.string (str s1)) ∧ w6.cell? ⟨B, 1, none⟩ = some (.string (str s2)) ∧ w6.cell? ⟨B, 2, none⟩ = some (.complex .f64 (FL.fB n1) (FL.fB n2)) ∧ w6.cell? ⟨B, 3, none⟩ = some (.complex .f64 (FL.fB n3) (FL.fB n4)) ∧ w6.cell? ⟨B, 4, none⟩ = some (.complex .f64 (FL.fB n5) (FL.fB n6))) := ⟨hf.cell t0 hTn, hf.cell z0 hBn, hf.cell z1 hBn, hf.cell z2 hBn, hf.cell z3 hBn, hf.cell z4 hBn⟩
        clear hread hsn hx e7 e8 hm hf D5 D6 ht hBn hTn hs1 HW D HR HRd HG5 HRM
        generalize QT.okN N = O at *
        obtain ⟨ok, lst⟩ := O
        simp only at E8 ⊢
        go_upto_region 9 with fail
        go_cut [8] (fun v8 V => v8 = .bool (ok && QT.nameP s1 && QT.gtS s1 lst) ∧ V = wc)
        case first =>
          cases ok with
          | false =>
            go_wp2_with fail
            go_meet
            exact ⟨rfl, rfl⟩
          | true =>
            go_wp2_with fail
            refine NC.out.mono ?_
            rintro e w1 ⟨rfl, rfl⟩
            cases hnm : QT.nameP s1 with
            | false =>
              go_wp2_with fail
              go_meet
              exact ⟨by rw [hnm]; rfl, rfl⟩
            | true =>
              go_wp2_with fail
              go_meet
              exact ⟨by rw [hnm, QT.gtS, str_toList, str_toList, Bool.not_or]; rfl, rfl⟩
        case rest =>
          obtain ⟨rfl, rfl⟩ := hcut
          clear NC
          rw [← E8.out]
          go_wp2_with fail
          refine wp_region_noPanic ?_
          refine wp_region_held_drew (S := fun V => (V.cell? ⟨T, 0, none⟩ = some (.map (some bn)) ∧ V.cell? ⟨B, 0, none⟩ = some (.string (str s1)) ∧ V.cell? ⟨B, 1, none⟩ = some (.string (str s2)) ∧ V.cell? ⟨B, 2, none⟩ = some (.complex .f64 (FL.fB n1) (FL.fB n2)) ∧ V.cell? ⟨B, 3, none⟩ = some (.complex .f64 (FL.fB n3) (FL.fB n4)) ∧ V.cell? ⟨B, 4, none⟩ = some (.complex .f64 (FL.fB n5) (FL.fB n6)))) (by kernel_rfl) S0 (fun hHeld => ?_)
          refine rTk 0 ?_; try simp only [Act.put, rP1, rP2, rP3]
          refine rTk 1 ?_; try simp only [Act.put, rP1, rP2, rP3]
          refine rTk 2 ?_; try simp only [Act.put, rP1, rP2, rP3]
          refine rTk 3 ?_; try simp only [Act.put, rP1, rP2, rP3]
          refine rTk 4 ?_; try simp only [Act.put, rP1, rP2, rP3]
          refine rTk 5 ?_; try simp only [Act.put, rP1, rP2, rP3]
          refine rTk 6 ?_; try simp only [Act.put, rP1, rP2, rP3]
          refine rBr 7 fun K hK => ?_
          go_simp
          refine hK.out _ _ (by (try dsimp only); assumption) (fun hHeld => ?_)
          clear hK K
          try simp only [Act.put, rP1, rP2, rP3]
          refine wpAnyH_done (by kernel_rfl) ?_ _
          refine NoPanic.normal ?_
          clear hHeld S6
          go_wp2
          exact ⟨⟨j + 1, N ++ [x], l5, k5, hlt, by simp, by rw [E7.out], rfl, HRn, D7⟩, by simp [intOf]; omega⟩
    · obtain rfl : j = cn := by omega
      have hjj : ¬ ((j : Int) < (j : Int)) := by omega
      obtain ⟨cu, lb, kb, hp9⟩ : ∃ v l' k', PK.countP 1024 lj kj = (v, l', k') := ⟨_, _, _, rfl⟩
      have hcu : cu ≤ 1024 := by have := QT.count_cap 1024 lj kj; rw [show ((1024 : Nat) : Int) = 1024 from rfl, hp9] at this; exact this
      have hlrb : lb.length ≤ roomB := by have := QT.count_rest 1024 lj kj; rw [hp9] at this; exact Nat.le_trans this D.out.lr
      have HC := Lib.hid (count_any1024 RM lj kj wr (D.out.env HE.out) D.out.rd)
      rw [hp9] at HC
      have HP9 := Lib.hid hp9
      have rb := D.out.rb
      clear hp9 D3
      go_wp2_with fail
      refine HC.out.mono ?_
      rintro e v4 ⟨rfl, r4, k4⟩
      have D4 : Hid (DsS w v4 RM RB T bn bu lb kb (QT.okN N).1 (QT.okV N []).1 j 0 N []) := Lib.hid ((D.out.rdTo k4 r4 hlrb).okU _)
      have hcu' : (cu : Int) ≤ 281474976710656 := by omega
      have Hcu := Lib.hid hcu
      rw [show (QT.okN N).1 = (QT.okV N []).1 from rfl]
      clear D HC r4 k4 rb hlrb hcu
      clear wr
      go_wp2_with fail
      go_loopw [7, 8, 56] (fun v7 v8 v56 V => ∃ (i : Nat) (U : List QT.Us) (li : List UInt8) (ki : Nat), i ≤ cu ∧ v56 = .int .i64 i ∧ v7 = .string (str (QT.okV N U).2) ∧ v8 = .bool (QT.okV N U).1 ∧ Hid (QT.readL QT.readUs i lb kb = (U, li, ki)) ∧ Hid (DsS w V RM RB T bn bu li ki (QT.okN N).1 (QT.okV N U).1 j i N U)) (fun _ _ v _ => cu - (intOf v).toNat)
      case atStart => exact ⟨0, [], lb, kb, Nat.zero_le _, rfl, rfl, rfl, Lib.hid rfl, D4⟩
      case round =>
        obtain ⟨i, U, li, ki, hi, rfl, rfl, rfl, HRu, D⟩ := hrel
        by_cases hlt : i < cu
        · have h1 : (i : Int) < (cu : Int) := by omega
          obtain ⟨s1, l1, k1, hp1⟩ : ∃ v l' k', PK.runP 116 32 li ki = (v, l', k') := ⟨_, _, _, rfl⟩
          obtain ⟨s2, l2, k2, hp2⟩ : ∃ v l' k', PK.runP 116 32 l1 k1 = (v, l', k') := ⟨_, _, _, rfl⟩
          obtain ⟨n1, m3, j3, hq3⟩ : ∃ v l' k', PK.uintP QT.cap l2 k2 = (v, l', k') := ⟨_, _, _, rfl⟩
          obtain ⟨n2, l3, k3, hp3⟩ : ∃ v l' k', PK.uintP QT.cap m3 j3 = (v, l', k') := ⟨_, _, _, rfl⟩
          have hrd : QT.readUs li ki = (⟨s1, s2, n1, n2⟩, l3, k3) := by simp only [QT.readUs, hp1, hp2, hq3, hp3]
          have g1 : l1.length ≤ roomB := by have := QT.run_rest li ki; rw [hp1] at this; exact Nat.le_trans this D.out.lr
          have g2 : l2.length ≤ roomB := by have := QT.run_rest l1 k1; rw [hp2] at this; exact Nat.le_trans this g1
          have g3 : l3.length ≤ roomB := by have a1 := QT.uint_rest QT.cap l2 k2; rw [hq3] at a1; have a2 := QT.uint_rest QT.cap m3 j3; rw [hp3] at a2; exact Nat.le_trans a2 (Nat.le_trans a1 g2)
          have hne := D.out.d1.1
          have hgl := D.out.rd.glob
          have E0 : Hid (∀ V, Fr (fun j => j = RM) wr V → Env V) := Lib.hid (fun V f => (D.out.env HE.out).kept f (fun k hk e => by omega))
          have cont : Hid (∀ V, Fr (fun j => j = RM) wr V → (Hid (Fr (fun j => j = RM) wr V) ∧ V.cell? ⟨RB, 0, none⟩ = some (.pointer (some ⟨RM, 0, none⟩)))) := Lib.hid (fun V f => ⟨Lib.hid f, f.cell D.out.rb hne⟩)
          have CT0 : ∀ (l l' : List UInt8) (k k' : Nat) (s : QT.Str), PK.runP 116 32 l k = (s, l', k') → l.length ≤ roomB → Hid (∀ V, (Hid (Fr (fun j => j = RM) wr V) ∧ V.cell? ⟨RB, 0, none⟩ = some (.pointer (some ⟨RM, 0, none⟩))) → Hid (Rd V RM l k) → Calls Tryz.prog 48 #[.pointer (some ⟨RM, 0, none⟩), .int .i64 32] V fun e w' => e = .returned (.string (str s)) ∧ Hid (Rd w' RM l' k') ∧ Hid (Fr (fun i => i = RM) V w') ∧ (Hid (Fr (fun j => j = RM) wr w') ∧ w'.cell? ⟨RB, 0, none⟩ = some (.pointer (some ⟨RM, 0, none⟩)))) := fun l l' k k' s hp hl => Lib.hid (fun V hs hr => (text_any RM l k 32 V (E0.out V hs.1.out) hr.out (by omega) hl).mono fun e w' ⟨q1, q2, q3⟩ => by
            rw [hp] at q1 q2
            exact ⟨q1, Lib.hid q2, Lib.hid q3, cont.out w' (hs.1.out.trans q3)⟩)
          have C1 := CT0 li l1 ki k1 s1 hp1 D.out.lr
          have C2 := CT0 l1 l2 k1 k2 s2 hp2 g1
          have C3 : Hid (∀ V, (Hid (Fr (fun j => j = RM) wr V) ∧ V.cell? ⟨RB, 0, none⟩ = some (.pointer (some ⟨RM, 0, none⟩))) → Hid (Rd V RM l2 k2) → Calls Tryz.prog 47 #[.pointer (some ⟨RB, 0, none⟩)] V fun e w' => e = .returned (.complex .f64 (FL.fB n1) (FL.fB n2)) ∧ Hid (Rd w' RM l3 k3) ∧ Hid (Fr (fun i => i = RM) V w') ∧ (Hid (Fr (fun j => j = RM) wr w') ∧ w'.cell? ⟨RB, 0, none⟩ = some (.pointer (some ⟨RM, 0, none⟩)))) := Lib.hid (fun V hs hr => by
            have h := damount_any RB RM l2 k2 V (E0.out V hs.1.out) hr.out hs.2 hne
            rw [hq3] at h
            simp only at h
            rw [hp3] at h
            exact h.mono fun e w' ⟨q1, q2, q3⟩ => ⟨q1, Lib.hid q2, Lib.hid q3, cont.out w' (hs.1.out.trans q3)⟩)
          have HRd := Lib.hid hrd
          have HG5 := Lib.hid g3
          have Hs1 : Hid (s1.length ≤ 32) := Lib.hid (by have := QT.run32_len li ki; rw [hp1] at this; exact this)
          have Hs2 : Hid (s2.length ≤ 32) := Lib.hid (by have := QT.run32_len l1 k1; rw [hp2] at this; exact this)
          have HRM : Hid (RM < wr.heap.size) := Lib.hid (by obtain ⟨_, _, _, hh, _⟩ := D.out.rd; exact (Array.getElem?_eq_some_iff.1 hh).1)
          have S0 := cont.out wr.drew (Fr.refl _ _).drew
          have r0 : Hid (Rd wr.drew RM li ki) := Lib.hid (D.out.rd.below' ((Below.refl _ _).drew))
          have SA0 := cont.out (wr.alloc (.cells #[.string ⟨#[]⟩, .string ⟨#[]⟩, .complex .f64 0 0] 52)).drew ((Fr.refl _ _).alloc _).drew
          have RA0 : Hid (Rd (wr.alloc (.cells #[.string ⟨#[]⟩, .string ⟨#[]⟩, .complex .f64 0 0] 52)).drew RM li ki) := Lib.hid (D.out.rd.below' ((Below.refl _ _).alloc (Nat.le_refl _) _).drew)
          have SAl : Hid (∀ V, (Hid (Fr (fun j => j = RM) wr V) ∧ V.cell? ⟨RB, 0, none⟩ = some (.pointer (some ⟨RM, 0, none⟩))) → (Hid (Fr (fun j => j = RM) wr (V.alloc (.cells #[.string ⟨#[]⟩, .string ⟨#[]⟩, .complex .f64 0 0] 52))) ∧ (V.alloc (.cells #[.string ⟨#[]⟩, .string ⟨#[]⟩, .complex .f64 0 0] 52)).cell? ⟨RB, 0, none⟩ = some (.pointer (some ⟨RM, 0, none⟩)))) := Lib.hid (fun V h => cont.out _ (h.1.out.alloc _))
          have SAv : Hid (∀ V, (Hid (Fr (fun j => j = RM) wr V) ∧ V.cell? ⟨RB, 0, none⟩ = some (.pointer (some ⟨RM, 0, none⟩))) → (Hid (Fr (fun j => j = RM) wr (V.alloc (.cells #[.string (str s1), .string (str s2), .complex .f64 (FL.fB n1) (FL.fB n2)] 52))) ∧ (V.alloc (.cells #[.string (str s1), .string (str s2), .complex .f64 (FL.fB n1) (FL.fB n2)] 52)).cell? ⟨RB, 0, none⟩ = some (.pointer (some ⟨RM, 0, none⟩)))) := Lib.hid (fun V h => cont.out _ (h.1.out.alloc _))
          have SSt : Hid (∀ (V : World) (B : Nat), (Hid (Fr (fun j => j = RM) wr V) ∧ V.cell? ⟨RB, 0, none⟩ = some (.pointer (some ⟨RM, 0, none⟩))) → wr.heap.size ≤ B → (Hid (Fr (fun j => j = RM) wr (((V.setCell ⟨B, 0, none⟩ (.string (str s1))).setCell ⟨B, 1, none⟩ (.string (str s2))).setCell ⟨B, 2, none⟩ (.complex .f64 (FL.fB n1) (FL.fB n2)))) ∧ (((V.setCell ⟨B, 0, none⟩ (.string (str s1))).setCell ⟨B, 1, none⟩ (.string (str s2))).setCell ⟨B, 2, none⟩ (.complex .f64 (FL.fB n1) (FL.fB n2))).cell? ⟨RB, 0, none⟩ = some (.pointer (some ⟨RM, 0, none⟩)))) := Lib.hid (fun V B h hB => cont.out _ (box_frN h.1.out hB (fr3q V B _ _ _)))
          have RAl0 : ∀ (l : List UInt8) (k : Nat), Hid (∀ V, Hid (Rd V RM l k) → Hid (Rd (V.alloc (.cells #[.string ⟨#[]⟩, .string ⟨#[]⟩, .complex .f64 0 0] 52)) RM l k)) := fun l k => Lib.hid (fun V h => Lib.hid (h.out.below' ((Below.refl _ _).alloc (Nat.le_refl _) _)))
          have RAl1 := RAl0 l1 k1
          have RAl2 := RAl0 l2 k2
          have rb := D.out.rb
          clear RAl0 CT0 E0 cont hp1 hp2 hq3 hp3 hrd g1 g2 g3 hne hgl D4
          clear m3 j3
          go_upto_region 16 with fail
          go_cut [10] (fun v10 V => ∃ B, v10 = .pointer (some ⟨B, 0, none⟩) ∧ Hid (Fr (fun j => j = RM) wr V ∧ Rd V RM l3 k3 ∧ wr.heap.size ≤ B ∧ V.heap[B]? = some (.cells #[.string (str s1), .string (str s2), .complex .f64 (FL.fB n1) (FL.fB n2)] 52)))
          case first =>
            go_wp2_with fail
            refine wp_region_noPanic ?_
            refine wp_region_held_drew (S := fun V => (Hid (Fr (fun j => j = RM) wr V) ∧ V.cell? ⟨RB, 0, none⟩ = some (.pointer (some ⟨RM, 0, none⟩)))) (by kernel_rfl) S0 (fun hHeld => ?_)
            refine rTk 0 ?_; try simp only [Act.put, rP1, rP2, rP3]
            refine rTk 2 ?_; try simp only [Act.put, rP1, rP2, rP3]
            refine rTk 4 ?_; try simp only [Act.put, rP1, rP2, rP3]
            refine wpAnyH_ready (rs := [1, 7]) (by kernel_rfl) (by simp) ?_
            refine AllReadyH.cons (List.getElem?_toArray.trans rfl) (fun K hK => ?cc) (AllReadyH.cons (List.getElem?_toArray.trans rfl) (fun K hK => ?aa) (AllReadyH.nil))
            case cc =>
              go_simp
              go_at_call 48
              refine (C1.out _ ?_ r0).mono ?_
              assumption
              rintro e v1 ⟨rfl, r1, f1, k1⟩
              try (go_wp2_with fail)
              refine hK.out _ _ (by (try dsimp only); assumption) (fun hHeld => ?_)
              clear hK K
              try simp only [Act.put, rP1, rP2, rP3]
              refine wpAnyH_ready (rs := [3, 7]) (by kernel_rfl) (by simp) ?_
              refine AllReadyH.cons (List.getElem?_toArray.trans rfl) (fun K hK => ?ccc) (AllReadyH.cons (List.getElem?_toArray.trans rfl) (fun K hK => ?aac) (AllReadyH.nil))
              case ccc =>
                go_simp
                go_at_call 48
                refine (C2.out _ ?_ r1).mono ?_
                assumption
                rintro e v2 ⟨rfl, r2, f2, k2⟩
                try (go_wp2_with fail)
                refine hK.out _ _ (by (try dsimp only); assumption) (fun hHeld => ?_)
                clear hK K
                try simp only [Act.put, rP1, rP2, rP3]
                refine wpAnyH_ready (rs := [5, 7]) (by kernel_rfl) (by simp) ?_
                refine AllReadyH.cons (List.getElem?_toArray.trans rfl) (fun K hK => ?cccc) (AllReadyH.cons (List.getElem?_toArray.trans rfl) (fun K hK => ?aacc) (AllReadyH.nil))
                case cccc =>
                  go_simp
                  go_at_call 47
                  refine (C3.out _ ?_ r2).mono ?_
                  assumption
                  rintro e v3 ⟨rfl, r3, f3, k3⟩
                  try (go_wp2_with fail)
                  refine hK.out _ _ (by (try dsimp only); assumption) (fun hHeld => ?_)
                  clear hK K
                  try simp only [Act.put, rP1, rP2, rP3]
                  refine rTk 6 ?_; try simp only [Act.put, rP1, rP2, rP3]
                  refine rBr 7 fun K hK => ?hhccc
                  case hhccc =>
                    go_simp
                    have kal := SAl.out v3 k3
                    have kv := SAv.out v3 k3
                    refine hK.out _ _ (by (try dsimp only); assumption) (fun hHeld => ?_)
                    clear hK K
                    try simp only [Act.put, rP1, rP2, rP3]
                    refine rBr 8 fun K hK => ?iiccc
                    case iiccc =>
                      go_simp
                      try (go_wp2_with fail)
                      refine hK.out _ _ (by (try dsimp only); assumption) (fun hHeld => ?_)
                      clear hK K
                      try simp only [Act.put, rP1, rP2, rP3]
                      refine wpAnyH_done (by kernel_rfl) ?_ _
                      refine NoPanic.normal ?_
                      go_wp2_with fail
                      go_meet
                      exact ⟨v3.heap.size, rfl, Lib.hid (box_late r3.out k3.1.out _)⟩
                case aacc =>
                  go_simp
                  have kal := SAl.out v2 k2
                  have rz := RAl2.out v2 r2
                  refine hK.out _ _ (by (try dsimp only); assumption) (fun hHeld => ?_)
                  clear hK K
                  try simp only [Act.put, rP1, rP2, rP3]
                  have hB : Hid ((v2.alloc (.cells #[.string ⟨#[]⟩, .string ⟨#[]⟩, .complex .f64 0 0] 52)).heap[v2.heap.size]? = some (.cells #[.string ⟨#[]⟩, .string ⟨#[]⟩, .complex .f64 0 0] 52)) := Lib.hid (heap_alloc_new v2 (.cells #[.string ⟨#[]⟩, .string ⟨#[]⟩, .complex .f64 0 0] 52))
                  have HsB : Hid (wr.heap.size ≤ v2.heap.size) := Lib.hid (k2.1.out.size)
                  have HneB : Hid (¬ v2.heap.size = RM) := Lib.hid (by have := HsB.out; have := HRM.out; omega)
                  refine rBr 5 fun K hK => ?ddcca
                  case ddcca =>
                    go_simp
                    go_at_call 47
                    refine (C3.out _ ?_ rz).mono ?_
                    assumption
                    rintro e v3 ⟨rfl, r3, f3, k3⟩
                    replace hB := Lib.hid (f3.out.heap hB.out HneB.out)
                    try (go_wp2_with fail)
                    refine hK.out _ _ (by (try dsimp only); assumption) (fun hHeld => ?_)
                    clear hK K
                    try simp only [Act.put, rP1, rP2, rP3]
                    refine rTk 6 ?_; try simp only [Act.put, rP1, rP2, rP3]
                    refine rBr 8 fun K hK => ?iiccad
                    case iiccad =>
                      obtain ⟨⟨z0, z1, z2⟩, g0, g1, g2⟩ := cells3f hB.out
                      have kv := SSt.out v3 v2.heap.size k3 HsB.out
                      go_simp
                      try (go_wp2_with fail)
                      refine hK.out _ _ (by (try dsimp only); assumption) (fun hHeld => ?_)
                      clear hK K
                      try simp only [Act.put, rP1, rP2, rP3]
                      refine wpAnyH_done (by kernel_rfl) ?_ _
                      refine NoPanic.normal ?_
                      go_wp2_with fail
                      go_meet
                      exact ⟨v2.heap.size, rfl, Lib.hid (box_earlyU r3.out k3.1.out HsB.out HneB.out hB.out _ _ _)⟩
              case aac =>
                go_simp
                have kal := SAl.out v1 k1
                have rz := RAl1.out v1 r1
                refine hK.out _ _ (by (try dsimp only); assumption) (fun hHeld => ?_)
                clear hK K
                try simp only [Act.put, rP1, rP2, rP3]
                have hB : Hid ((v1.alloc (.cells #[.string ⟨#[]⟩, .string ⟨#[]⟩, .complex .f64 0 0] 52)).heap[v1.heap.size]? = some (.cells #[.string ⟨#[]⟩, .string ⟨#[]⟩, .complex .f64 0 0] 52)) := Lib.hid (heap_alloc_new v1 (.cells #[.string ⟨#[]⟩, .string ⟨#[]⟩, .complex .f64 0 0] 52))
                have HsB : Hid (wr.heap.size ≤ v1.heap.size) := Lib.hid (k1.1.out.size)
                have HneB : Hid (¬ v1.heap.size = RM) := Lib.hid (by have := HsB.out; have := HRM.out; omega)
                refine rBr 3 fun K hK => ?ddca
                case ddca =>
                  go_simp
                  go_at_call 48
                  refine (C2.out _ ?_ rz).mono ?_
                  assumption
                  rintro e v2 ⟨rfl, r2, f2, k2⟩
                  replace hB := Lib.hid (f2.out.heap hB.out HneB.out)
                  try (go_wp2_with fail)
                  refine hK.out _ _ (by (try dsimp only); assumption) (fun hHeld => ?_)
                  clear hK K
                  try simp only [Act.put, rP1, rP2, rP3]
                  refine rBr 5 fun K hK => ?ddcad
                  case ddcad =>
                    go_simp
                    go_at_call 47
                    refine (C3.out _ ?_ r2).mono ?_
                    assumption
                    rintro e v3 ⟨rfl, r3, f3, k3⟩
                    replace hB := Lib.hid (f3.out.heap hB.out HneB.out)
                    try (go_wp2_with fail)
                    refine hK.out _ _ (by (try dsimp only); assumption) (fun hHeld => ?_)
                    clear hK K
                    try simp only [Act.put, rP1, rP2, rP3]
                    refine rTk 6 ?_; try simp only [Act.put, rP1, rP2, rP3]
                    refine rBr 8 fun K hK => ?iicadd
                    case iicadd =>
                      obtain ⟨⟨z0, z1, z2⟩, g0, g1, g2⟩ := cells3f hB.out
                      have kv := SSt.out v3 v1.heap.size k3 HsB.out
                      go_simp
                      try (go_wp2_with fail)
                      refine hK.out _ _ (by (try dsimp only); assumption) (fun hHeld => ?_)
                      clear hK K
                      try simp only [Act.put, rP1, rP2, rP3]
                      refine wpAnyH_done (by kernel_rfl) ?_ _
                      refine NoPanic.normal ?_
                      go_wp2_with fail
                      go_meet
                      exact ⟨v1.heap.size, rfl, Lib.hid (box_earlyU r3.out k3.1.out HsB.out HneB.out hB.out _ _ _)⟩
            case aa =>
              go_simp
              have kal := SA0
              have rz := RA0
              refine hK.out _ _ (by (try dsimp only); assumption) (fun hHeld => ?_)
              clear hK K
              try simp only [Act.put, rP1, rP2, rP3]
              have hB : Hid ((wr.alloc (.cells #[.string ⟨#[]⟩, .string ⟨#[]⟩, .complex .f64 0 0] 52)).drew.heap[wr.heap.size]? = some (.cells #[.string ⟨#[]⟩, .string ⟨#[]⟩, .complex .f64 0 0] 52)) := Lib.hid (heap_alloc_new wr (.cells #[.string ⟨#[]⟩, .string ⟨#[]⟩, .complex .f64 0 0] 52))
              have HsB : Hid (wr.heap.size ≤ wr.heap.size) := Lib.hid (Nat.le_refl _)
              have HneB : Hid (¬ wr.heap.size = RM) := Lib.hid (by have := HsB.out; have := HRM.out; omega)
              refine rBr 1 fun K hK => ?dda
              case dda =>
                go_simp
                go_at_call 48
                refine (C1.out _ ?_ rz).mono ?_
                assumption
                rintro e v1 ⟨rfl, r1, f1, k1⟩
                replace hB := Lib.hid (f1.out.heap hB.out HneB.out)
                try (go_wp2_with fail)
                refine hK.out _ _ (by (try dsimp only); assumption) (fun hHeld => ?_)
                clear hK K
                try simp only [Act.put, rP1, rP2, rP3]
                refine rBr 3 fun K hK => ?ddad
                case ddad =>
                  go_simp
                  go_at_call 48
                  refine (C2.out _ ?_ r1).mono ?_
                  assumption
                  rintro e v2 ⟨rfl, r2, f2, k2⟩
                  replace hB := Lib.hid (f2.out.heap hB.out HneB.out)
                  try (go_wp2_with fail)
                  refine hK.out _ _ (by (try dsimp only); assumption) (fun hHeld => ?_)
                  clear hK K
                  try simp only [Act.put, rP1, rP2, rP3]
                  refine rBr 5 fun K hK => ?ddadd
                  case ddadd =>
                    go_simp
                    go_at_call 47
                    refine (C3.out _ ?_ r2).mono ?_
                    assumption
                    rintro e v3 ⟨rfl, r3, f3, k3⟩
                    replace hB := Lib.hid (f3.out.heap hB.out HneB.out)
                    try (go_wp2_with fail)
                    refine hK.out _ _ (by (try dsimp only); assumption) (fun hHeld => ?_)
                    clear hK K
                    try simp only [Act.put, rP1, rP2, rP3]
                    refine rTk 6 ?_; try simp only [Act.put, rP1, rP2, rP3]
                    refine rBr 8 fun K hK => ?iiaddd
                    case iiaddd =>
                      obtain ⟨⟨z0, z1, z2⟩, g0, g1, g2⟩ := cells3f hB.out
                      have kv := SSt.out v3 wr.heap.size k3 HsB.out
                      go_simp
                      try (go_wp2_with fail)
                      refine hK.out _ _ (by (try dsimp only); assumption) (fun hHeld => ?_)
                      clear hK K
                      try simp only [Act.put, rP1, rP2, rP3]
                      refine wpAnyH_done (by kernel_rfl) ?_ _
                      refine NoPanic.normal ?_
                      go_wp2_with fail
                      go_meet
                      exact ⟨wr.heap.size, rfl, Lib.hid (box_earlyU r3.out k3.1.out HsB.out HneB.out hB.out _ _ _)⟩
          case rest =>
            clear C1 C2 C3 S0 r0 SA0 RA0 SAl SAv SSt RAl1 RAl2
            obtain ⟨B, rfl, HW⟩ := hcut
            have D5 := D.out.rdTo HW.out.1 HW.out.2.1 HG5.out
            have hlkB := lookAnyF D5.tr.mN Tryz.underlying118 zeroNd ⟨_, zNd_val⟩ s2 (by have := Hs2.out; omega)
            obtain ⟨z, q, hq, hlk⟩ := hlkB
            have hBn : ¬ B = bn := by have h1 := HW.out.2.2.1; have h2 := D.out.tr.mN.lt; omega
            have hBu : ¬ B = bu := by have h1 := HW.out.2.2.1; have h2 := D.out.tr.mU.lt; omega
            have hTn := D5.tr.ne.2.1
            have hTu := D5.tr.ne.2.2
            obtain ⟨V6, hV6⟩ : ∃ V, V = (wc.alloc (.cells #[.string (str z.nm), .string (str z.pr), .complex .f64 (FL.fB z.o1) (FL.fB z.o2), .complex .f64 (FL.fB z.b1) (FL.fB z.b2), .complex .f64 (FL.fB z.l1) (FL.fB z.l2)] 50)).drew := ⟨_, rfl⟩
            have fV6 : Below wc.heap.size wc V6 := by rw [hV6]; exact ((Below.refl _ _).alloc (Nat.le_refl _) _).drew
            have D6 := D5.below fV6
            have gB := HW.out.2.2.2
            have hBlt := (Array.getElem?_eq_some_iff.1 gB).1
            have hnlt := D5.tr.mN.lt
            have gB6 := (fV6.block B hBlt).trans gB
            obtain ⟨⟨z0, z1, z2⟩, _⟩ := cells3f gB6
            have cSL : Hid (∀ V, Below wc.heap.size wc V → (V.cell? ⟨T, 0, none⟩ = some (.map (some bn)) ∧ V.cell? ⟨B, 1, none⟩ = some (.string (str s2)) ∧ (Instr.lookup 118 (.map (some bn)) (.string (str s2)) true).run Tryz.prog V = .ok (.tuple #[.agg #[.string (str z.nm), .string (str z.pr), .complex .f64 (FL.fB z.o1) (FL.fB z.o2), .complex .f64 (FL.fB z.b1) (FL.fB z.b2), .complex .f64 (FL.fB z.l1) (FL.fB z.l2)], .bool q]) V)) := Lib.hid (fun V b => by
              obtain ⟨t0, _⟩ := cells2 (D5.tr.below b).tb
              obtain ⟨⟨_, y1, _⟩, _⟩ := cells3f ((b.block B hBlt).trans gB)
              have := hlk V (b.block bn hnlt)
              rw [vNd] at this
              exact ⟨t0, y1, this⟩)
            have SL0 := cSL.out wc.drew (Below.refl _ _).drew
            have SLA := cSL.out (wc.alloc (.cells #[.string ⟨#[]⟩, .string ⟨#[]⟩, .complex .f64 0 0, .complex .f64 0 0, .complex .f64 0 0] 50)).drew (((Below.refl _ _).alloc (Nat.le_refl _) _).drew)
            have SLB := cSL.out (wc.alloc (.cells #[.string (str z.nm), .string (str z.pr), .complex .f64 (FL.fB z.o1) (FL.fB z.o2), .complex .f64 (FL.fB z.b1) (FL.fB z.b2), .complex .f64 (FL.fB z.l1) (FL.fB z.l2)] 50)).drew (((Below.refl _ _).alloc (Nat.le_refl _) _).drew)
            have NC : Hid (Calls Tryz.prog 49 #[.string (str s1)] V6 fun e w' => e = .returned (.bool (QT.nameP s1)) ∧ V6 = w') := Lib.hid (by
              have := named_any (str s1) V6 (by rw [str_size]; have := Hs1.out; omega)
              rw [str_list] at this
              exact this)
            obtain ⟨x, hx⟩ : ∃ x : QT.Us, x = ⟨s1, s2, n1, n2⟩ := ⟨_, rfl⟩
            have hsn := QT.okV_snoc N U x
            have D8 := D6.below (Below.refl _ V6).drew
            obtain ⟨w6, hput, hm, hf⟩ := D8.tr.mU.put Tryz.underlying119 (by have := Hcu.out; omega) x (by rw [hx]; simp only; have := Hs1.out; omega) (ok' := (QT.okV N (U ++ [x])).1) (fun e => QT.okV_fresh e)
            have D7 := Lib.hid (D8.putU hf hm)
            have hread : QT.readL QT.readUs (i + 1) lb kb = (U ++ [x], l3, k3) := by
              rw [QT.readL_snoc, HRu.out, HRd.out, hx]
            have HRn := Lib.hid hread
            rw [vUs, hx] at hput
            have e7 : (QT.okV N (U ++ [x])).2 = s1 := by rw [hsn, QT.stepO, hx]
            have e8 : (QT.okV N (U ++ [x])).1 = ((QT.okV N U).1 && QT.nameP s1 && QT.gtS s1 (QT.okV N U).2 && q) := by
              rw [hsn, QT.stepO, hx]
              cases ho : (QT.okV N U).1 with
              | false => rfl
              | true =>
                rw [hq (QT.okV_all ho).1, QT.fnd_find]
            have E7 := Lib.hid e7
            have E8 := Lib.hid e8
            have HV6 : Hid ((wc.alloc (.cells #[.string (str z.nm), .string (str z.pr), .complex .f64 (FL.fB z.o1) (FL.fB z.o2), .complex .f64 (FL.fB z.b1) (FL.fB z.b2), .complex .f64 (FL.fB z.l1) (FL.fB z.l2)] 50)).drew = V6) := Lib.hid hV6.symm
            have t6 : V6.cell? ⟨T, 1, none⟩ = some (.map (some bu)) := (cells2 D6.tr.tb).2.1
            have S0 : (V6.drew.cell? ⟨T, 1, none⟩ = some (.map (some bu)) ∧ V6.drew.cell? ⟨B, 0, none⟩ = some (.string (str s1)) ∧ V6.drew.cell? ⟨B, 1, none⟩ = some (.string (str s2)) ∧ V6.drew.cell? ⟨B, 2, none⟩ = some (.complex .f64 (FL.fB n1) (FL.fB n2))) := ⟨t6, z0, z1, z2⟩
            have S6 : (w6.cell? ⟨T, 1, none⟩ = some (.map (some bu)) ∧ w6.cell? ⟨B, 0, none⟩ = some (.string (str s1)) ∧ w6.cell? ⟨B, 1, none⟩ = some (.string (str s2)) ∧ w6.cell? ⟨B, 2, none⟩ = some (.complex .f64 (FL.fB n1) (FL.fB n2))) := ⟨hf.cell (show V6.drew.cell? _ = _ from t6) hTu, hf.cell (show V6.drew.cell? _ = _ from z0) hBu, hf.cell (show V6.drew.cell? _ = _ from z1) hBu, hf.cell (show V6.drew.cell? _ = _ from z2) hBu⟩
            clear hread hsn hx e7 e8 hm hf D5 D6 D8 hBn hBu hTn hTu HW D HRu HRd HG5 HRM hV6 fV6 gB hBlt hnlt gB6 hlk hq cSL Hs1 Hs2
            go_wp2_with fail
            refine wp_region_noPanic ?_
            refine wp_region_held_drew (S := fun V => (V.cell? ⟨T, 0, none⟩ = some (.map (some bn)) ∧ V.cell? ⟨B, 1, none⟩ = some (.string (str s2)) ∧ (Instr.lookup 118 (.map (some bn)) (.string (str s2)) true).run Tryz.prog V = .ok (.tuple #[.agg #[.string (str z.nm), .string (str z.pr), .complex .f64 (FL.fB z.o1) (FL.fB z.o2), .complex .f64 (FL.fB z.b1) (FL.fB z.b2), .complex .f64 (FL.fB z.l1) (FL.fB z.l2)], .bool q]) V)) (by kernel_rfl) SL0 (fun hHeld => ?_)
            refine rTk 0 ?_; try simp only [Act.put, rP1, rP2, rP3]
            refine rTk 1 ?_; try simp only [Act.put, rP1, rP2, rP3]
            refine rTk 2 ?_; try simp only [Act.put, rP1, rP2, rP3]
            refine rTk 3 ?_; try simp only [Act.put, rP1, rP2, rP3]
            refine rTk 4 ?_; try simp only [Act.put, rP1, rP2, rP3]
            refine rTk 5 ?_; try simp only [Act.put, rP1, rP2, rP3]
            refine rTk 6 ?_; try simp only [Act.put, rP1, rP2, rP3]
            refine rTk 7 ?_; try simp only [Act.put, rP1, rP2, rP3]
            refine rTk 8 ?_; try simp only [Act.put, rP1, rP2, rP3]
            refine rTk 9 ?_; try simp only [Act.put, rP1, rP2, rP3]
            refine rBr 10 fun K hK => ?_
            go_simp
            refine hK.out _ _ (by (try dsimp only); assumption) (fun hHeld => ?_)
            clear hK K
            try simp only [Act.put, rP1, rP2, rP3]
            refine rBr 11 fun K hK => ?_
            go_simp
            try (go_wp2_with fail)
            refine hK.out _ _ (by (try dsimp only); assumption) (fun hHeld => ?_)
            clear hK K
            try simp only [Act.put, rP1, rP2, rP3]
            refine rTk 12 ?_; try simp only [Act.put, rP1, rP2, rP3]
            refine wpAnyH_done (by kernel_rfl) ?_ _
            refine NoPanic.normal ?_
            rw [HV6.out]
            clear SL0 SLA SLB hHeld HV6
            generalize QT.okV N U = O at *
            obtain ⟨ok, lst⟩ := O
            simp only at E8 ⊢
            go_upto_region 18 with fail
            go_cut [8] (fun v8 V => v8 = .bool (ok && QT.nameP s1 && QT.gtS s1 lst && q) ∧ V = V6)
            case first =>
              cases ok with
              | false =>
                go_wp2_with fail
                go_meet
                exact ⟨rfl, rfl⟩
              | true =>
                go_wp2_with fail
                refine NC.out.mono ?_
                rintro e w1 ⟨rfl, rfl⟩
                cases hnm : QT.nameP s1 with
                | false =>
                  go_wp2_with fail
                  go_meet
                  exact ⟨by rw [hnm]; rfl, rfl⟩
                | true =>
                  have hgt : QT.gtS s1 lst = (!Op.bytesLess (str s1).toList (str lst).toList && !(str s1).toList == (str lst).toList) := by rw [QT.gtS, str_toList, str_toList, Bool.not_or]
                  have Hgt := Lib.hid hgt
                  clear hgt
                  cases hg : (!Op.bytesLess (str s1).toList (str lst).toList && !(str s1).toList == (str lst).toList) with
                  | false =>
                    go_wp2_with fail
                    go_meet
                    exact ⟨by rw [hnm, Hgt.out, hg]; rfl, rfl⟩
                  | true =>
                    go_wp2_with fail
                    go_meet
                    exact ⟨by rw [hnm, Hgt.out, hg]; rfl, rfl⟩
            case rest =>
              obtain ⟨rfl, rfl⟩ := hcut
              clear NC
              rw [← E8.out]
              go_wp2_with fail
              refine wp_region_noPanic ?_
              refine wp_region_held_drew (S := fun V => (V.cell? ⟨T, 1, none⟩ = some (.map (some bu)) ∧ V.cell? ⟨B, 0, none⟩ = some (.string (str s1)) ∧ V.cell? ⟨B, 1, none⟩ = some (.string (str s2)) ∧ V.cell? ⟨B, 2, none⟩ = some (.complex .f64 (FL.fB n1) (FL.fB n2)))) (by kernel_rfl) S0 (fun hHeld => ?_)
              refine rTk 0 ?_; try simp only [Act.put, rP1, rP2, rP3]
              refine rTk 1 ?_; try simp only [Act.put, rP1, rP2, rP3]
              refine rTk 2 ?_; try simp only [Act.put, rP1, rP2, rP3]
              refine rTk 3 ?_; try simp only [Act.put, rP1, rP2, rP3]
              refine rTk 4 ?_; try simp only [Act.put, rP1, rP2, rP3]
              refine rTk 5 ?_; try simp only [Act.put, rP1, rP2, rP3]
              refine rTk 6 ?_; try simp only [Act.put, rP1, rP2, rP3]
              refine rBr 7 fun K hK => ?_
              go_simp
              skip
              refine hK.out _ _ (by (try dsimp only); assumption) (fun hHeld => ?_)
              clear hK K
              try simp only [Act.put, rP1, rP2, rP3]
              refine wpAnyH_done (by kernel_rfl) ?_ _
              refine NoPanic.normal ?_
              clear hHeld S6
              go_wp2
              exact ⟨⟨i + 1, U ++ [x], l3, k3, hlt, by simp, by rw [E7.out], rfl, HRn, D7⟩, by simp [intOf]; omega⟩
        · obtain rfl : i = cu := by omega
          have htk : QT.takeT l 0 = (N, U, li, ki) := by
            unfold QT.takeT
            simp only [HP0.out, HR.out, HP9.out, HRu.out]
          have hii : ¬ ((i : Int) < (i : Int)) := by omega
          have rb := D.out.rb
          have HDn := Lib.hid (done_any RM li ki wr D.out.rd)
          clear D4
          by_cases hz : ki = 0 ∧ li = []
          · obtain ⟨rfl, rfl⟩ := hz
            have hdec := QT.decT_at htk
            obtain ⟨hN256, hU1024, hfN, hfU⟩ := QT.take_small htk
            have HDec := Lib.hid hdec
            rw [PK.doneP_zero] at HDn
            cases hok : (QT.okV N U).1 with
            | false =>
              have hr : QT.decT l = none := by rw [hdec, if_neg (fun e => by have := e.2; unfold QT.goodB at this; rw [hok] at this; cases this)]
              have Hr := Lib.hid hr
              have Hbe := Lib.hid D.out.be
              clear htk hdec hr D HDec hN256 hU1024 hfN hfU
              go_wp2_with fail
              refine HDn.out.mono ?_
              rintro e w1 ⟨rfl, rfl⟩
              unfold errV
              go_wp2
              go_ret2
              rw [Hr.out]
              exact ⟨rfl, Hbe.out⟩
            | true =>
              obtain ⟨okn, hav, hpU, hnU⟩ := QT.okV_all hok
              have DT : DsS w wr RM RB T bn bu [] 0 true true j i N U := by
                have := D.out
                rw [hok, okn] at this
                exact this
              have hRise : RiseQ N U := ⟨QT.okN_rises okn, hpU, hfN, hfU, hN256, hU1024⟩
              have hUn := QT.okN_uniq okn
              have HTr := Lib.hid DT.tr.tree
              have HRise := Lib.hid hRise
              have HUn := Lib.hid hUn
              have Hav := Lib.hid hav
              have Hok := Lib.hid hok
              have HRt := Lib.hid (rooted_any N U hRise.good hUn T bn bu j i wr DT.tr.tree)
              have Hbe := Lib.hid DT.be
              clear htk hdec D DT hRise hUn hav hok okn hpU hnU hN256 hU1024 hfN hfU
              go_wp2_with fail
              refine HDn.out.mono ?_
              rintro e w1 ⟨rfl, rfl⟩
              unfold errV
              go_wp2_with fail
              refine HRt.out.mono ?_
              rintro e w1 ⟨rfl, b1⟩
              have Hbe1 := Lib.hid (Hbe.out.trans (b1.mono Hbe.out.size))
              have HTr1 := Lib.hid (HTr.out.below b1)
              clear b1
              cases hrt : QT.rootedB N with
              | false =>
                have hr : QT.decT l = none := by rw [HDec.out, if_neg (fun e => by have := e.2; unfold QT.goodB at this; rw [hrt] at this; simp at this)]
                have Hr := Lib.hid hr
                clear hr hrt
                go_wp2
                go_ret2
                rw [Hr.out]
                exact ⟨rfl, Hbe1.out⟩
              | true =>
                have hF : FullQ N U := ⟨HRise.out, HUn.out, (QT.rootedB_iff N).1 hrt, Hav.out⟩
                have HF := Lib.hid hF
                have HFi := Lib.hid (fits_any N U hF T bn bu j i w1 HTr1.out)
                have Hrt := Lib.hid hrt
                clear hF hrt
                go_wp2_with fail
                refine HFi.out.mono ?_
                rintro e w2 ⟨rfl, b2⟩
                have Hbe2 := Lib.hid (Hbe1.out.trans (b2.mono Hbe1.out.size))
                have HTr2 := Lib.hid (HTr1.out.below b2)
                clear b2
                cases hft : QT.fitsB N U with
                | false =>
                  have hr : QT.decT l = none := by rw [HDec.out, if_neg (fun e => by have := e.2; unfold QT.goodB at this; rw [hft] at this; simp at this)]
                  have Hr := Lib.hid hr
                  clear hr hft
                  go_wp2
                  go_ret2
                  rw [Hr.out]
                  exact ⟨rfl, Hbe2.out⟩
                | true =>
                  have HHo := Lib.hid (holds_any N U HF.out hft T bn bu j i w2 HTr2.out)
                  have Hft := Lib.hid hft
                  clear hft
                  go_wp2_with fail
                  refine HHo.out.mono ?_
                  rintro e w3 ⟨rfl, b3⟩
                  have Hbe3 := Lib.hid (Hbe2.out.trans (b3.mono Hbe2.out.size))
                  have HTr3 := Lib.hid (HTr2.out.below b3)
                  clear b3
                  cases hho : QT.holdsB N U with
                  | false =>
                    have hr : QT.decT l = none := by rw [HDec.out, if_neg (fun e => by have := e.2; unfold QT.goodB at this; rw [hho] at this; simp at this)]
                    have Hr := Lib.hid hr
                    clear hr hho
                    go_wp2
                    go_ret2
                    rw [Hr.out]
                    exact ⟨rfl, Hbe3.out⟩
                  | true =>
                    have hr : QT.decT l = some (N, U) := by rw [HDec.out, if_pos ⟨trivial, by unfold QT.goodB; rw [Hok.out, Hrt.out, Hft.out, hho]; rfl⟩]
                    have Hr := Lib.hid hr
                    have Hho := Lib.hid hho
                    clear hr hho
                    go_wp2
                    go_ret2
                    rw [Hr.out]
                    exact ⟨⟨T, bn, bu, j, i, rfl, HTr3.out, HF.out, Hft.out, Hho.out⟩, Hbe3.out⟩
          · have hr : QT.decT l = none := by
              unfold QT.decT
              rw [htk]
              exact if_neg (fun e => hz ⟨e.1, e.2.1⟩)
            obtain ⟨d, hd⟩ : ∃ d, PK.doneP li ki = d + 1 := by
              unfold PK.doneP
              split
              · exact ⟨2, rfl⟩
              · rename_i h
                cases ki with
                | zero => exact (h ⟨rfl, fun e => hz ⟨rfl, e⟩⟩).elim
                | succ k => exact ⟨k, rfl⟩
            rw [hd] at HDn
            have Hr := Lib.hid hr
            have Hbe := Lib.hid D.out.be
            clear htk hr D hz hd
            go_wp2_with fail
            refine HDn.out.mono ?_
            rintro e w1 ⟨rfl, rfl⟩
            unfold errV
            go_wp2
            go_ret2
            rw [Hr.out]
            exact ⟨rfl, Hbe.out⟩
end Go.Proofs.YtkanjdijmdjbaaaGreatDoor
