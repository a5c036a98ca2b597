/-
  pack.Reader: what comes next (begin), and a row of digits (digits).
  Conditions: the listed variables read as listed ('Env').
  The document's answer of layer 1 (package tollbarref01): a reader by value: fail, head, Done.
  Conditions: what the reader holds reads as bytes.
  The document's answer of layer 1: digits.
  Conditions: what is looked at reads as bytes.
-/
import Derived.Test.YtkanjdijmdjbaaaGreatDoorG2
import Derived.Test.YtkanjdijmdjbaaaGreatDoorG5
import Derived.Lib.Strings
namespace Go.Proofs.YtkanjdijmdjbaaaGreatDoor
open Go Go.RowKit

/-- A row of bytes that is not empty, opened. -/
theorem IsB.open_cons {w : World} {a : Option Addr} {n c : Nat} {l : List UInt8} (h : IsB w (.slice a n c) l) (hl : l ≠ []) :
    n = l.length ∧ l.length ≤ c ∧ c ≤ maxLen ∧ ∃ b o, a = some ⟨b, o, none⟩ ∧ ∀ i, i < l.length → w.cell? ⟨b, o + i, none⟩ = some (.int .u8 (at8 l i)) := by
  obtain ⟨a', cap', he, h1, h2, h0, h3⟩ := h
  simp only [Value.slice.injEq] at he
  obtain ⟨rfl, rfl, rfl⟩ := he
  refine ⟨rfl, h1, h2, ?_⟩
  rcases h3 with h3 | h3
  · exact absurd h3 hl
  · exact h3

theorem at8_mem (s : List UInt8) (c : UInt8) : (∃ i, i < s.length ∧ at8 s i = (c.toNat : Int)) ↔ c ∈ s := by
  constructor
  · rintro ⟨i, hi, h⟩
    rw [at8_get s i hi] at h
    rw [← at8_inj h]
    exact List.getElem_mem hi
  · intro h
    obtain ⟨i, hi, rfl⟩ := List.getElem_of_mem h
    exact ⟨i, hi, at8_get s i hi⟩

/-- begin(some). -/
theorem begin_any (N : Nat) (l : List UInt8) (k : Nat) (s : ByteArray) (w : World) (h : Rd w N l k) (hs : s.size ≤ 100) :
    Calls Tryz.prog 102 #[.pointer (some ⟨N, 0, none⟩), .string s] w fun e w' => e = .returned (errV (PK.begP s.data.toList l)) ∧ Below w.heap.size w w' := by
  have H := Lib.hid h
  obtain ⟨hg, a, c, hh, hv⟩ := h
  have Hv := Lib.hid hv
  obtain ⟨c0, c1, _, f1⟩ := cells2 hh
  have hN : N < w.heap.size := H.out.lt
  cases l with
  | nil =>
    clear hh hv hN
    go_enter Tryz.func102, Tryz.ntmps102
    go_wp2
    go_ret
    exact ⟨rfl, Below.refl _ _⟩
  | cons x r =>
    obtain ⟨_, hl1, hl2, b, o, rfl, hc⟩ := Hv.out.open_cons (by simp)
    obtain ⟨cc, w1, hrun, hB1, hbel, hlt, hcm, hsc, hcs⟩ := run_toBytes T22 U9 w s (by unfold maxLen; omega)
    have hx0 : w.cell? ⟨b, o, none⟩ = some (.int .u8 (at8 (x :: r) 0)) := by simpa using hc 0 (by simp)
    have hbl : b < w.heap.size := World.block_lt_of_cell? w _ hx0
    have d0 : w1.cell? ⟨N, 0, none⟩ = some (.slice (some ⟨b, o, none⟩) (x :: r).length c) := (hbel.cell (p := ⟨N, 0, none⟩) hN).trans c0
    have d1 : w1.cell? ⟨b, o, none⟩ = some (.int .u8 (at8 (x :: r) 0)) := (hbel.cell (p := ⟨b, o, none⟩) hbl).trans hx0
    have hp : 0 < (x :: r).length := by simp
    have hz : (((x :: r).length : Int) == 0) = false := by simp; omega
    generalize hlen : (x :: r).length = n at *
    have Hbel := Lib.hid hbel
    have Hcs := Lib.hid hcs
    have hxs := at8_mem s.data.toList x
    have hat : at8 (x :: r) 0 = (x.toNat : Int) := rfl
    rw [hat] at d1 hx0
    have Hxs := Lib.hid hxs
    have hsl : s.data.toList.length = s.size := Array.length_toList
    clear hh hv hc hB1 hbel hcs hxs hat hlen Hv
    by_cases hm : x ∈ s.data.toList
    · have HC := Lib.hid (contains_yes w.heap.size 0 s.size cc (x.toNat : Int) s.data.toList w1 hcm hsc Hcs.out (by rw [← hsl]; exact Hxs.out.2 hm))
      have Hm := Lib.hid hm
      clear hm hsl hsc hcm
      go_enter Tryz.func102, Tryz.ntmps102
      go_wp2_with fail
      refine HC.out.mono ?_
      rintro e w2 ⟨rfl, rfl⟩
      go_wp2
      go_ret
      refine ⟨?_, Hbel.out⟩
      simp [PK.begP, Hm.out, errV]
    · have HC := Lib.hid (contains_no w.heap.size 0 s.size cc (x.toNat : Int) s.data.toList w1 hcm hsc Hcs.out (fun i hi e => hm (Hxs.out.1 ⟨i, by rw [hsl]; exact hi, e⟩)))
      have Hm := Lib.hid hm
      clear hm hsl hsc hcm
      go_enter Tryz.func102, Tryz.ntmps102
      go_wp2_with fail
      refine HC.out.mono ?_
      rintro e w2 ⟨rfl, rfl⟩
      go_wp2
      go_ret
      refine ⟨?_, Hbel.out⟩
      simp [PK.begP, Hm.out, errV]

theorem PK.scan_step (s : UInt8) (m : Nat) (l : List UInt8) (q : Nat) (h : q < l.length) (h1 : at8 l q ≠ (s.toNat : Int)) (h2 : 48 ≤ at8 l q) (h3 : at8 l q ≤ 57) (h4 : m < 20) : PK.scan s m (l.drop q) = PK.scan s (m + 1) (l.drop (q + 1)) := by
  rw [List.drop_eq_getElem_cons h]
  rw [at8_get l q h] at h1 h2 h3
  show (if l[q] = s then _ else _) = _
  rw [if_neg (fun e => h1 (by rw [e])), if_neg (by simp [PK.isD]; omega)]
theorem PK.scan_sign (s : UInt8) (m : Nat) (l : List UInt8) (q : Nat) (h : q < l.length) (h1 : at8 l q = (s.toNat : Int)) : PK.scan s m (l.drop q) = (0, m) := by
  rw [List.drop_eq_getElem_cons h]
  rw [at8_get l q h] at h1
  show (if l[q] = s then _ else _) = _
  rw [if_pos (at8_inj h1)]
theorem PK.scan_bad (s : UInt8) (m : Nat) (l : List UInt8) (q : Nat) (h : q < l.length) (h1 : at8 l q ≠ (s.toNat : Int)) (h2 : at8 l q < 48 ∨ 57 < at8 l q ∨ 20 ≤ m) : PK.scan s m (l.drop q) = (3, 0) := by
  rw [List.drop_eq_getElem_cons h]
  rw [at8_get l q h] at h1 h2
  show (if l[q] = s then _ else _) = _
  rw [if_neg (fun e => h1 (by rw [e])), if_pos (by simp [PK.isD]; omega)]
theorem PK.scan_end (s : UInt8) (m : Nat) (l : List UInt8) (q : Nat) (h : l.length ≤ q) : PK.scan s m (l.drop q) = (12, 0) := by
  rw [List.drop_eq_nil_of_le h]; rfl
/-- What digits answers. -/
def digV (s : UInt8) (p : Nat) (l : List UInt8) : Value :=
  .tuple #[.int .u64 (PK.digs s (l.drop p)).1, .int .i64 (if (PK.digs s (l.drop p)).2.2 = 0 then (p : Int) + (PK.digs s (l.drop p)).2.1 + 1 else 0), errV (PK.digs s (l.drop p)).2.2]
theorem digV_err {s : UInt8} {p : Nat} {l : List UInt8} {e : Nat} (h : PK.scan s 0 (l.drop p) = (e + 1, 0)) : digV s p l = .tuple #[.int .u64 0, .int .i64 0, .iface 78 (.int .i64 ((e : Int) + 1))] := by
  have : PK.digs s (l.drop p) = (0, 0, e + 1) := by unfold PK.digs; rw [h]; simp
  unfold digV; rw [this]; simp [errV]
theorem digV_form {s : UInt8} {p m : Nat} {l : List UInt8} (h : PK.scan s 0 (l.drop p) = (0, m)) (hb : m = 0 ∨ (1 < m ∧ (l.drop p).head? = some 48) ∨ 18446744073709551616 ≤ PK.dval 0 ((l.drop p).take m)) : digV s p l = .tuple #[.int .u64 0, .int .i64 0, .iface 78 (.int .i64 3)] := by
  have : PK.digs s (l.drop p) = (0, 0, 3) := by unfold PK.digs; rw [h]; simp only [if_true]; rw [if_pos hb]
  unfold digV; rw [this]; simp [errV]
theorem digV_ok {s : UInt8} {p m : Nat} {l : List UInt8} (h : PK.scan s 0 (l.drop p) = (0, m)) (h0 : m ≠ 0) (h1 : ¬ (1 < m ∧ (l.drop p).head? = some 48)) (h2 : PK.dval 0 ((l.drop p).take m) < 18446744073709551616) : digV s p l = .tuple #[.int .u64 (PK.dval 0 ((l.drop p).take m)), .int .i64 ((p : Int) + m + 1), .nilIface] := by
  have : PK.digs s (l.drop p) = (PK.dval 0 ((l.drop p).take m), m, 0) := by
    unfold PK.digs; rw [h]; simp only [if_true]; rw [if_neg]
    rintro (h3 | h3 | h3)
    · exact h0 h3
    · exact h1 h3
    · omega
  unfold digV; rw [this]; simp [errV]
/-- A digit 0 at a place. -/
theorem head_zero {l : List UInt8} {p : Nat} (h : p < l.length) : (l.drop p).head? = some 48 ↔ at8 l p = 48 := by
  rw [List.drop_eq_getElem_cons h, List.head?_cons, at8_get l p h]
  constructor
  · intro e; simp at e; rw [e]; rfl
  · intro e
    have : l[p] = (48 : UInt8) := at8_inj (by rw [e]; rfl)
    rw [this]

set_option maxRecDepth 100000 in
set_option maxHeartbeats 2000000 in
/-- digits. -/
theorem digits_any (a : Option Addr) (c p : Nat) (l : List UInt8) (s : UInt8) (sg : Int) (w : World) (hE : Env w) (hv : IsB w (.slice a l.length c) l) (hp : p ≤ l.length) (hsg : sg = (s.toNat : Int)) :
    Calls Tryz.prog 141 #[.slice a l.length c, .int .i64 p, .int .u8 sg] w fun e w' => e = .returned (digV s p l) ∧ Below w.heap.size w w' := by
  have Hv := Lib.hid hv
  have HE := Lib.hid hE
  have Hsg := Lib.hid hsg
  clear hE hsg
  by_cases hl : l = []
  · subst hl
    obtain rfl : p = 0 := by simpa using hp
    have Hs := Lib.hid (digV_err (PK.scan_end s 0 [] 0 (by simp)))
    clear hv hp
    go_enter Tryz.func141, Tryz.ntmps141
    go_wp2
    refine wp_loop_rounds 1 ?_
    rw [rounds_succ]
    go_wp2
    go_ret3
    exact ⟨by rw [Hs.out]; rfl, Below.refl _ _⟩
  · obtain ⟨_, hl1, hl2, b, o, rfl, hc⟩ := Hv.out.open_cons hl
    have Hc := Lib.hid hc
    have hlm : l.length ≤ 9223372036854775807 := by unfold maxLen at hl2; omega
    have Hl2 := Lib.hid hl2
    generalize hn : l.length = n at *
    have Hn := Lib.hid hn
    clear hv hl hc hn hl2
    go_enter Tryz.func141, Tryz.ntmps141
    go_wp2
    go_loop [9] (fun v => ∃ m : Nat, p + m ≤ n ∧ m ≤ 20 ∧ v = .int .i64 ((p : Int) + m) ∧ Hid (PK.scan s 0 (l.drop p) = PK.scan s m (l.drop (p + m)))) (fun v => n - (intOf v).toNat)
    case atStart => exact ⟨0, by omega, by omega, by simp, rfl⟩
    case round =>
      obtain ⟨m, hm, hm20, rfl, Hr⟩ := hrel
      by_cases hlt : p + m < n
      · have hcell := Hc.out (p + m) hlt
        have hnn := at8_nonneg l (p + m)
        have hle := at8_le l (p + m)
        generalize hx : at8 l (p + m) = x at hcell hnn hle
        have Hx := Lib.hid hx
        clear hx
        by_cases hs : x = sg
        · have hs1 : (x != sg) = false := by simp [hs]
          have Hs := Lib.hid hs
          clear hs
          have HR := Lib.hid (Hr.out.trans (PK.scan_sign s m l (p + m) (by rw [Hn.out]; exact hlt) (by rw [Hx.out, ← Hsg.out]; exact Hs.out)))
          have hcap := Hl2.out
          have hsl : ∀ W : World, (Instr.sliceAt 22 (.slice (some ⟨b, o, none⟩) n c) (some (.int .i64 (p : Int))) (some (.int .i64 ((p : Int) + m))) none).run Tryz.prog W = .ok (.slice (cutAt (some ⟨b, o, none⟩) p c) m (c - p)) W := fun W => by
            have := run_sliceAt_lh T22 (some ⟨b, o, none⟩) n c (p : Int) ((p : Int) + m) (by omega) (by omega) (by omega) W
            rw [this, show ((p : Int) + m).toNat - (p : Int).toNat = m from by omega, Int.toNat_natCast]
          have hcut := isB_cut Hv.out p (p + m) (by omega) (by rw [Hn.out]; omega)
          rw [show p + m - p = m from by omega] at hcut
          have hds : (l.take (p + m)).drop p = (l.drop p).take m := by rw [List.drop_take]; congr 1; omega
          rw [hds] at hcut
          have hcv := run_toStr T22 U9 hcut.1
          have Hdig : Hid (∀ q ∈ (l.drop p).take m, PK.isD q = true) := by
            obtain ⟨j, e1, _, _, e4, _⟩ := PK.scan_ok s (l.drop p) 0 m HR.out
            rw [Nat.zero_add] at e1
            subst e1
            exact fun q hq => (e4 q hq).1
          have Hdl : Hid (((l.drop p).take m).length = m) := by have := Hn.out; unfold Hid; simp; omega
          have Hcv := Lib.hid hcv
          clear hcut hds hcv hcap
          by_cases hm0 : m = 0
          · have Hd := Lib.hid (digV_form HR.out (.inl hm0))
            have HP := Lib.hid (parseUint_no ((l.drop p).take m) w HE.out Hdig.out (by rw [Hdl.out]; omega) (.inl (by rw [hm0]; simp)))
            clear hm0
            have hcv := Hcv.out
            clear Hdl Hdig HR Hcv
            generalize str ((l.drop p).take m) = st at *
            go_wp2_with fail
            refine HP.out.mono ?_
            rintro e w1 ⟨⟨u, t, y, rfl⟩, hb⟩
            have Hb := Lib.hid hb
            clear hb
            go_wp2
            go_ret3
            exact ⟨by rw [Hd.out]; rfl, Hb.out⟩
          · have hmp : 1 ≤ m := by omega
            by_cases hbig : 18446744073709551616 ≤ PK.dval 0 ((l.drop p).take m)
            · have Hd := Lib.hid (digV_form HR.out (.inr (.inr hbig)))
              have HP := Lib.hid (parseUint_no ((l.drop p).take m) w HE.out Hdig.out (by rw [Hdl.out]; omega) (.inr hbig))
              clear hm0 hbig
              have hcv := Hcv.out
              clear Hdl Hdig HR Hcv
              generalize str ((l.drop p).take m) = st at *
              go_wp2_with fail
              refine HP.out.mono ?_
              rintro e w1 ⟨⟨u, t, y, rfl⟩, hb⟩
              have Hb := Lib.hid hb
              clear hb
              go_wp2
              go_ret3
              exact ⟨by rw [Hd.out]; rfl, Hb.out⟩
            · have hz := head_zero (l := l) (p := p) (by have := Hn.out; omega)
              have HP := Lib.hid (parseUint_ok ((l.drop p).take m) w Hdig.out (by intro e; have := Hdl.out; rw [e] at this; simp at this; omega) (by rw [Hdl.out]; omega) (by omega))
              have hcp := Hc.out p (by omega)
              have hcv := Hcv.out
              have Hok : Hid (¬ (1 < m ∧ (l.drop p).head? = some 48) → digV s p l = .tuple #[.int .u64 (PK.dval 0 ((l.drop p).take m)), .int .i64 ((p : Int) + m + 1), .nilIface]) := fun h => digV_ok HR.out hm0 h (by omega)
              have Hno : Hid ((1 < m ∧ (l.drop p).head? = some 48) → digV s p l = .tuple #[.int .u64 0, .int .i64 0, .iface 78 (.int .i64 3)]) := fun h => digV_form HR.out (.inr (.inl h))
              have Hz := Lib.hid hz
              clear hz hm0 hbig Hdl Hdig HR Hcv
              generalize str ((l.drop p).take m) = st at *
              generalize PK.dval 0 ((l.drop p).take m) = nv at *
              generalize hy : at8 l p = y at hcp Hz
              clear hy
              have hbp : b < w.heap.size := World.block_lt_of_cell? w _ hcp
              go_wp2_with fail
              refine HP.out.mono ?_
              rintro e w1 ⟨rfl, hb⟩
              have hcp1 : w1.cell? ⟨b, o + p, none⟩ = some (.int .u8 y) := (hb.cell (p := ⟨b, o + p, none⟩) hbp).trans hcp
              have Hb := Lib.hid hb
              clear hb
              by_cases hy48 : y = 48
              · have hy1 : (y == 48) = true := by simp [hy48]
                by_cases hm1 : 1 < m
                · have Hd := Lib.hid (Hno.out ⟨hm1, Hz.out.2 hy48⟩)
                  clear hy48 Hok Hno Hz
                  go_wp2
                  go_ret3
                  exact ⟨by rw [Hd.out]; rfl, Hb.out⟩
                · have Hd := Lib.hid (Hok.out (fun h => hm1 h.1))
                  clear hy48 Hok Hno Hz
                  go_wp2
                  go_ret3
                  exact ⟨by rw [Hd.out]; rfl, Hb.out⟩
              · have hy1 : (y == 48) = false := by simp [hy48]
                have Hd := Lib.hid (Hok.out (fun h => hy48 (Hz.out.1 h.2)))
                clear hy48 Hok Hno Hz
                go_wp2
                go_ret3
                exact ⟨by rw [Hd.out]; rfl, Hb.out⟩
        · have hs1 : (x != sg) = true := by simpa using hs
          have Hs := Lib.hid hs
          clear hs
          by_cases h48 : x < 48
          · have Hd := Lib.hid (digV_err (Hr.out.trans (PK.scan_bad s m l (p + m) (by rw [Hn.out]; exact hlt) (by rw [Hx.out, ← Hsg.out]; exact Hs.out) (by rw [Hx.out]; exact .inl h48))))
            go_wp2
            go_ret3
            exact ⟨by rw [Hd.out]; rfl, Below.refl _ _⟩
          · by_cases h57 : 57 < x
            · have Hd := Lib.hid (digV_err (Hr.out.trans (PK.scan_bad s m l (p + m) (by rw [Hn.out]; exact hlt) (by rw [Hx.out, ← Hsg.out]; exact Hs.out) (by rw [Hx.out]; exact .inr (.inl h57)))))
              go_wp2
              go_ret3
              exact ⟨by rw [Hd.out]; rfl, Below.refl _ _⟩
            · by_cases h20 : 20 ≤ m
              · have Hd := Lib.hid (digV_err (Hr.out.trans (PK.scan_bad s m l (p + m) (by rw [Hn.out]; exact hlt) (by rw [Hx.out, ← Hsg.out]; exact Hs.out) (.inr (.inr h20)))))
                go_wp2
                go_ret3
                exact ⟨by rw [Hd.out]; rfl, Below.refl _ _⟩
              · have Hd := Lib.hid (Hr.out.trans (PK.scan_step s m l (p + m) (by rw [Hn.out]; exact hlt) (by rw [Hx.out, ← Hsg.out]; exact Hs.out) (by rw [Hx.out]; omega) (by rw [Hx.out]; omega) (by omega)))
                go_wp2
                go_round
                case rel => exact ⟨m + 1, by omega, by omega, by go_num, Hd.out⟩
                case measure => simp [intOf]; omega
      · have Hd := Lib.hid (digV_err (Hr.out.trans (PK.scan_end s m l (p + m) (by rw [Hn.out]; omega))))
        go_wp2
        go_ret3
        exact ⟨by rw [Hd.out]; rfl, Below.refl _ _⟩
theorem fail_any (a : Option Addr) (n c k e : Nat) (w : World) :
    Calls Tryz.prog 63 #[.agg #[.slice a n c, .int .i64 k], .int .i64 e] w fun v w' => v = .returned (.agg #[.slice a n c, .int .i64 ((if k = 0 then e else k : Nat) : Int)]) ∧ Below w.heap.size w w' := by
  by_cases hk : k = 0
  · subst hk
    go_enter Tryz.func63, Tryz.ntmps63
    go_wp2
    go_returns
    refine ⟨by simp, ?_⟩
    go_grown
  · have h0 : ((k : Int) == 0) = false := by simp; omega
    rw [if_neg hk]
    go_enter Tryz.func63, Tryz.ntmps63
    go_wp2
    go_returns
    refine ⟨by simp, ?_⟩
    go_grown

/-- Blocks of the call's own, behind a callee. -/
theorem own1 {w w1 : World} {o1 : Obj} (b : Below (w.alloc o1).heap.size (w.alloc o1) w1) : w1.heap[w.heap.size]? = some o1 ∧ Below w.heap.size w w1 :=
  ⟨(b.block w.heap.size (by simp)).trans (heap_alloc_new w o1), ((Below.refl _ w).alloc (Nat.le_refl _) o1).trans (b.mono (by simp))⟩
theorem own2 {w w1 : World} {o1 o2 : Obj} (b : Below ((w.alloc o1).alloc o2).heap.size ((w.alloc o1).alloc o2) w1) : w1.heap[w.heap.size]? = some o1 ∧ w1.heap[w.heap.size + 1]? = some o2 ∧ Below w.heap.size w w1 := by
  obtain ⟨h1, h2⟩ := own1 b
  refine ⟨(b.block w.heap.size (by simp; omega)).trans ?_, by simpa using h1, ((Below.refl _ w).alloc (Nat.le_refl _) o1).trans (h2.mono (by simp))⟩
  exact (Below.heap_alloc (w.alloc o1) o2 w.heap.size (by simp)).trans (heap_alloc_new w o1)
/-- Two stores into a block of two cells. -/
theorem stored2 {w : World} {M : Nat} {x0 y0 : Value} {t : TypeId} (h : w.heap[M]? = some (.cells #[x0, y0] t)) (x y : Value) : ((w.setCell ⟨M, 0, none⟩ x).setCell ⟨M, 1, none⟩ y).heap[M]? = some (.cells #[x, y] t) := by
  simp only [World.setCell, Array.getElem?_modify, if_true, h, Option.map_some]
  simp

/-- What head answers as the error. -/
def headP (lc : UInt8) (l : List UInt8) (k : Nat) : Nat := if k = 0 then PK.begP [lc] l else k

theorem head_any (a : Option Addr) (c k : Nat) (l : List UInt8) (lc : UInt8) (x : Int) (w : World) (hv : IsB w (.slice a l.length c) l) (hx : x = (lc.toNat : Int)) :
    Calls Tryz.prog 64 #[.agg #[.slice a l.length c, .int .i64 k], .int .u8 x] w fun v w' => v = .returned (.agg #[.slice a l.length c, .int .i64 (headP lc l k : Int)]) ∧ Below w.heap.size w w' := by
  unfold headP
  by_cases hk : k = 0
  · subst hk
    rw [if_pos rfl]
    cases l with
    | nil =>
      clear hv hx
      have HF := Lib.hid (fun W : World => fail_any a 0 c 0 12 W)
      go_enter Tryz.func64, Tryz.ntmps64
      go_wp2_with fail
      refine (HF.out _).mono ?_
      rintro v w1 ⟨rfl, b1⟩
      obtain ⟨g1, g2, bb⟩ := own2 b1
      obtain ⟨d0, d1, z0, z1⟩ := cells2 g2
      obtain ⟨e0, e1, _, _⟩ := cells2 (stored2 g2 (.slice a 0 c) (.int .i64 12))
      have E0 := Lib.hid e0
      have E1 := Lib.hid e1
      have BB : Hid (Below w.heap.size w ((w1.setCell ⟨w.heap.size + 1, 0, none⟩ (.slice a 0 c)).setCell ⟨w.heap.size + 1, 1, none⟩ (.int .i64 12))) := (bb.setCell (by simp) _).setCell (by simp) _
      clear g1 g2 bb b1 HF e0 e1
      go_wp2
      generalize ((w1.setCell ⟨w.heap.size + 1, 0, none⟩ (.slice a 0 c)).setCell ⟨w.heap.size + 1, 1, none⟩ (.int .i64 12)) = W at *
      exact bodyPost_ret (v := .agg #[.slice a 0 c, .int .i64 12]) (by simp [results, Tryz.results64, go_sem, E0.out, E1.out]) rfl ⟨rfl, BB.out⟩
    | cons y r =>
      obtain ⟨_, hl1, _, b, o, rfl, hc⟩ := hv.open_cons (by simp)
      have hx0 : w.cell? ⟨b, o, none⟩ = some (.int .u8 (at8 (y :: r) 0)) := by simpa using hc 0 (by simp)
      have hat : at8 (y :: r) 0 = (y.toNat : Int) := rfl
      rw [hat] at hx0
      have hbl : b < w.heap.size := World.block_lt_of_cell? w _ hx0
      have hy0 : ∀ o1 o2 : Obj, ((w.alloc o1).alloc o2).cell? ⟨b, o, none⟩ = some (.int .u8 (y.toNat : Int)) := fun o1 o2 => by
        rw [World.cell?_alloc_lt _ _ _ (by simp; omega), World.cell?_alloc_lt _ _ _ hbl]; exact hx0
      have hp : 0 < (y :: r).length := by simp
      have hz : (((y :: r).length : Int) == 0) = false := by simp; omega
      generalize hlen : (y :: r).length = n at *
      have Hx := Lib.hid hx
      clear hv hc hat hlen hx
      by_cases hm : y = lc
      · have hq : ((y.toNat : Int) != x) = false := by rw [Hx.out, hm]; simp
        have hb : PK.begP [lc] (y :: r) = 0 := by simp [PK.begP, hm]
        rw [hb]
        clear hm hb
        go_enter Tryz.func64, Tryz.ntmps64
        go_wp2
        go_returns
        refine ⟨by simp, ?_⟩
        go_grown
      · have hq : ((y.toNat : Int) != x) = true := by
          rw [Hx.out, bne_iff_ne]
          exact fun e => hm (at8_inj e)
        have hb : PK.begP [lc] (y :: r) = 3 := by simp [PK.begP, hm]
        rw [hb]
        clear hm hb
        have HF := Lib.hid (fun W : World => fail_any (some ⟨b, o, none⟩) n c 0 3 W)
        go_enter Tryz.func64, Tryz.ntmps64
        go_wp2_with fail
        refine (HF.out _).mono ?_
        rintro v w1 ⟨rfl, b1⟩
        obtain ⟨g1, g2, bb⟩ := own2 b1
        obtain ⟨d0, d1, z0, z1⟩ := cells2 g2
        obtain ⟨e0, e1, _, _⟩ := cells2 (stored2 g2 (.slice (some ⟨b, o, none⟩) n c) (.int .i64 3))
        have E0 := Lib.hid e0
        have E1 := Lib.hid e1
        have BB : Hid (Below w.heap.size w ((w1.setCell ⟨w.heap.size + 1, 0, none⟩ (.slice (some ⟨b, o, none⟩) n c)).setCell ⟨w.heap.size + 1, 1, none⟩ (.int .i64 3))) := (bb.setCell (by simp) _).setCell (by simp) _
        clear g1 g2 bb b1 HF e0 e1
        go_wp2
        generalize ((w1.setCell ⟨w.heap.size + 1, 0, none⟩ (.slice (some ⟨b, o, none⟩) n c)).setCell ⟨w.heap.size + 1, 1, none⟩ (.int .i64 3)) = W at *
        exact bodyPost_ret (v := .agg #[.slice (some ⟨b, o, none⟩) n c, .int .i64 3]) (by simp [results, Tryz.results64, go_sem, E0.out, E1.out]) rfl ⟨rfl, BB.out⟩
  · have h0 : ((k : Int) != 0) = true := by simp; omega
    rw [if_neg hk]
    clear hv hx
    go_enter Tryz.func64, Tryz.ntmps64
    go_wp2
    go_returns
    refine ⟨by simp, ?_⟩
    go_grown

/-- Done. -/
theorem rdone_any (a : Option Addr) (c k : Nat) (l : List UInt8) (w : World) :
    Calls Tryz.prog 27 #[.agg #[.slice a l.length c, .int .i64 k]] w fun v w' => v = .returned (.int .i64 (PK.doneP l k : Int)) ∧ Below w.heap.size w w' := by
  unfold PK.doneP
  by_cases hk : k = 0
  · subst hk
    by_cases hl : l = []
    · subst hl
      go_enter Tryz.func27, Tryz.ntmps27
      go_wp2
      go_ret
      refine ⟨by simp, ?_⟩
      go_grown
    · have hp : 0 < l.length := List.length_pos_iff.2 hl
      rw [if_pos ⟨rfl, hl⟩]
      clear hl
      go_enter Tryz.func27, Tryz.ntmps27
      go_wp2
      go_ret
      refine ⟨by simp, ?_⟩
      go_grown
  · have h0 : ((k : Int) == 0) = false := by simp; omega
    rw [if_neg (fun h => hk h.1)]
    clear hk
    go_enter Tryz.func27, Tryz.ntmps27
    go_wp2
    go_ret
    refine ⟨by simp, ?_⟩
    go_grown
/-- What digits answers. -/
def rdigV (s : UInt8) (p : Nat) (l : List UInt8) : Value :=
  .tuple #[.int .u64 (PK.digs s (l.drop p)).1, .int .i64 (if (PK.digs s (l.drop p)).2.2 = 0 then (p : Int) + (PK.digs s (l.drop p)).2.1 + 1 else 0), .int .i64 (PK.digs s (l.drop p)).2.2]
theorem rdigV_err {s : UInt8} {p : Nat} {l : List UInt8} {e : Nat} (h : PK.scan s 0 (l.drop p) = (e, 0)) (he : e ≠ 0) : rdigV s p l = .tuple #[.int .u64 0, .int .i64 0, .int .i64 e] := by
  have : PK.digs s (l.drop p) = (0, 0, e) := by unfold PK.digs; rw [h]; simp [he]
  unfold rdigV; rw [this]; simp [he]
theorem rdigV_form {s : UInt8} {p m : Nat} {l : List UInt8} (h : PK.scan s 0 (l.drop p) = (0, m)) (hb : m = 0 ∨ (1 < m ∧ (l.drop p).head? = some 48) ∨ 18446744073709551616 ≤ PK.dval 0 ((l.drop p).take m)) : rdigV s p l = .tuple #[.int .u64 0, .int .i64 0, .int .i64 3] := by
  have : PK.digs s (l.drop p) = (0, 0, 3) := by unfold PK.digs; rw [h]; simp only [if_true]; rw [if_pos hb]
  unfold rdigV; rw [this]; simp
theorem rdigV_ok {s : UInt8} {p m : Nat} {l : List UInt8} (h : PK.scan s 0 (l.drop p) = (0, m)) (h0 : m ≠ 0) (h1 : ¬ (1 < m ∧ (l.drop p).head? = some 48)) (h2 : PK.dval 0 ((l.drop p).take m) < 18446744073709551616) : rdigV s p l = .tuple #[.int .u64 (PK.dval 0 ((l.drop p).take m)), .int .i64 ((p : Int) + m + 1), .int .i64 0] := by
  have : PK.digs s (l.drop p) = (PK.dval 0 ((l.drop p).take m), m, 0) := by
    unfold PK.digs; rw [h]; simp only [if_true]; rw [if_neg]
    rintro (h3 | h3 | h3)
    · exact h0 h3
    · exact h1 h3
    · omega
  unfold rdigV; rw [this]; simp

/-- The greatest uint64 as text. -/
def maxText : List UInt8 := [49, 56, 52, 52, 54, 55, 52, 52, 48, 55, 51, 55, 48, 57, 53, 53, 49, 54, 49, 53]
theorem maxText_val : PK.dval 0 maxText = 18446744073709551615 := by decide +kernel
theorem maxText_digits : ∀ c ∈ maxText, PK.isD c = true := by decide +kernel
/-- Twenty digits: more than the greatest as text is more as a number. -/
theorem more_text (l : List UInt8) (h : ∀ c ∈ l, PK.isD c = true) (hl : l.length = 20) :
    (!(Op.bytesLess l maxText || l == maxText)) = decide (18446744073709551616 ≤ PK.dval 0 l) := by
  have h1 := PK.less_iff l maxText 0 (by rw [hl]; rfl) h maxText_digits
  rw [maxText_val] at h1
  by_cases he : l = maxText
  · subst he
    rw [maxText_val]
    simp
  · have h2 := PK.less_iff maxText l 0 (by rw [hl]; rfl) maxText_digits h
    rw [maxText_val] at h2
    have hne : PK.dval 0 l ≠ 18446744073709551615 := fun e => he (PK.dval_inj l maxText 0 (by rw [hl]; rfl) h maxText_digits (by rw [maxText_val]; exact e))
    have hq : (l == maxText) = false := by simp [he]
    rw [hq, Bool.or_false]
    cases hb : Op.bytesLess l maxText
    · have : ¬ PK.dval 0 l < 18446744073709551615 := fun q => by rw [h1.2 q] at hb; cases hb
      exact (decide_eq_true (by omega)).symm
    · have := h1.1 hb
      exact (decide_eq_false (by omega)).symm

/-- One digit more, in wrap-round. -/
theorem step_val (l : List UInt8) (p m : Nat) (q x : Int) (hm : p + m < l.length) (hq : q = ((PK.dval 0 ((l.drop p).take m) % 18446744073709551616 : Nat) : Int)) (hx : x = at8 l (p + m)) (h1 : 48 ≤ x) (h2 : x ≤ 57) :
    IntKind.u64.wrap (IntKind.u64.wrap (10 * q) + (x - 48)) = ((PK.dval 0 ((l.drop p).take (m + 1)) % 18446744073709551616 : Nat) : Int) := by
  rw [PK.dval_snoc (l.drop p) m (by simp; omega), List.getElem_drop]
  rw [at8_get l _ hm] at hx
  generalize PK.dval 0 ((l.drop p).take m) = D at *
  generalize (l[p + m]).toNat = X at *
  subst hq hx
  rw [IntKind.wrap_u64, IntKind.wrap_u64]
  omega

set_option maxRecDepth 100000 in
set_option maxHeartbeats 2000000 in
/-- digits. -/
theorem rdigits_any (a : Option Addr) (c p : Nat) (l : List UInt8) (s : UInt8) (sg : Int) (w : World) (hv : IsB w (.slice a l.length c) l) (hp : p ≤ l.length) (hsg : sg = (s.toNat : Int)) :
    Calls Tryz.prog 65 #[.slice a l.length c, .int .i64 p, .int .u8 sg] w fun e w' => e = .returned (rdigV s p l) ∧ w = w' := by
  have Hv := Lib.hid hv
  have Hsg := Lib.hid hsg
  clear hsg
  by_cases hl : l = []
  · subst hl
    obtain rfl : p = 0 := by simpa using hp
    have Hs := Lib.hid (rdigV_err (PK.scan_end s 0 [] 0 (by simp)) (by omega))
    clear hv hp
    go_enter Tryz.func65, Tryz.ntmps65
    go_wp2
    refine wp_loop_rounds 1 ?_
    rw [rounds_succ]
    go_wp2
    go_ret3
    exact ⟨by rw [Hs.out]; rfl, rfl⟩
  · obtain ⟨_, hl1, hl2, b, o, rfl, hc⟩ := Hv.out.open_cons hl
    have Hc := Lib.hid hc
    have hlm : l.length ≤ 9223372036854775807 := by unfold maxLen at hl2; omega
    have Hl2 := Lib.hid hl2
    generalize hn : l.length = n at *
    have Hn := Lib.hid hn
    clear hv hl hc hn hl2
    go_enter Tryz.func65, Tryz.ntmps65
    go_wp2
    go_loop [9, 10] (fun v9 v => ∃ m : Nat, p + m ≤ n ∧ m ≤ 20 ∧ v = .int .i64 ((p : Int) + m) ∧ Hid (PK.scan s 0 (l.drop p) = PK.scan s m (l.drop (p + m))) ∧ ∃ q : Int, v9 = .int .u64 q ∧ Hid (q = ((PK.dval 0 ((l.drop p).take m) % 18446744073709551616 : Nat) : Int))) (fun _ v => n - (intOf v).toNat)
    case atStart => exact ⟨0, by omega, by omega, by simp, rfl, 0, rfl, rfl⟩
    case round =>
      obtain ⟨m, hm, hm20, rfl, Hr, q, rfl, Hq⟩ := hrel
      have hm0 : (0 : Int) ≤ m := by omega
      by_cases hlt : p + m < n
      · have hcell := Hc.out (p + m) hlt
        have hnn := at8_nonneg l (p + m)
        have hle := at8_le l (p + m)
        generalize hx : at8 l (p + m) = x at hcell hnn hle
        have Hx := Lib.hid hx
        clear hx
        by_cases hs : x = sg
        · have hs1 : (x == sg) = true := by simp [hs]
          have Hs := Lib.hid hs
          clear hs
          have HR := Lib.hid (Hr.out.trans (PK.scan_sign s m l (p + m) (by rw [Hn.out]; exact hlt) (by rw [Hx.out, ← Hsg.out]; exact Hs.out)))
          have hlen : ((l.drop p).take m).length = m := by have := Hn.out; simp; omega
          have hdig : ∀ q ∈ (l.drop p).take m, PK.isD q = true := by
            obtain ⟨j, e1, _, _, e4, _⟩ := PK.scan_ok s (l.drop p) 0 m HR.out
            rw [Nat.zero_add] at e1
            subst e1
            exact fun q hq => (e4 q hq).1
          by_cases hm0' : m = 0
          · have Hd := Lib.hid (rdigV_form HR.out (.inl hm0'))
            have t0 : ((p : Int) + m - p == 0) = true := by simp; omega
            clear hm0' hlen hdig
            go_wp2
            go_ret3
            exact ⟨by rw [Hd.out]; rfl, rfl⟩
          · have t0 : ((p : Int) + m - p == 0) = false := by simp; omega
            have hz := head_zero (l := l) (p := p) (by have := Hn.out; omega)
            have hcp := Hc.out p (by omega)
            generalize hy : at8 l p = y at hcp hz
            by_cases hlead : 1 < m ∧ y = 48
            · have Hd := Lib.hid (rdigV_form HR.out (.inr (.inl ⟨hlead.1, hz.2 hlead.2⟩)))
              have t1 : 1 < m := hlead.1
              have t2 : (y == 48) = true := by simp [hlead.2]
              clear hlead hm0' hlen hdig hz hy
              go_wp2
              go_ret3
              exact ⟨by rw [Hd.out]; rfl, rfl⟩
            · have Hlead : Hid (¬ (1 < m ∧ (l.drop p).head? = some 48)) := fun h => hlead ⟨h.1, hz.1 h.2⟩
              have Hok : Hid (PK.dval 0 ((l.drop p).take m) < 18446744073709551616 → rdigV s p l = .tuple #[.int .u64 q, .int .i64 ((p : Int) + m + 1), .int .i64 0]) := fun h => by
                rw [rdigV_ok HR.out hm0' Hlead.out h, Hq.out, Nat.mod_eq_of_lt h]
              by_cases h20 : m = 20
              · have t20 : ((p : Int) + m - p == 20) = true := by simp; omega
                have t1 : 1 < m := by omega
                have t2 : (y == 48) = false := by simp; exact fun h => hlead ⟨t1, h⟩
                have hcap := Hl2.out
                have hsl : ∀ W : World, (Instr.sliceAt 22 (.slice (some ⟨b, o, none⟩) n c) (some (.int .i64 (p : Int))) (some (.int .i64 ((p : Int) + m))) none).run Tryz.prog W = .ok (.slice (cutAt (some ⟨b, o, none⟩) p c) m (c - p)) W := fun W => by
                  have := run_sliceAt_lh T22 (some ⟨b, o, none⟩) n c (p : Int) ((p : Int) + m) (by omega) (by omega) (by omega) W
                  rw [this, show ((p : Int) + m).toNat - (p : Int).toNat = m from by omega, Int.toNat_natCast]
                have hcut := isB_cut Hv.out p (p + m) (by omega) (by rw [Hn.out]; omega)
                rw [show p + m - p = m from by omega] at hcut
                have hds : (l.take (p + m)).drop p = (l.drop p).take m := by rw [List.drop_take]; congr 1; omega
                rw [hds] at hcut
                have hcv := run_toStr T22 U9 hcut.1
                have hmt := more_text ((l.drop p).take m) hdig (by rw [hlen]; exact h20)
                have htl : (str ((l.drop p).take m)).toList = (l.drop p).take m := by rw [Lib.toList_data, str_list]
                rw [← htl] at hmt
                have hc1 : ∃ b1, Op.bytesLess (str ((l.drop p).take m)).toList [49, 56, 52, 52, 54, 55, 52, 52, 48, 55, 51, 55, 48, 57, 53, 53, 49, 54, 49, 53] = b1 := ⟨_, rfl⟩
                have hc2 : ∃ b2, ((str ((l.drop p).take m)).toList == [49, 56, 52, 52, 54, 55, 52, 52, 48, 55, 51, 55, 48, 57, 53, 53, 49, 54, 49, 53]) = b2 := ⟨_, rfl⟩
                obtain ⟨b1, hb1⟩ := hc1
                obtain ⟨b2, hb2⟩ := hc2
                have hmt' : (!(b1 || b2)) = decide (18446744073709551616 ≤ PK.dval 0 (str ((l.drop p).take m)).toList) := by rw [← hb1, ← hb2]; exact hmt
                rw [htl] at hmt'
                cases b1 with
                | true =>
                  have Hd := Lib.hid (Hok.out (by simp at hmt'; omega))
                  clear hmt' hmt htl hds hcut hcap h20 hlead Hok hz hy hdig hlen hm0'
                  generalize str ((l.drop p).take m) = st at *
                  go_wp2
                  go_ret3
                  exact ⟨by rw [Hd.out]; rfl, rfl⟩
                | false =>
                  cases b2 with
                  | true =>
                    have Hd := Lib.hid (Hok.out (by simp at hmt'; omega))
                    clear hmt' hmt htl hds hcut hcap h20 hlead Hok hz hy hdig hlen hm0'
                    generalize str ((l.drop p).take m) = st at *
                    go_wp2
                    go_ret3
                    exact ⟨by rw [Hd.out]; rfl, rfl⟩
                  | false =>
                    have Hd := Lib.hid (rdigV_form HR.out (.inr (.inr (by simp at hmt'; omega))))
                    clear hmt' hmt htl hds hcut hcap h20 hlead Hok hz hy hdig hlen hm0'
                    generalize str ((l.drop p).take m) = st at *
                    go_wp2
                    go_ret3
                    exact ⟨by rw [Hd.out]; rfl, rfl⟩
              · have t20 : ((p : Int) + m - p == 20) = false := by simp; omega
                have hlt2 : PK.dval 0 ((l.drop p).take m) < 18446744073709551616 := by
                  have h1 := PK.dval_lt_pow ((l.drop p).take m) 0 hdig
                  rw [hlen] at h1
                  have h2 : 10 ^ m ≤ 10 ^ 19 := Nat.pow_le_pow_right (by omega) (by omega)
                  have h3 : (10 : Nat) ^ 19 = 10000000000000000000 := by decide
                  omega
                have Hd := Lib.hid (Hok.out hlt2)
                clear hm0' hlen hdig hz hy hlt2 h20 Hok
                by_cases hm1 : 1 < m
                · have t2 : (y == 48) = false := by simp; exact fun h => hlead ⟨hm1, h⟩
                  clear hlead
                  go_wp2
                  go_ret3
                  exact ⟨by rw [Hd.out]; rfl, rfl⟩
                · clear hlead
                  go_wp2
                  go_ret3
                  exact ⟨by rw [Hd.out]; rfl, rfl⟩
        · have hs1 : (x == sg) = false := by simpa using hs
          have Hs := Lib.hid hs
          clear hs
          by_cases h48 : x < 48
          · have Hd := Lib.hid (rdigV_err (Hr.out.trans (PK.scan_bad s m l (p + m) (by rw [Hn.out]; exact hlt) (by rw [Hx.out, ← Hsg.out]; exact Hs.out) (by rw [Hx.out]; exact .inl h48))) (by omega))
            go_wp2
            go_ret3
            exact ⟨by rw [Hd.out]; rfl, rfl⟩
          · by_cases h57 : 57 < x
            · have Hd := Lib.hid (rdigV_err (Hr.out.trans (PK.scan_bad s m l (p + m) (by rw [Hn.out]; exact hlt) (by rw [Hx.out, ← Hsg.out]; exact Hs.out) (by rw [Hx.out]; exact .inr (.inl h57)))) (by omega))
              go_wp2
              go_ret3
              exact ⟨by rw [Hd.out]; rfl, rfl⟩
            · by_cases h20 : m = 20
              · have Hd := Lib.hid (rdigV_err (Hr.out.trans (PK.scan_bad s m l (p + m) (by rw [Hn.out]; exact hlt) (by rw [Hx.out, ← Hsg.out]; exact Hs.out) (.inr (.inr (by omega))))) (by omega))
                have h21 : ((p : Int) + m - p == 20) = true := by simp; omega
                clear h20
                go_wp2
                go_ret3
                exact ⟨by rw [Hd.out]; rfl, rfl⟩
              · have Hd := Lib.hid (Hr.out.trans (PK.scan_step s m l (p + m) (by rw [Hn.out]; exact hlt) (by rw [Hx.out, ← Hsg.out]; exact Hs.out) (by rw [Hx.out]; omega) (by rw [Hx.out]; omega) (by omega)))
                have h21 : ((p : Int) + m - p == 20) = false := by simp; omega
                have h19 : m ≤ 19 := by omega
                have Hx2 : Hid (x = at8 l (p + m)) := Hx.out.symm
                clear h20
                go_wp2
                go_round
                case rel =>
                  refine ⟨m + 1, by omega, by omega, by go_num, Hd.out, _, rfl, ?_⟩
                  exact step_val l p m q x (by have := Hn.out; omega) Hq.out Hx2.out (by omega) (by omega)
                case measure => simp [intOf]; omega
      · have Hd := Lib.hid (rdigV_err (Hr.out.trans (PK.scan_end s m l (p + m) (by rw [Hn.out]; omega))) (by omega))
        go_wp2
        go_ret3
        exact ⟨by rw [Hd.out]; rfl, rfl⟩
end Go.Proofs.YtkanjdijmdjbaaaGreatDoor
