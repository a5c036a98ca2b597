/-
  The document's answer's Take and Decode of an entry, by contracts.
  Conditions: the parameter reads as bytes and is at most 2^47 long.
-/
import Derived.Test.YtbgockggbpmhnaaGreatDoorEntD
namespace Go.Proofs.YtbgockggbpmhnaaGreatDoor
open Go Go.RowKit

theorem heap_drew (w : World) : w.drew.heap = w.heap := rfl
/-- Take's memory: the parameter's box, the two results, the entry under way; B is the first of the four blocks. -/
structure TkS (w : World) (B : Nat) (W : World) (a : Option Addr) (n c : Nat) (l : List UInt8) (k : Nat) (x y z u : Value) : Prop where
  b0 : W.heap[B]? = some (.cells #[.slice a n c, .int .i64 k] 63)
  b1 : W.heap[B + 1]? = some (.cells #[.slice none 0 0, .int .i64 0] 63)
  b2 : W.heap[B + 1 + 1]? = some (.cells #[.int .i64 0, .int .i64 0, .int .i64 0, .slice none 0 0] 71)
  b3 : W.heap[B + 1 + 1 + 1]? = some (.cells #[x, y, z, u] 71)
  be : Below B w W
  is : IsB W (.slice a n c) l
  hn : l.length = n
theorem TkS.below {w : World} {B : Nat} {W W' : World} {a : Option Addr} {n c : Nat} {l : List UInt8} {k : Nat} {x y z u : Value} (h : TkS w B W a n c l k x y z u) (f : Below W.heap.size W W') : TkS w B W' a n c l k x y z u :=
  ⟨(f.block _ (Array.getElem?_eq_some_iff.1 h.b0).1).trans h.b0, (f.block _ (Array.getElem?_eq_some_iff.1 h.b1).1).trans h.b1, (f.block _ (Array.getElem?_eq_some_iff.1 h.b2).1).trans h.b2, (f.block _ (Array.getElem?_eq_some_iff.1 h.b3).1).trans h.b3,
    h.be.trans (f.mono (Nat.le_of_lt (Array.getElem?_eq_some_iff.1 h.b0).1)), h.is.below f, h.hn⟩
/-- Bytes read on while the box or the entry under way turns. -/
theorem TkS.bytes {w : World} {B : Nat} {W : World} {a : Option Addr} {n c : Nat} {l : List UInt8} {k : Nat} {x y z u : Value} (h : TkS w B W a n c l k x y z u) (hx : ∀ n, x ≠ .int .u8 n) (hy : ∀ n, y ≠ .int .u8 n) (hz : ∀ n, z ≠ .int .u8 n) (hu : ∀ n, u ≠ .int .u8 n)
    {W' : World} (f : Fr (fun j => j = B ∨ j = B + 1 ∨ j = B + 1 + 1 ∨ j = B + 1 + 1 + 1) W W') {v : Value} {m : List UInt8} (hm : IsB W v m) : IsB W' v m := by
  by_cases hl : m = []
  · subst hl; exact hm.empty
  · refine hm.kept f (fun b hb e => ?_)
    rcases e with e | e | e | e
    · exact hm.apart2 h.b0 (by simp) (by simp) hl (by rw [hb, e])
    · exact hm.apart2 h.b1 (by simp) (by simp) hl (by rw [hb, e])
    · exact hm.apart4 h.b2 (by simp) (by simp) (by simp) (by simp) hl (by rw [hb, e])
    · exact hm.apart4 h.b3 hx hy hz hu hl (by rw [hb, e])
/-- What is read is stored into the box, then a field of the entry. -/
def put2 (W : World) (B : Nat) (a : Option Addr) (n c k : Nat) : World := (W.setCell ⟨B, 0, none⟩ (.slice a n c)).setCell ⟨B, 1, none⟩ (.int .i64 k)
theorem put2_fr (X : Nat → Prop) (W : World) (B : Nat) (hX : X B) (a : Option Addr) (n c k : Nat) : Fr X W (put2 W B a n c k) := by
  unfold put2
  exact Fr.setCell (X := X) (Fr.setCell (X := X) (Fr.refl _ _) (fun _ => hX) _) (fun _ => hX) _
theorem TkS.store {w : World} {B : Nat} {W : World} {a : Option Addr} {n c : Nat} {l : List UInt8} {k : Nat} {x y z u : Value} (h : TkS w B W a n c l k x y z u) (hx : ∀ n, x ≠ .int .u8 n) (hy : ∀ n, y ≠ .int .u8 n) (hz : ∀ n, z ≠ .int .u8 n) (hu : ∀ n, u ≠ .int .u8 n)
    {a' : Option Addr} {n' c' k' : Nat} {l' : List UInt8} (hi : IsB W (.slice a' n' c') l') (hn : l'.length = n') (i : Nat) (v x' y' z' u' : Value) (hs : (#[x, y, z, u] : Array Value).setIfInBounds i v = #[x', y', z', u']) :
    TkS w B ((put2 W B a' n' c' k').setCell ⟨B + 1 + 1 + 1, i, none⟩ v) a' n' c' l' k' x' y' z' u' := by
  have f : Fr (fun j => j = B ∨ j = B + 1 ∨ j = B + 1 + 1 ∨ j = B + 1 + 1 + 1) W ((put2 W B a' n' c' k').setCell ⟨B + 1 + 1 + 1, i, none⟩ v) :=
    Fr.setCell (X := fun j => j = B ∨ j = B + 1 ∨ j = B + 1 + 1 ∨ j = B + 1 + 1 + 1) (put2_fr _ W B (.inl rfl) a' n' c' k') (fun _ => .inr (.inr (.inr rfl))) v
  have e0 : ((put2 W B a' n' c' k').setCell ⟨B + 1 + 1 + 1, i, none⟩ v).heap[B]? = some (.cells #[.slice a' n' c', .int .i64 k'] 63) :=
    (Below.heap_setCell _ _ _ _ (by show B ≠ B + 1 + 1 + 1; omega)).trans (stored2 h.b0 _ _)
  have oth : ∀ K, K ≠ B → K ≠ B + 1 + 1 + 1 → ((put2 W B a' n' c' k').setCell ⟨B + 1 + 1 + 1, i, none⟩ v).heap[K]? = W.heap[K]? := fun K h1 h2 =>
    (Below.heap_setCell _ _ _ _ (by show K ≠ B + 1 + 1 + 1; exact h2)).trans (stored2_other _ _ h1)
  have e3 : (put2 W B a' n' c' k').heap[B + 1 + 1 + 1]? = some (.cells #[x, y, z, u] 71) := (stored2_other _ _ (by omega)).trans h.b3
  refine ⟨e0, (oth _ (by omega) (by omega)).trans h.b1, (oth _ (by omega) (by omega)).trans h.b2, ?_, h.be.trans ⟨f.os, f.tape, f.output, f.size, fun q hq => f.block q (by have := (Array.getElem?_eq_some_iff.1 h.b0).1; omega) (by omega)⟩, h.bytes hx hy hz hu f hi, hn⟩
  rw [← hs]
  simp only [World.setCell, Array.getElem?_modify, if_true]
  simp only [e3, Option.map_some]
  rfl

/-- What Take answers. -/
def TakeE (w w' : World) (v : Ending) (r : PK.Ent × List UInt8 × Nat) : Prop :=
  (∃ a c a2 n2 c2, v = .returned (.tuple #[.agg #[.slice a r.2.1.length c, .int .i64 (r.2.2 : Nat)], .agg #[.int .i64 r.1.i, .int .i64 r.1.t, .int .i64 r.1.k, .slice a2 n2 c2]]) ∧ IsB w' (.slice a r.2.1.length c) r.2.1 ∧ IsB w' (.slice a2 n2 c2) r.1.d) ∧ Below w.heap.size w w'


set_option maxRecDepth 100000 in
set_option maxHeartbeats 8000000 in
/-- Take. -/
theorem takeE_any (a : Option Addr) (c : Nat) (l : List UInt8) (w : World) (hv : IsB w (.slice a l.length c) l) (hl47 : l.length ≤ roomB) :
    Calls Tryz.prog 67 #[.agg #[.slice a l.length c, .int .i64 (0 : Nat)]] w fun v w' => TakeE w w' v (PK.readE l) := by
  obtain ⟨v1, l1, k1, hp1⟩ : ∃ v1 l1 k1, PK.uintP 1099511627776 l 0 = (v1, l1, k1) := ⟨_, _, _, rfl⟩
  obtain ⟨v2, l2, k2, hp2⟩ : ∃ v2 l2 k2, PK.uintP 1099511627776 l1 k1 = (v2, l2, k2) := ⟨_, _, _, rfl⟩
  obtain ⟨v3, l3, k3, hp3⟩ : ∃ v3 l3 k3, PK.uintP 2 l2 k2 = (v3, l3, k3) := ⟨_, _, _, rfl⟩
  obtain ⟨d, l4, k4, hp4⟩ : ∃ d l4 k4, PK.runP 98 4096 l3 k3 = (d, l4, k4) := ⟨_, _, _, rfl⟩
  have hb1 : v1 ≤ 1099511627776 := by have := PK.uint_le 1099511627776 l 0; rw [hp1] at this; exact this
  have hb2 : v2 ≤ 1099511627776 := by have := PK.uint_le 1099511627776 l1 k1; rw [hp2] at this; exact this
  have hb3 : v3 ≤ 2 := by have := PK.uint_le 2 l2 k2; rw [hp3] at this; exact this
  have hs3 : l3.length ≤ roomB := by
    have e1 := PK.uint_rest 1099511627776 l 0
    have e2 := PK.uint_rest 1099511627776 l1 k1
    have e3 := PK.uint_rest 2 l2 k2
    rw [hp1] at e1; rw [hp2] at e2; rw [hp3] at e3
    simp only at e1 e2 e3
    omega
  have hdec : PK.readE l = (⟨v1, v2, v3, d⟩, l4, k4) := by
    unfold PK.readE
    simp only [hp1, hp2, hp3, hp4]
  rw [hdec]
  have H1 : Hid (∀ (W : World) (a : Option Addr) (n c : Nat), l.length = n → IsB W (.slice a n c) l → Calls Tryz.prog 64 #[.agg #[.slice a n c, .int .i64 (0 : Nat)], .int .u64 1099511627776] W fun v w' => (∃ a' n' c', v = .returned (.tuple #[.agg #[.slice a' n' c', .int .i64 (k1 : Nat)], .int .u64 (v1 : Nat)]) ∧ l1.length = n' ∧ IsB w' (.slice a' n' c') l1) ∧ Below W.heap.size W w') := fun W a n c hn h => by
    subst hn
    have := rreadUint_any a c 0 1099511627776 l W h
    simp only [hp1] at this
    exact this.mono fun v w' ⟨⟨a', c', e1, e2⟩, b⟩ => ⟨⟨a', _, c', e1, rfl, e2⟩, b⟩
  have H2 : Hid (∀ (W : World) (a : Option Addr) (n c : Nat), l1.length = n → IsB W (.slice a n c) l1 → Calls Tryz.prog 64 #[.agg #[.slice a n c, .int .i64 (k1 : Nat)], .int .u64 1099511627776] W fun v w' => (∃ a' n' c', v = .returned (.tuple #[.agg #[.slice a' n' c', .int .i64 (k2 : Nat)], .int .u64 (v2 : Nat)]) ∧ l2.length = n' ∧ IsB w' (.slice a' n' c') l2) ∧ Below W.heap.size W w') := fun W a n c hn h => by
    subst hn
    have := rreadUint_any a c k1 1099511627776 l1 W h
    simp only [hp2] at this
    exact this.mono fun v w' ⟨⟨a', c', e1, e2⟩, b⟩ => ⟨⟨a', _, c', e1, rfl, e2⟩, b⟩
  have H3 : Hid (∀ (W : World) (a : Option Addr) (n c : Nat), l2.length = n → IsB W (.slice a n c) l2 → Calls Tryz.prog 64 #[.agg #[.slice a n c, .int .i64 (k2 : Nat)], .int .u64 2] W fun v w' => (∃ a' n' c', v = .returned (.tuple #[.agg #[.slice a' n' c', .int .i64 (k3 : Nat)], .int .u64 (v3 : Nat)]) ∧ l3.length = n' ∧ IsB w' (.slice a' n' c') l3) ∧ Below W.heap.size W w') := fun W a n c hn h => by
    subst hn
    have := rreadUint_any a c k2 2 l2 W h
    simp only [hp3] at this
    exact this.mono fun v w' ⟨⟨a', c', e1, e2⟩, b⟩ => ⟨⟨a', _, c', e1, rfl, e2⟩, b⟩
  have H4 : Hid (∀ (W : World) (a : Option Addr) (n c : Nat), l3.length = n → IsB W (.slice a n c) l3 → Calls Tryz.prog 35 #[.agg #[.slice a n c, .int .i64 (k3 : Nat)], .int .i64 4096] W fun v w' => (∃ a1 n1 c1 a2 n2 c2, v = .returned (.tuple #[.agg #[.slice a1 n1 c1, .int .i64 (k4 : Nat)], .slice a2 n2 c2]) ∧ l4.length = n1 ∧ IsB w' (.slice a1 n1 c1) l4 ∧ IsB w' (.slice a2 n2 c2) d) ∧ Below W.heap.size W w') := fun W a n c hn h => by
    subst hn
    have := rreadBytes_any a c k3 l3 4096 W h (by decide) (by decide) hs3
    rw [hp4] at this
    exact this.mono fun v w' ⟨⟨a1, c1, a2, c2, e1, e2, e3⟩, b⟩ => ⟨⟨a1, _, c1, a2, _, c2, e1, rfl, e2, e3⟩, b⟩
  have Hv := Lib.hid hv
  have wv1 : IntKind.i64.wrap (v1 : Int) = (v1 : Int) := by rw [IntKind.wrap_i64]; omega
  have wv2 : IntKind.i64.wrap (v2 : Int) = (v2 : Int) := by rw [IntKind.wrap_i64]; omega
  have wv3 : IntKind.i64.wrap (v3 : Int) = (v3 : Int) := by rw [IntKind.wrap_i64]; omega
  clear hv hl47 hdec hp1 hp2 hp3 hp4 hb1 hb2 hb3 hs3
  go_enter Tryz.func67, Tryz.ntmps67
  go_wp2_with fail
  have hw0 : ((((w.alloc (.cells #[.slice a l.length c, .int .i64 0] 63)).alloc (.cells #[.slice none 0 0, .int .i64 0] 63)).alloc (.cells #[.int .i64 0, .int .i64 0, .int .i64 0, .slice none 0 0] 71)).alloc (.cells #[.int .i64 0, .int .i64 0, .int .i64 0, .slice none 0 0] 71)) = ((((w.alloc (.cells #[.slice a l.length c, .int .i64 0] 63)).alloc (.cells #[.slice none 0 0, .int .i64 0] 63)).alloc (.cells #[.int .i64 0, .int .i64 0, .int .i64 0, .slice none 0 0] 71)).alloc (.cells #[.int .i64 0, .int .i64 0, .int .i64 0, .slice none 0 0] 71)) := rfl
  have T0 : Hid (TkS w w.heap.size ((((w.alloc (.cells #[.slice a l.length c, .int .i64 0] 63)).alloc (.cells #[.slice none 0 0, .int .i64 0] 63)).alloc (.cells #[.int .i64 0, .int .i64 0, .int .i64 0, .slice none 0 0] 71)).alloc (.cells #[.int .i64 0, .int .i64 0, .int .i64 0, .slice none 0 0] 71)) a l.length c l 0 (.int .i64 0) (.int .i64 0) (.int .i64 0) (.slice none 0 0)) := by
    have b1 := (((((Below.refl w.heap.size w).alloc (Nat.le_refl _) (.cells #[.slice a l.length c, .int .i64 0] 63)).alloc (by simp) (.cells #[.slice none 0 0, .int .i64 0] 63)).alloc (by simp <;> omega) (.cells #[.int .i64 0, .int .i64 0, .int .i64 0, .slice none 0 0] 71)).alloc (by simp <;> omega) (.cells #[.int .i64 0, .int .i64 0, .int .i64 0, .slice none 0 0] 71))
    refine ⟨?_, ?_, ?_, ?_, b1, Hv.out.below b1, rfl⟩
    · rw [Below.heap_alloc _ _ _ (by simp <;> omega), Below.heap_alloc _ _ _ (by simp <;> omega), Below.heap_alloc _ _ _ (by simp)]
      exact heap_alloc_new _ _
    · rw [Below.heap_alloc _ _ _ (by simp <;> omega), Below.heap_alloc _ _ _ (by simp)]
      have := heap_alloc_new (w.alloc (.cells #[.slice a l.length c, .int .i64 0] 63)) (.cells #[.slice none 0 0, .int .i64 0] 63)
      simpa using this
    · rw [Below.heap_alloc _ _ _ (by simp)]
      have := heap_alloc_new ((w.alloc (.cells #[.slice a l.length c, .int .i64 0] 63)).alloc (.cells #[.slice none 0 0, .int .i64 0] 63)) (.cells #[.int .i64 0, .int .i64 0, .int .i64 0, .slice none 0 0] 71)
      simpa using this
    · have := heap_alloc_new (((w.alloc (.cells #[.slice a l.length c, .int .i64 0] 63)).alloc (.cells #[.slice none 0 0, .int .i64 0] 63)).alloc (.cells #[.int .i64 0, .int .i64 0, .int .i64 0, .slice none 0 0] 71)) (.cells #[.int .i64 0, .int .i64 0, .int .i64 0, .slice none 0 0] 71)
      simpa using this
  clear hw0
  generalize ((((w.alloc (.cells #[.slice a l.length c, .int .i64 0] 63)).alloc (.cells #[.slice none 0 0, .int .i64 0] 63)).alloc (.cells #[.int .i64 0, .int .i64 0, .int .i64 0, .slice none 0 0] 71)).alloc (.cells #[.int .i64 0, .int .i64 0, .int .i64 0, .slice none 0 0] 71)) = W0 at *
  refine (H1.out W0 _ _ _ rfl T0.out.is).mono ?_
  rintro e w1 ⟨⟨a1, n1, c1, rfl, hn1, i1⟩, b1⟩
  have T1 := T0.out.below b1
  obtain ⟨x0, x1, xf0, xf1⟩ := cells2 T1.b0
  obtain ⟨y0, y1, y2, y3, yf0, yf1, yf2, yf3⟩ := cells4 T1.b3
  have U1 : Hid (TkS w w.heap.size (((w1.setCell ⟨w.heap.size, 0, none⟩ (.slice a1 n1 c1)).setCell ⟨w.heap.size, 1, none⟩ (.int .i64 (k1 : Nat))).setCell ⟨w.heap.size + 1 + 1 + 1, 0, none⟩ (.int .i64 v1)) a1 n1 c1 l1 k1 (.int .i64 v1) (.int .i64 0) (.int .i64 0) (.slice none 0 0)) := T1.store (by simp) (by simp) (by simp) (by simp) i1 hn1 0 (.int .i64 v1) (.int .i64 v1) (.int .i64 0) (.int .i64 0) (.slice none 0 0) rfl
  clear T0 T1 H1 i1 b1 hn1
  go_wp2_with fail
  generalize (((w1.setCell ⟨w.heap.size, 0, none⟩ (.slice a1 n1 c1)).setCell ⟨w.heap.size, 1, none⟩ (.int .i64 (k1 : Nat))).setCell ⟨w.heap.size + 1 + 1 + 1, 0, none⟩ (.int .i64 v1)) = W1 at *
  refine (H2.out W1 _ _ _ U1.out.hn U1.out.is).mono ?_
  rintro e w2 ⟨⟨a2, n2, c2, rfl, hn2, i2⟩, b2⟩
  clear x0 x1 xf0 xf1 y0 y1 y2 y3 yf0 yf1 yf2 yf3
  have T2 := U1.out.below b2
  obtain ⟨x0, x1, xf0, xf1⟩ := cells2 T2.b0
  obtain ⟨y0, y1, y2, y3, yf0, yf1, yf2, yf3⟩ := cells4 T2.b3
  have U2 : Hid (TkS w w.heap.size (((w2.setCell ⟨w.heap.size, 0, none⟩ (.slice a2 n2 c2)).setCell ⟨w.heap.size, 1, none⟩ (.int .i64 (k2 : Nat))).setCell ⟨w.heap.size + 1 + 1 + 1, 1, none⟩ (.int .i64 v2)) a2 n2 c2 l2 k2 (.int .i64 v1) (.int .i64 v2) (.int .i64 0) (.slice none 0 0)) := T2.store (by simp) (by simp) (by simp) (by simp) i2 hn2 1 (.int .i64 v2) (.int .i64 v1) (.int .i64 v2) (.int .i64 0) (.slice none 0 0) rfl
  clear U1 T2 H2 i2 b2 hn2
  go_wp2_with fail
  generalize (((w2.setCell ⟨w.heap.size, 0, none⟩ (.slice a2 n2 c2)).setCell ⟨w.heap.size, 1, none⟩ (.int .i64 (k2 : Nat))).setCell ⟨w.heap.size + 1 + 1 + 1, 1, none⟩ (.int .i64 v2)) = W2 at *
  refine (H3.out W2 _ _ _ U2.out.hn U2.out.is).mono ?_
  rintro e w3 ⟨⟨a3, n3, c3, rfl, hn3, i3⟩, b3⟩
  clear x0 x1 xf0 xf1 y0 y1 y2 y3 yf0 yf1 yf2 yf3
  have T3 := U2.out.below b3
  obtain ⟨x0, x1, xf0, xf1⟩ := cells2 T3.b0
  obtain ⟨y0, y1, y2, y3, yf0, yf1, yf2, yf3⟩ := cells4 T3.b3
  have U3 : Hid (TkS w w.heap.size (((w3.setCell ⟨w.heap.size, 0, none⟩ (.slice a3 n3 c3)).setCell ⟨w.heap.size, 1, none⟩ (.int .i64 (k3 : Nat))).setCell ⟨w.heap.size + 1 + 1 + 1, 2, none⟩ (.int .i64 v3)) a3 n3 c3 l3 k3 (.int .i64 v1) (.int .i64 v2) (.int .i64 v3) (.slice none 0 0)) := T3.store (by simp) (by simp) (by simp) (by simp) i3 hn3 2 (.int .i64 v3) (.int .i64 v1) (.int .i64 v2) (.int .i64 v3) (.slice none 0 0) rfl
  clear U2 T3 H3 i3 b3 hn3
  go_wp2_with fail
  generalize (((w3.setCell ⟨w.heap.size, 0, none⟩ (.slice a3 n3 c3)).setCell ⟨w.heap.size, 1, none⟩ (.int .i64 (k3 : Nat))).setCell ⟨w.heap.size + 1 + 1 + 1, 2, none⟩ (.int .i64 v3)) = W3 at *
  refine (H4.out W3 _ _ _ U3.out.hn U3.out.is).mono ?_
  rintro e w4 ⟨⟨a4, n4, c4, a5, n5, c5, rfl, hn4, i4, i5⟩, b4⟩
  clear x0 x1 xf0 xf1 y0 y1 y2 y3 yf0 yf1 yf2 yf3
  have T4 := U3.out.below b4
  obtain ⟨x0, x1, xf0, xf1⟩ := cells2 T4.b0
  obtain ⟨y0, y1, y2, y3, yf0, yf1, yf2, yf3⟩ := cells4 T4.b3
  have U4 : Hid (TkS w w.heap.size (((w4.setCell ⟨w.heap.size, 0, none⟩ (.slice a4 n4 c4)).setCell ⟨w.heap.size, 1, none⟩ (.int .i64 (k4 : Nat))).setCell ⟨w.heap.size + 1 + 1 + 1, 3, none⟩ (.slice a5 n5 c5)) a4 n4 c4 l4 k4 (.int .i64 v1) (.int .i64 v2) (.int .i64 v3) (.slice a5 n5 c5)) := T4.store (by simp) (by simp) (by simp) (by simp) i4 hn4 3 (.slice a5 n5 c5) (.int .i64 v1) (.int .i64 v2) (.int .i64 v3) (.slice a5 n5 c5) rfl
  have V4 : Hid (IsB (((w4.setCell ⟨w.heap.size, 0, none⟩ (.slice a4 n4 c4)).setCell ⟨w.heap.size, 1, none⟩ (.int .i64 (k4 : Nat))).setCell ⟨w.heap.size + 1 + 1 + 1, 3, none⟩ (.slice a5 n5 c5)) (.slice a5 n5 c5) d) := T4.bytes (by simp) (by simp) (by simp) (by simp) (Fr.setCell (X := fun j => j = w.heap.size ∨ j = w.heap.size + 1 ∨ j = w.heap.size + 1 + 1 ∨ j = w.heap.size + 1 + 1 + 1) (put2_fr _ w4 w.heap.size (.inl rfl) a4 n4 c4 k4) (fun _ => .inr (.inr (.inr rfl))) _) i5
  clear U3 T4 H4 i4 i5 b4 hn4
  go_wp2_with fail
  generalize (((w4.setCell ⟨w.heap.size, 0, none⟩ (.slice a4 n4 c4)).setCell ⟨w.heap.size, 1, none⟩ (.int .i64 (k4 : Nat))).setCell ⟨w.heap.size + 1 + 1 + 1, 3, none⟩ (.slice a5 n5 c5)) = W4 at *
  clear x0 x1 xf0 xf1 y0 y1 y2 y3 yf0 yf1 yf2 yf3
  obtain ⟨x0, x1, xf0, xf1⟩ := cells2 U4.out.b0
  obtain ⟨z0, z1, zf0, zf1⟩ := cells2 U4.out.b1
  obtain ⟨t0, t1, t2, t3, tf0, tf1, tf2, tf3⟩ := cells4 U4.out.b2
  obtain ⟨y0, y1, y2, y3, yf0, yf1, yf2, yf3⟩ := cells4 U4.out.b3
  go_region
  go_wp2
  obtain ⟨W5, hW5⟩ : ∃ W, W = (set4 (put2 W4 (w.heap.size + 1) a4 n4 c4 k4) (w.heap.size + 1 + 1) (.int .i64 v1) (.int .i64 v2) (.int .i64 v3) (.slice a5 n5 c5)).drew := ⟨_, rfl⟩
  have f5 : Fr (fun j => j = w.heap.size ∨ j = w.heap.size + 1 ∨ j = w.heap.size + 1 + 1 ∨ j = w.heap.size + 1 + 1 + 1) W4 W5 := by
    rw [hW5]
    exact ((put2_fr _ W4 (w.heap.size + 1) (.inr (.inl rfl)) a4 n4 c4 k4).trans ((set4_fr _ _ _ _ _ _).mono (fun k _ h => .inr (.inr (.inl h))))).drew
  have I5 := Lib.hid (U4.out.bytes (by simp) (by simp) (by simp) (by simp) f5 U4.out.is)
  have D5 := Lib.hid (U4.out.bytes (by simp) (by simp) (by simp) (by simp) f5 V4.out)
  have B5 : Hid (Below w.heap.size w W5) := U4.out.be.trans ⟨f5.os, f5.tape, f5.output, f5.size, fun q hq => f5.block q (by have := (Array.getElem?_eq_some_iff.1 U4.out.b0).1; omega) (by omega)⟩
  have e1 : (put2 W4 (w.heap.size + 1) a4 n4 c4 k4).heap[w.heap.size + 1]? = some (.cells #[.slice a4 n4 c4, .int .i64 (k4 : Nat)] 63) := stored2 U4.out.b1 _ _
  have e2 : (put2 W4 (w.heap.size + 1) a4 n4 c4 k4).heap[w.heap.size + 1 + 1]? = some (.cells #[.int .i64 0, .int .i64 0, .int .i64 0, .slice none 0 0] 71) := (stored2_other _ _ (by omega)).trans U4.out.b2
  have e3' : (set4 (put2 W4 (w.heap.size + 1) a4 n4 c4 k4) (w.heap.size + 1 + 1) (.int .i64 v1) (.int .i64 v2) (.int .i64 v3) (.slice a5 n5 c5)).heap[w.heap.size + 1]? = some (.cells #[.slice a4 n4 c4, .int .i64 (k4 : Nat)] 63) :=
    ((set4_fr (put2 W4 (w.heap.size + 1) a4 n4 c4 k4) (w.heap.size + 1 + 1) (.int .i64 v1) (.int .i64 v2) (.int .i64 v3) (.slice a5 n5 c5)).block (w.heap.size + 1) (Array.getElem?_eq_some_iff.1 e1).1 (by omega)).trans e1
  have e4' : (set4 (put2 W4 (w.heap.size + 1) a4 n4 c4 k4) (w.heap.size + 1 + 1) (.int .i64 v1) (.int .i64 v2) (.int .i64 v3) (.slice a5 n5 c5)).heap[w.heap.size + 1 + 1]? = some (.cells #[.int .i64 v1, .int .i64 v2, .int .i64 v3, .slice a5 n5 c5] 71) := stored4 e2 _ _ _ _
  have e3 : W5.heap[w.heap.size + 1]? = some (.cells #[.slice a4 n4 c4, .int .i64 (k4 : Nat)] 63) := by rw [hW5, heap_drew]; exact e3'
  have e4 : W5.heap[w.heap.size + 1 + 1]? = some (.cells #[.int .i64 v1, .int .i64 v2, .int .i64 v3, .slice a5 n5 c5] 71) := by rw [hW5, heap_drew]; exact e4'
  obtain ⟨p0, p1, _, _⟩ := cells2 e3
  obtain ⟨r0, r1, r2, r3, _⟩ := cells4 e4
  have Hn := Lib.hid U4.out.hn
  clear x0 x1 xf0 xf1 y0 y1 y2 y3 yf0 yf1 yf2 yf3 z0 z1 zf0 zf1 t0 t1 t2 t3 tf0 tf1 tf2 tf3 U4 V4 f5 e1 e2 e3 e4 e3' e4'
  have hW6 : ((((((W4.setCell ⟨w.heap.size + 1, 0, none⟩ (.slice a4 n4 c4)).setCell ⟨w.heap.size + 1, 1, none⟩ (.int .i64 (k4 : Nat))).setCell ⟨w.heap.size + 1 + 1, 0, none⟩ (.int .i64 v1)).setCell ⟨w.heap.size + 1 + 1, 1, none⟩ (.int .i64 v2)).setCell ⟨w.heap.size + 1 + 1, 2, none⟩ (.int .i64 v3)).setCell ⟨w.heap.size + 1 + 1, 3, none⟩ (.slice a5 n5 c5)).drew = W5 := hW5.symm
  rw [hW6]
  clear hW6 hW5
  refine bodyPost_ret (v := .tuple #[.agg #[.slice a4 n4 c4, .int .i64 (k4 : Nat)], .agg #[.int .i64 v1, .int .i64 v2, .int .i64 v3, .slice a5 n5 c5]]) (by simp [results, Tryz.results67, go_sem, p0, p1, r0, r1, r2, r3]) rfl ?_
  have hn := Hn.out
  subst hn
  exact ⟨⟨a4, c4, a5, n5, c5, rfl, I5.out, D5.out⟩, B5.out⟩

end Go.Proofs.YtbgockggbpmhnaaGreatDoor
