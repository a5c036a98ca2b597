/-
  The plain law of answers, replies and sessions: what is read off bytes, what is laid.
  Conditions: none but those that the theorems' lines name.
  Slices of sessions that are read, or that the call owns; the append of one.
  The plain law of the document's reading of a table: what has been read when it stops.
-/
import Derived.Test.YtkanjdijmdjbaaaGreatDoorDecQ
import Derived.Lib.ItoaLen
import Derived.Test.YtkanjdijmdjbaaaGreatDoorTakeS
namespace Go.Proofs.YtkanjdijmdjbaaaGreatDoor.QT

/-- An answer: an error's number, what is used, the total. -/
structure An where
  er : Int
  u1 : Nat
  u2 : Nat
  t1 : Nat
  t2 : Nat
/-- A reply. -/
structure Rp where
  er : Int
  se : Int
  an : An
/-- A session: its number, what it asked for last, the reply. -/
structure Sn where
  n : Nat
  sq : Nat
  rp : Rp
def an0 : An := ⟨0, 0, 0, 0, 0⟩
def rp0 : Rp := ⟨0, 0, an0⟩
def readAn (l : List UInt8) : An × List UInt8 × Nat :=
  let a := PK.intP l 0
  let b := PK.uintP cap a.2.1 a.2.2
  let c := PK.uintP cap b.2.1 b.2.2
  let d := PK.uintP cap c.2.1 c.2.2
  let e := PK.uintP cap d.2.1 d.2.2
  (⟨a.1, b.1, c.1, d.1, e.1⟩, e.2.1, e.2.2)
/-- The answer of bytes. -/
def decAn (l : List UInt8) : Option An := if (readAn l).2.2 = 0 ∧ (readAn l).2.1 = [] then some (readAn l).1 else none
def readRp (l : List UInt8) : (Int × Int × Option An) × List UInt8 × Nat :=
  let a := PK.intP l 0
  let b := PK.intP a.2.1 a.2.2
  let c := PK.runP 98 128 b.2.1 b.2.2
  ((a.1, b.1, decAn c.1), c.2.1, c.2.2)
/-- The reply of bytes. -/
def decRp (l : List UInt8) : Option Rp := match (readRp l).1.2.2 with
  | some x => if (readRp l).2.2 = 0 ∧ (readRp l).2.1 = [] then some ⟨(readRp l).1.1, (readRp l).1.2.1, x⟩ else none
  | none => none
/-- What is read of a session: its number, the last one's, the reply if it is one. -/
abbrev Rw := Nat × Nat × Option Rp
def readSn (l : List UInt8) (k : Nat) : Rw × List UInt8 × Nat :=
  let a := PK.uintP cap l k
  let b := PK.uintP cap a.2.1 a.2.2
  let c := PK.runP 98 256 b.2.1 b.2.2
  ((a.1, b.1, decRp c.1), c.2.1, c.2.2)
def snOf (x : Rw) : Sn := ⟨x.1, x.2.1, x.2.2.getD rp0⟩
/-- One more session: is all right so far; the last number. -/
def stepS (s : Bool × Nat) (x : Rw) : Bool × Nat := (s.1 && x.2.2.isSome && decide (s.2 < x.1), x.1)
def okS (b : Bool) (L : List Rw) : Bool × Nat := L.foldl stepS (b, 0)
theorem okS_snoc (b : Bool) (L : List Rw) (x : Rw) : okS b (L ++ [x]) = stepS (okS b L) x := by
  unfold okS
  rw [List.foldl_append]
  rfl
theorem okS_rises (b : Bool) : ∀ (L : List Rw) (k : Nat), (L.foldl stepS (b, k)).1 = true → b = true ∧ (∀ x ∈ L, x.2.2.isSome = true ∧ k < x.1) ∧ L.Pairwise (fun x y => x.1 < y.1)
  | [], k, h => ⟨h, (fun x hx => by cases hx), List.Pairwise.nil⟩
  | y :: r, k, h => by
    rw [List.foldl_cons] at h
    have h' : (r.foldl stepS (b && y.2.2.isSome && decide (k < y.1), y.1)).1 = true := h
    obtain ⟨h1, h2, h3⟩ := okS_rises _ r y.1 h'
    simp only [Bool.and_eq_true, decide_eq_true_eq] at h1
    refine ⟨h1.1.1, fun x hx => ?_, List.pairwise_cons.2 ⟨fun x hx => (h2 x hx).2, h3⟩⟩
    rcases List.mem_cons.1 hx with rfl | hx
    · exact ⟨h1.1.2, h1.2⟩
    · exact ⟨(h2 x hx).1, Nat.lt_trans h1.2 (h2 x hx).2⟩
def takeTab (l : List UInt8) : List UInt8 × List Rw × List UInt8 × Nat :=
  let a := PK.runP 98 1048576 l 0
  let b := PK.countP 64 a.2.1 a.2.2
  let c := readL readSn b.1 b.2.1 b.2.2
  (a.1, c.1, c.2.1, c.2.2)
/-- The table of bytes. -/
def decTab (l : List UInt8) : Option (List Nd × List Us × List Sn) := match decT (takeTab l).1 with
  | some (N, U) => if (takeTab l).2.2.2 = 0 ∧ (takeTab l).2.2.1 = [] ∧ (okS true (takeTab l).2.1).1 = true then some (N, U, (takeTab l).2.1.map snOf) else none
  | none => none
def iB (n : Int) : List UInt8 := 105 :: Lib.itoa n ++ [59]
def bB (d : List UInt8) : List UInt8 := 98 :: Lib.decDigits d.length ++ [58] ++ d
def encAn (x : An) : List UInt8 := iB x.er ++ PK.uB x.u1 ++ PK.uB x.u2 ++ PK.uB x.t1 ++ PK.uB x.t2
def encRp (x : Rp) : List UInt8 := iB x.er ++ iB x.se ++ bB (encAn x.an)
def encSn (x : Sn) : List UInt8 := PK.uB x.n ++ PK.uB x.sq ++ bB (encRp x.rp)
def encTab (N : List Nd) (U : List Us) (L : List Sn) : List UInt8 := bB (encT N U) ++ PK.uB L.length ++ encL encSn L
def fineI (n : Int) : Prop := -9223372036854775808 ≤ n ∧ n ≤ 9223372036854775807
def fineAn (x : An) : Prop := fineI x.er ∧ x.u1 ≤ cap ∧ x.u2 ≤ cap ∧ x.t1 ≤ cap ∧ x.t2 ≤ cap
def fineRp (x : Rp) : Prop := fineI x.er ∧ fineI x.se ∧ fineAn x.an
def fineSn (x : Sn) : Prop := x.n ≤ cap ∧ x.sq ≤ cap ∧ fineRp x.rp
theorem int_fine (l : List UInt8) (k : Nat) : fineI (PK.intP l k).1 := by
  unfold PK.intP fineI
  split
  · simp
  · split
    · split
      · simp
      · split
        · simp
        · simp only; omega
    · split
      · simp
      · simp only; omega
theorem an0_fine : fineAn an0 := by unfold fineAn fineI an0 cap; decide
theorem rp0_fine : fineRp rp0 := ⟨by unfold fineI rp0; decide, by unfold fineI rp0; decide, an0_fine⟩
theorem readAn_at {l l1 l2 l3 l4 l5 : List UInt8} {k1 k2 k3 k4 k5 b c d e : Nat} {a : Int} (h1 : PK.intP l 0 = (a, l1, k1)) (h2 : PK.uintP cap l1 k1 = (b, l2, k2)) (h3 : PK.uintP cap l2 k2 = (c, l3, k3)) (h4 : PK.uintP cap l3 k3 = (d, l4, k4)) (h5 : PK.uintP cap l4 k4 = (e, l5, k5)) :
    readAn l = (⟨a, b, c, d, e⟩, l5, k5) := by simp only [readAn, h1, h2, h3, h4, h5]
theorem readRp_at {l l1 l2 l3 y : List UInt8} {k1 k2 k3 : Nat} {a b : Int} (h1 : PK.intP l 0 = (a, l1, k1)) (h2 : PK.intP l1 k1 = (b, l2, k2)) (h3 : PK.runP 98 128 l2 k2 = (y, l3, k3)) : readRp l = ((a, b, decAn y), l3, k3) := by
  simp only [readRp, h1, h2, h3]
theorem readSn_at {l l1 l2 l3 y : List UInt8} {k k1 k2 k3 a b : Nat} (h1 : PK.uintP cap l k = (a, l1, k1)) (h2 : PK.uintP cap l1 k1 = (b, l2, k2)) (h3 : PK.runP 98 256 l2 k2 = (y, l3, k3)) : readSn l k = ((a, b, decRp y), l3, k3) := by
  simp only [readSn, h1, h2, h3]
theorem uint_of {l l1 : List UInt8} {k k1 a : Nat} (h : PK.uintP cap l k = (a, l1, k1)) : a ≤ cap := by have := uint_cap cap l k; rw [h] at this; exact this
theorem int_of {l l1 : List UInt8} {k k1 : Nat} {a : Int} (h : PK.intP l k = (a, l1, k1)) : fineI a := by have := int_fine l k; rw [h] at this; exact this
theorem readAn_fine (l : List UInt8) : fineAn (readAn l).1 := by
  obtain ⟨a, l1, k1, h1⟩ : ∃ v l' k', PK.intP l 0 = (v, l', k') := ⟨_, _, _, rfl⟩
  obtain ⟨b, l2, k2, h2⟩ : ∃ v l' k', PK.uintP cap l1 k1 = (v, l', k') := ⟨_, _, _, rfl⟩
  obtain ⟨c, l3, k3, h3⟩ : ∃ v l' k', PK.uintP cap l2 k2 = (v, l', k') := ⟨_, _, _, rfl⟩
  obtain ⟨d, l4, k4, h4⟩ : ∃ v l' k', PK.uintP cap l3 k3 = (v, l', k') := ⟨_, _, _, rfl⟩
  obtain ⟨e, l5, k5, h5⟩ : ∃ v l' k', PK.uintP cap l4 k4 = (v, l', k') := ⟨_, _, _, rfl⟩
  rw [readAn_at h1 h2 h3 h4 h5]
  exact ⟨int_of h1, uint_of h2, uint_of h3, uint_of h4, uint_of h5⟩
theorem decAn_fine {l : List UInt8} {x : An} (h : decAn l = some x) : fineAn x := by
  unfold decAn at h
  split at h
  · rw [← Option.some.inj h]; exact readAn_fine l
  · cases h
theorem decRp_fine {l : List UInt8} {x : Rp} (h : decRp l = some x) : fineRp x := by
  obtain ⟨a, l1, k1, h1⟩ : ∃ v l' k', PK.intP l 0 = (v, l', k') := ⟨_, _, _, rfl⟩
  obtain ⟨b, l2, k2, h2⟩ : ∃ v l' k', PK.intP l1 k1 = (v, l', k') := ⟨_, _, _, rfl⟩
  obtain ⟨c, l3, k3, h3⟩ : ∃ v l' k', PK.runP 98 128 l2 k2 = (v, l', k') := ⟨_, _, _, rfl⟩
  unfold decRp at h
  rw [readRp_at h1 h2 h3] at h
  simp only at h
  cases hy : decAn c with
  | none => rw [hy] at h; cases h
  | some y =>
    rw [hy] at h
    simp only at h
    split at h
    · rw [← Option.some.inj h]
      exact ⟨int_of h1, int_of h2, decAn_fine hy⟩
    · cases h
theorem readSn_fine (l : List UInt8) (k : Nat) : fineSn (snOf (readSn l k).1) := by
  obtain ⟨a, l1, k1, h1⟩ : ∃ v l' k', PK.uintP cap l k = (v, l', k') := ⟨_, _, _, rfl⟩
  obtain ⟨b, l2, k2, h2⟩ : ∃ v l' k', PK.uintP cap l1 k1 = (v, l', k') := ⟨_, _, _, rfl⟩
  obtain ⟨c, l3, k3, h3⟩ : ∃ v l' k', PK.runP 98 256 l2 k2 = (v, l', k') := ⟨_, _, _, rfl⟩
  rw [readSn_at h1 h2 h3]
  have hg : fineRp ((decRp c).getD rp0) := by
    cases h : decRp c with
    | none => exact rp0_fine
    | some x => exact decRp_fine h
  generalize decRp c = r at hg ⊢
  have g1 := uint_of h1
  have g2 := uint_of h2
  clear h1 h2 h3
  exact ⟨g1, g2, hg⟩
theorem iB_len {n : Int} (h : fineI n) : (iB n).length ≤ 30 := by
  have := Lib.itoa_length_le n h.1 h.2
  unfold iB
  simp only [List.length_append, List.length_cons, List.length_nil]
  omega
end Go.Proofs.YtkanjdijmdjbaaaGreatDoor.QT

namespace Go.Proofs.YtkanjdijmdjbaaaGreatDoor
open Go Go.RowKit

def valsSn (x : QT.Sn) : List Value := [.int .i64 (x.n : Nat), .int .i64 (x.sq : Nat), .int .i64 x.rp.er, .int .i64 x.rp.se, .int .i64 x.rp.an.er, .complex .f64 (FL.fB x.rp.an.u1) (FL.fB x.rp.an.u2), .complex .f64 (FL.fB x.rp.an.t1) (FL.fB x.rp.an.t2)]
def evsSn : List QT.Sn → List Value
  | [] => []
  | x :: r => valsSn x ++ evsSn r
theorem evsSn_append (a b : List QT.Sn) : evsSn (a ++ b) = evsSn a ++ evsSn b := by
  induction a with
  | nil => rfl
  | cons x r ih => simp [evsSn, ih]
theorem evsSn_length (a : List QT.Sn) : (evsSn a).length = a.length * 7 := by
  induction a with
  | nil => rfl
  | cons x r ih => simp [evsSn, ih, valsSn]; omega
theorem evsSn_get : ∀ (a : List QT.Sn) (i j : Nat) (x : QT.Sn), a[i]? = some x → j < 7 → (evsSn a)[i * 7 + j]? = (valsSn x)[j]?
  | [], i, j, x, h, _ => by simp at h
  | y :: r, 0, j, x, h, hj => by
    simp at h
    subst h
    rw [evsSn, Nat.zero_mul, Nat.zero_add, List.getElem?_append_left (by simpa [valsSn] using hj)]
  | y :: r, i + 1, j, x, h, hj => by
    rw [evsSn, List.getElem?_append_right (by simp [valsSn]; omega)]
    rw [show (i + 1) * 7 + j - (valsSn y).length = i * 7 + j from by simp [valsSn]; omega]
    exact evsSn_get r i j x (by simpa using h) hj
theorem evsSn_one (a : List QT.Sn) : ∀ u ∈ evsSn a, u.oneCell' = true := by
  induction a with
  | nil => intro u hu; simp [evsSn] at hu
  | cons x r ih =>
    intro u hu
    simp only [evsSn, List.mem_append] at hu
    rcases hu with hu | hu
    · simp only [valsSn, List.mem_cons, List.not_mem_nil, or_false] at hu
      rcases hu with rfl | rfl | rfl | rfl | rfl | rfl | rfl <;> rfl
    · exact ih u hu
theorem evsSn_no8 (a : List QT.Sn) : ∀ u ∈ evsSn a, ∀ n, u ≠ .int .u8 n := by
  induction a with
  | nil => intro u hu; simp [evsSn] at hu
  | cons x r ih =>
    intro u hu n
    simp only [evsSn, List.mem_append] at hu
    rcases hu with hu | hu
    · simp only [valsSn, List.mem_cons, List.not_mem_nil, or_false] at hu
      rcases hu with rfl | rfl | rfl | rfl | rfl | rfl | rfl <;> simp
    · exact ih u hu n
/-- A SLICE OF THEM OF THE CALL's OWN, whose room is there; no cell of its block is a byte. -/
def OwnSn (w : World) (v : Value) (xs : List QT.Sn) : Prop :=
  (v = .slice none 0 0 ∧ xs = []) ∨
  ∃ g cap, v = .slice (some ⟨g, 0, none⟩) xs.length cap ∧ xs.length ≤ cap ∧ cap ≤ maxLen ∧ g < w.heap.size ∧ (∀ q, q < xs.length * 7 → w.cell? ⟨g, q, none⟩ = (evsSn xs)[q]?) ∧
    (∀ j, j < cap * 7 → (w.cell? ⟨g, j, none⟩).isSome = true ∧ w.frozen? ⟨g, j, none⟩ = false) ∧ (∀ j n, w.cell? ⟨g, j, none⟩ ≠ some (.int .u8 n))
theorem OwnSn.nil (w : World) : OwnSn w (.slice none 0 0) [] := .inl ⟨rfl, rfl⟩
theorem OwnSn.lt {w : World} {v : Value} {xs : List QT.Sn} (h : OwnSn w v xs) : ∀ b, v.ownBlock = some b → b < w.heap.size := by
  rcases h with ⟨rfl, rfl⟩ | ⟨g, cap, rfl, _, _, hg, _⟩
  · intro b hb; simp [Value.ownBlock] at hb
  · intro b hb; simp [Value.ownBlock] at hb; omega
theorem OwnSn.kept {X : Nat → Prop} {w w' : World} {v : Value} {xs : List QT.Sn} (h : OwnSn w v xs) (f : Fr X w w') (hv : ∀ b, v.ownBlock = some b → ¬ X b) : OwnSn w' v xs := by
  rcases h with ⟨rfl, rfl⟩ | ⟨g, cap, rfl, h1, h2, hg, h3, h4, h5⟩
  · exact .inl ⟨rfl, rfl⟩
  · have hX : ¬ X g := hv g rfl
    have hk := f.block g hg hX
    refine .inr ⟨g, cap, rfl, h1, h2, f.lt hg, fun q hq => (World.cell?_of_block hk).trans (h3 q hq), fun j hj => ⟨?_, (f.frozen (p := ⟨g, j, none⟩) hg hX).trans (h4 j hj).2⟩, fun j n => ?_⟩
    · rw [World.cell?_of_block (a := ⟨g, j, none⟩) hk]; exact (h4 j hj).1
    · rw [World.cell?_of_block (a := ⟨g, j, none⟩) hk]; exact h5 j n
theorem OwnSn.below {w w' : World} {v : Value} {xs : List QT.Sn} (h : OwnSn w v xs) (f : Below w.heap.size w w') : OwnSn w' v xs := h.kept (X := fun _ => False) (Fr.of_below f) (fun _ _ x => x)

/-- THE TYPES' ROWS: t is a slice of e, e is an entry of four cells. -/
structure SnT (P : Program) (t e : TypeId) : Prop where
  sl : P.underlying t = some (.slice e)
  info : (P.info? e).map (fun i => (i.zero, i.size, i.bytes)) = some (some (.agg #[.int .i64 0, .int .i64 0, .int .i64 0, .int .i64 0, .int .i64 0, .complex .f64 0 0, .complex .f64 0 0]), 7, 72)
theorem zero_no8Sn (k j : Nat) (u : Value) (h : (Builtin.zeroCells (Value.agg #[.int .i64 0, .int .i64 0, .int .i64 0, .int .i64 0, .int .i64 0, .complex .f64 0 0, .complex .f64 0 0]).cells k)[j]? = some u) : ∀ n, u ≠ .int .u8 n := by
  intro n
  have hc : (Value.agg #[.int .i64 0, .int .i64 0, .int .i64 0, .int .i64 0, .int .i64 0, .complex .f64 0 0, .complex .f64 0 0]).cells = #[.int .i64 0, .int .i64 0, .int .i64 0, .int .i64 0, .int .i64 0, .complex .f64 0 0, .complex .f64 0 0] := by simp [Value.cells]
  rw [hc] at h
  unfold Builtin.zeroCells at h
  simp only [Array.getElem?_map, Option.map_eq_some_iff] at h
  obtain ⟨q, _, rfl⟩ := h
  have h4 : q % 7 = 0 ∨ q % 7 = 1 ∨ q % 7 = 2 ∨ q % 7 = 3 ∨ q % 7 = 4 ∨ q % 7 = 5 ∨ q % 7 = 6 := by omega
  have hs : (#[.int .i64 0, .int .i64 0, .int .i64 0, .int .i64 0, .int .i64 0, .complex .f64 0 0, .complex .f64 0 0] : Array Value).size = 7 := rfl
  rw [hs]
  rcases h4 with e | e | e | e | e | e | e <;> rw [e] <;> simp
/-- APPEND OF ONE ENTRY ONTO A SLICE OF THE CALL's OWN. -/
theorem run_appSn {P : Program} {t e ty : TypeId} (T : SnT P t e) {w : World} {v : Value} {xs : List QT.Sn} {x : QT.Sn} {g0 : Nat} (hv : OwnSn w v xs)
    (hx : ∀ j u, (valsSn x)[j]? = some u → w.cell? ⟨g0, j, none⟩ = some u) (hroom : xs.length + 1 ≤ 1099511627776) :
    ∃ a c w', (Builtin.append_ #[t, t] ty #[v, .slice (some ⟨g0, 0, none⟩) 1 1]).run P w = .ok (.slice a (xs.length + 1) c) w' ∧ OwnSn w' (.slice a (xs.length + 1) c) (xs ++ [x]) ∧
      Fr (fun k => v.ownBlock = some k) w w' ∧ (Value.ownBlock (.slice a (xs.length + 1) c) = v.ownBlock ∨ ∃ g, a = some ⟨g, 0, none⟩ ∧ w.heap.size ≤ g) := by
  obtain ⟨i, hi, hz, hs, hb⟩ : ∃ i, P.info? e = some i ∧ i.zero = some (.agg #[.int .i64 0, .int .i64 0, .int .i64 0, .int .i64 0, .int .i64 0, .complex .f64 0 0, .complex .f64 0 0]) ∧ i.size = 7 ∧ i.bytes = 72 := by
    have := T.info
    cases h : P.info? e with
    | none => simp [h] at this
    | some i => simp [h] at this; exact ⟨i, rfl, this.1, this.2.1, this.2.2⟩
  have hadd : ∀ g j : Nat, (⟨g, 0, none⟩ : Addr).add j = ⟨g, j, none⟩ := fun g j => by unfold Addr.add; split <;> simp_all
  have hone : ∀ u ∈ (valsSn x), u.oneCell' = true := fun u hu => evsSn_one [x] u (by simpa [evsSn] using hu)
  have hno8 : ∀ u ∈ (valsSn x), ∀ n, u ≠ .int .u8 n := fun u hu => evsSn_no8 [x] u (by simpa [evsSn] using hu)
  have hsrc : Src P i.size t (.slice (some ⟨g0, 0, none⟩) 1 1) 1 (valsSn x) w := by
    rw [hs]
    exact Src.ofSlice w T.sl _ 1 1 (valsSn x) (by simp [valsSn]) (fun j u hu => by rw [hadd]; exact hx j u hu) hone
  have hlenx : (xs ++ [x]).length = xs.length + 1 := by simp
  have hevx : evsSn (xs ++ [x]) = evsSn xs ++ (valsSn x) := by rw [evsSn_append]; simp [evsSn]
  have grow : ∀ (bs : Option Addr) (sc : Nat), v = .slice bs xs.length sc → sc < xs.length + 1 → (Builtin.firstCells i.size xs.length (.slice bs xs.length sc)).run P w.drew = .ok (evsSn xs).toArray w.drew →
      ∃ a c w', (Builtin.append_ #[t, t] ty #[v, .slice (some ⟨g0, 0, none⟩) 1 1]).run P w = .ok (.slice a (xs.length + 1) c) w' ∧ OwnSn w' (.slice a (xs.length + 1) c) (xs ++ [x]) ∧
        Fr (fun k => v.ownBlock = some k) w w' ∧ (Value.ownBlock (.slice a (xs.length + 1) c) = v.ownBlock ∨ ∃ g, a = some ⟨g, 0, none⟩ ∧ w.heap.size ≤ g) := by
    rintro bs sc rfl hg hold
    have hrun := run_append_grow_src (P := P) w t t ty e i _ T.sl hi hz bs xs.length sc (evsSn xs) hold _ 1 (valsSn x) hsrc hg (by omega) (growslice_fits hg (by rw [hb]; omega))
    have hge := grownCap_ge w (xs.length + 1) sc e
    have hcm := grownCap_le_maxLen w (xs.length + 1) sc e (by simp only [maxLen]; omega)
    have hlen : (evsSn xs ++ (valsSn x)).length = (xs.length + 1) * 7 := by rw [List.length_append, evsSn_length]; simp [valsSn]; omega
    have hcell : ∀ j, (w.drew.alloc (.cells ((evsSn xs ++ (valsSn x)).toArray ++ Builtin.zeroCells (Value.agg #[.int .i64 0, .int .i64 0, .int .i64 0, .int .i64 0, .int .i64 0, .complex .f64 0 0, .complex .f64 0 0]).cells (grownCap w (xs.length + 1) sc e - (xs.length + 1))) e)).cell? ⟨w.heap.size, j, none⟩ = ((evsSn xs ++ (valsSn x)).toArray ++ Builtin.zeroCells (Value.agg #[.int .i64 0, .int .i64 0, .int .i64 0, .int .i64 0, .int .i64 0, .complex .f64 0 0, .complex .f64 0 0]).cells (grownCap w (xs.length + 1) sc e - (xs.length + 1)))[j]? := fun j => World.cell?_alloc_new w.drew _ e j
    have hB : Fr (fun k => Value.ownBlock (.slice bs xs.length sc) = some k) w (w.drew.alloc (.cells ((evsSn xs ++ (valsSn x)).toArray ++ Builtin.zeroCells (Value.agg #[.int .i64 0, .int .i64 0, .int .i64 0, .int .i64 0, .int .i64 0, .complex .f64 0 0, .complex .f64 0 0]).cells (grownCap w (xs.length + 1) sc e - (xs.length + 1))) e)) := ((Fr.refl _ w).drew).alloc _
    refine ⟨_, _, _, hrun, .inr ⟨w.heap.size, _, by rw [hlenx], by rw [hlenx]; exact hge, hcm, by simp, fun q hq => ?_, fun j hj => ⟨?_, ?_⟩, fun j n => ?_⟩, hB, .inr ⟨_, rfl, Nat.le_refl _⟩⟩
    · rw [hlenx] at hq
      rw [hcell, hevx, Array.getElem?_append_left (by simp only [List.size_toArray]; omega), List.getElem?_toArray]
    · rw [hcell]
      have hsz : ((evsSn xs ++ (valsSn x)).toArray ++ Builtin.zeroCells (Value.agg #[.int .i64 0, .int .i64 0, .int .i64 0, .int .i64 0, .int .i64 0, .complex .f64 0 0, .complex .f64 0 0]).cells (grownCap w (xs.length + 1) sc e - (xs.length + 1))).size = grownCap w (xs.length + 1) sc e * 7 := by
        rw [Array.size_append, size_zeroCells, List.size_toArray, hlen]
        have : (Value.agg #[.int .i64 0, .int .i64 0, .int .i64 0, .int .i64 0, .int .i64 0, .complex .f64 0 0, .complex .f64 0 0]).cells.size = 7 := by simp [Value.cells]
        rw [this]; omega
      rw [Array.getElem?_eq_getElem (by rw [hsz]; exact hj)]
      rfl
    · exact World.frozen?_alloc_new w.drew _ _ j
    · rw [hcell]
      intro h
      rw [Array.getElem?_append] at h
      split at h
      · rw [List.getElem?_toArray] at h
        have hm := List.mem_of_getElem? h
        rw [List.mem_append] at hm
        rcases hm with hm | hm
        · exact evsSn_no8 xs _ hm n rfl
        · exact hno8 _ hm n rfl
      · exact zero_no8Sn _ _ _ h n rfl
  rcases hv with ⟨rfl, rfl⟩ | ⟨g, cap, rfl, h1, h2, hg, h3, h4, h5⟩
  · exact grow none 0 rfl (by simp) (run_firstCells_none w.drew i.size 0 0 0)
  · by_cases hfit : xs.length + 1 ≤ cap
    · have hrun := run_append_room_src (P := P) w t t ty e i T.sl hi g 0 xs.length cap _ 1 (valsSn x) hsrc hfit
        (fun j hj => by rw [hs, Nat.zero_add]; exact (h4 (xs.length * 7 + j) (by simp [valsSn] at hj; omega)).1)
        (fun j hj => by rw [hs, Nat.zero_add]; exact (h4 (xs.length * 7 + j) (by simp [valsSn] at hj; omega)).2)
      rw [hs, Nat.zero_add] at hrun
      have hvl : (valsSn x).length = 7 := rfl
      have hthere : ∀ j, j < (valsSn x).length → (w.cell? ⟨g, xs.length * 7 + j, none⟩).isSome = true := fun j hj => (h4 (xs.length * 7 + j) (by omega)).1
      have hkb := World.keptBut_setCells g (may := fun p => p.block = g) (valsSn x) (xs.length * 7) w (fun _ _ => rfl)
      have hout : ∀ (p : Addr), p.off < xs.length * 7 → (w.setCells g (xs.length * 7) (valsSn x)).cell? p = w.cell? p := fun p hp => World.cell?_setCells_out g _ _ w p (fun _ _ => .inl hp)
      have hout2 : ∀ (p : Addr), xs.length * 7 + 7 ≤ p.off → (w.setCells g (xs.length * 7) (valsSn x)).cell? p = w.cell? p := fun p hp => World.cell?_setCells_out g _ _ w p (fun _ _ => .inr (by rw [hvl]; exact hp))
      have hin : ∀ k, k < 7 → (w.setCells g (xs.length * 7) (valsSn x)).cell? ⟨g, xs.length * 7 + k, none⟩ = (valsSn x)[k]? := fun k hk => by
        rw [World.cell?_setCells_in g (valsSn x) (xs.length * 7) w hthere k (by rw [hvl]; exact hk), List.getElem?_eq_getElem]
      have hF : Fr (fun k => Value.ownBlock (.slice (some ⟨g, 0, none⟩) xs.length cap) = some k) w (w.setCells g (xs.length * 7) (valsSn x)) :=
        ⟨World.os_setCells .., run_app.setCells_tape _ _ _ _, World.output_setCells .., hkb.size, fun k hk hne => World.heap_setCells_other _ _ _ _ hk (fun e => hne (by rw [e]; rfl))⟩
      refine ⟨_, _, _, hrun, .inr ⟨g, cap, by rw [hlenx], by rw [hlenx]; exact hfit, h2, Nat.lt_of_lt_of_le hg hkb.size, fun q hq => ?_, fun j hj => ⟨?_, ?_⟩, fun j n => ?_⟩, hF, .inl rfl⟩
      · rw [hlenx] at hq
        rw [hevx]
        by_cases hlo : q < xs.length * 7
        · rw [hout _ hlo, h3 q hlo, List.getElem?_append_left (by rw [evsSn_length]; exact hlo)]
        · obtain ⟨k, rfl⟩ : ∃ k, q = xs.length * 7 + k := ⟨q - xs.length * 7, by omega⟩
          rw [hin k (by omega), List.getElem?_append_right (by rw [evsSn_length]; omega), evsSn_length]
          congr 1; omega
      · by_cases hlo : j < xs.length * 7
        · rw [hout _ hlo]; exact (h4 j hj).1
        · by_cases hhi : j < xs.length * 7 + 7
          · obtain ⟨k, rfl⟩ : ∃ k, j = xs.length * 7 + k := ⟨j - xs.length * 7, by omega⟩
            rw [hin k (by omega), List.getElem?_eq_getElem (by rw [hvl]; omega)]; rfl
          · rw [hout2 ⟨g, j, none⟩ (by show _ ≤ j; omega)]; exact (h4 j hj).1
      · rw [World.frozen?_setCells]; exact (h4 j hj).2
      · by_cases hlo : j < xs.length * 7
        · rw [hout _ hlo]; exact h5 j n
        · by_cases hhi : j < xs.length * 7 + 7
          · obtain ⟨k, rfl⟩ : ∃ k, j = xs.length * 7 + k := ⟨j - xs.length * 7, by omega⟩
            rw [hin k (by omega)]
            intro h
            exact hno8 _ (List.mem_of_getElem? h) n rfl
          · rw [hout2 ⟨g, j, none⟩ (by show _ ≤ j; omega)]; exact h5 j n
    · have hold : (Builtin.firstCells i.size xs.length (.slice (some ⟨g, 0, none⟩) xs.length cap)).run P w.drew = .ok (evsSn xs).toArray w.drew :=
        run_firstCells_some w.drew i.size xs.length ⟨g, 0, none⟩ xs.length cap (evsSn xs) (by rw [evsSn_length, hs]) (fun j u hu => by
          have hj : j < xs.length * 7 := by rw [← evsSn_length]; exact (List.getElem?_eq_some_iff.1 hu).1
          rw [hadd]
          exact (h3 j hj).trans hu)
      exact grow _ _ rfl (by omega) hold
/-- THE WALK's LAW AT AN APPEND OF ONE ENTRY. -/
theorem wpList_appSn {P : Program} {ops : Array Oper} {rest : List Oper} {o : Oper} {a : Act} {Q : Exit → Act → World → Prop} {w : World} (hgd : o.guard = none) (s x : Operand) {t e : TypeId}
    (ho : o.op = .call { callee := .builtin .append, args := #[s, x], argTypes := #[t, t] }) (T : SnT P t e) {v : Value} {xs : List QT.Sn} {y : QT.Sn} {g0 n : Nat} (hn : xs.length = n) (hs : a.eval s = v) (hv : OwnSn w v xs) (hx : a.eval x = .slice (some ⟨g0, 0, none⟩) 1 1)
    (hc : ∀ j u, (valsSn y)[j]? = some u → w.cell? ⟨g0, j, none⟩ = some u) (hroom : n + 1 ≤ 1099511627776)
    (h : ∀ a' c w', OwnSn w' (.slice a' (n + 1) c) (xs ++ [y]) → Fr (fun k => v.ownBlock = some k) w w' → (Value.ownBlock (.slice a' (n + 1) c) = v.ownBlock ∨ ∃ g, a' = some ⟨g, 0, none⟩ ∧ w.heap.size ≤ g) →
      wpList P ops Q rest (a.put o.dst (.slice a' (n + 1) c)) w') : wpList P ops Q (o :: rest) a w := by
  subst hn
  exact wpList_plain hgd fun _ hK => by
    obtain ⟨a', c, w', hr, h2, h3, h4⟩ := run_appSn (P := P) (ty := o.type) T hv hc hroom
    unfold Oper.wp execOp
    simp only [ho, resolve, invoke, builtin, Sem.run_bind, Sem.run_pure, Result.andThen_ok, List.map_toArray, List.map_cons, List.map_nil, hs, hx, hr]
    exact hK _ _ (h a' c w' h2 h3 h4)

/-- The slice value v reads as the sessions N. -/
def RdsSn (w : World) (v : Value) (N : List QT.Sn) : Prop :=
  ∃ a cap, v = .slice a N.length cap ∧ N.length ≤ cap ∧ cap ≤ maxLen ∧ (N = [] ∨ ∃ b o, a = some ⟨b, o, none⟩ ∧ ∀ i x, N[i]? = some x → ∀ j u, (valsSn x)[j]? = some u → w.cell? ⟨b, o + i * 7 + j, none⟩ = some u)
theorem RdsSn.below {w w' : World} {v : Value} {N : List QT.Sn} (h : RdsSn w v N) (f : Below w.heap.size w w') : RdsSn w' v N := by
  obtain ⟨a, cap, rfl, h1, h2, h3⟩ := h
  refine ⟨a, cap, rfl, h1, h2, ?_⟩
  rcases h3 with h3 | ⟨b, o, rfl, hc⟩
  · exact .inl h3
  · refine .inr ⟨b, o, rfl, fun i x hx j u hu => ?_⟩
    have c := hc i x hx j u hu
    exact (World.cell?_of_block (f.block b (World.block_lt_of_cell? _ _ c))).trans c
theorem RdsSn.at {w : World} {a : Option Addr} {n c : Nat} {N : List QT.Sn} (h : RdsSn w (.slice a n c) N) (i : Nat) (x : QT.Sn) (hx : N[i]? = some x) :
    ∃ b o, a = some ⟨b, o, none⟩ ∧ w.cell? ⟨b, o + i * 7, none⟩ = some (.int .i64 (x.n : Nat)) ∧ w.cell? ⟨b, o + i * 7 + 1, none⟩ = some (.int .i64 (x.sq : Nat)) ∧ w.cell? ⟨b, o + i * 7 + 2, none⟩ = some (.int .i64 x.rp.er) ∧ w.cell? ⟨b, o + i * 7 + 3, none⟩ = some (.int .i64 x.rp.se) ∧ w.cell? ⟨b, o + i * 7 + 4, none⟩ = some (.int .i64 x.rp.an.er) ∧ w.cell? ⟨b, o + i * 7 + 5, none⟩ = some (.complex .f64 (FL.fB x.rp.an.u1) (FL.fB x.rp.an.u2)) ∧ w.cell? ⟨b, o + i * 7 + 6, none⟩ = some (.complex .f64 (FL.fB x.rp.an.t1) (FL.fB x.rp.an.t2)) := by
  obtain ⟨a', cap, he, _, _, h3⟩ := h
  simp only [Value.slice.injEq] at he
  obtain ⟨rfl, _, rfl⟩ := he
  rcases h3 with rfl | ⟨b, o, rfl, hc⟩
  · simp at hx
  · exact ⟨b, o, rfl, hc i x hx 0 _ rfl, hc i x hx 1 _ rfl, hc i x hx 2 _ rfl, hc i x hx 3 _ rfl, hc i x hx 4 _ rfl, hc i x hx 5 _ rfl, hc i x hx 6 _ rfl⟩
theorem RdsSn.len {w : World} {a : Option Addr} {n c : Nat} {N : List QT.Sn} (h : RdsSn w (.slice a n c) N) : N.length = n ∧ n ≤ c ∧ c ≤ maxLen := by
  obtain ⟨a', cap, he, h1, h2, _⟩ := h
  simp only [Value.slice.injEq] at he
  obtain ⟨rfl, rfl, rfl⟩ := he
  exact ⟨rfl, h1, h2⟩

theorem OwnSn.no8 {w : World} {v : Value} {xs : List QT.Sn} (h : OwnSn w v xs) : ∀ b, v.ownBlock = some b → ∀ j n, w.cell? ⟨b, j, none⟩ ≠ some (.int .u8 n) := by
  rcases h with ⟨rfl, rfl⟩ | ⟨g, cap, rfl, _, _, _, _, _, h5⟩
  · intro b hb; simp [Value.ownBlock] at hb
  · intro b hb; simp [Value.ownBlock] at hb; subst hb; exact h5
theorem OwnSn.rds {w : World} {v : Value} {xs : List QT.Sn} (h : OwnSn w v xs) : RdsSn w v xs := by
  rcases h with ⟨rfl, rfl⟩ | ⟨g, cap, rfl, h1, h2, _, h3, _, _⟩
  · exact ⟨none, 0, rfl, Nat.le_refl _, Nat.zero_le _, .inl rfl⟩
  · refine ⟨_, cap, rfl, h1, h2, .inr ⟨g, 0, rfl, fun i x hx j u hu => ?_⟩⟩
    have hi := (List.getElem?_eq_some_iff.1 hx).1
    have hj : j < 7 := (List.getElem?_eq_some_iff.1 hu).1
    rw [Nat.zero_add, h3 _ (by omega), evsSn_get xs i j x hx hj]
    exact hu
theorem OwnSn.v8 {w : World} {v : Value} {xs : List QT.Sn} (h : OwnSn w v xs) (n : Int) : v ≠ .int .u8 n := by
  rcases h with ⟨rfl, rfl⟩ | ⟨g, cap, rfl, _⟩ <;> simp
theorem OwnSn.form {w : World} {v : Value} {xs : List QT.Sn} (h : OwnSn w v xs) : ∃ a c, v = .slice a xs.length c := by
  rcases h with ⟨rfl, rfl⟩ | ⟨g, cap, rfl, _⟩
  · exact ⟨none, 0, rfl⟩
  · exact ⟨_, _, rfl⟩
theorem TSn : SnT Tryz.prog 33 95 := ⟨Tryz.underlying33, by kernel_rfl⟩
end Go.Proofs.YtkanjdijmdjbaaaGreatDoor

namespace Go.Proofs.YtkanjdijmdjbaaaGreatDoor.QT

theorem readSn_zero {l l' : List UInt8} {k : Nat} {x : Rw} (h : readSn l k = (x, l', 0)) : k = 0 := by
  obtain ⟨a, l1, k1, h1⟩ : ∃ v l' k', PK.uintP cap l k = (v, l', k') := ⟨_, _, _, rfl⟩
  obtain ⟨b, l2, k2, h2⟩ : ∃ v l' k', PK.uintP cap l1 k1 = (v, l', k') := ⟨_, _, _, rfl⟩
  obtain ⟨c, l3, k3, h3⟩ : ∃ v l' k', PK.runP 98 256 l2 k2 = (v, l', k') := ⟨_, _, _, rfl⟩
  rw [readSn_at h1 h2 h3] at h
  obtain rfl : k3 = 0 := congrArg (fun p => p.2.2) h
  obtain rfl := (PK.run_back h3).1
  obtain rfl := (PK.uint_back h2).1
  exact (PK.uint_back h1).1
theorem readL_zero {α : Type} {f : List UInt8 → Nat → α × List UInt8 × Nat} (hf : ∀ {l l' k n}, f l k = (n, l', 0) → k = 0) (n : Nat) :
    ∀ {l : List UInt8} {k : Nat} {L : List α} {l' : List UInt8}, readL f n l k = (L, l', 0) → k = 0 := by
  induction n with
  | zero => intro l k L l' h; exact congrArg (fun p => p.2.2) h
  | succ n ih =>
    intro l k L l' h
    rw [readL_snoc] at h
    obtain ⟨L1, l1, k1, h1⟩ : ∃ v m j, readL f n l k = (v, m, j) := ⟨_, _, _, rfl⟩
    rw [h1] at h
    obtain ⟨x, l2, k2, h2⟩ : ∃ v m j, f l1 k1 = (v, m, j) := ⟨_, _, _, rfl⟩
    simp only [h2] at h
    obtain rfl : k2 = 0 := congrArg (fun p => p.2.2) h
    obtain rfl := hf h2
    exact ih h1
theorem tab_fin {l la lb l' y : List UInt8} {ka kb k' cn i : Nat} {L : List Rw} (h1 : PK.runP 98 1048576 l 0 = (y, la, ka)) (h2 : PK.countP 64 la ka = (cn, lb, kb)) (h3 : readL readSn i lb kb = (L, l', k')) (hi : i ≤ cn) (e : k' = 0 → i = cn) :
    (k' = 0 → takeTab l = (y, L, l', 0)) ∧ (k' ≠ 0 → (takeTab l).2.2.2 ≠ 0) := by
  refine ⟨fun h0 => ?_, fun h0 h => ?_⟩
  · have := e h0
    subst this
    subst h0
    unfold takeTab
    simp only [h1, h2, h3]
  · unfold takeTab at h
    simp only [h1, h2] at h
    have hs := readL_split readSn i (cn - i) lb kb
    rw [show i + (cn - i) = cn by omega, h3] at hs
    obtain ⟨v, l2, k2, hr⟩ : ∃ v m j, readL readSn (cn - i) l' k' = (v, m, j) := ⟨_, _, _, rfl⟩
    rw [hs] at h
    simp only [hr] at h
    subst h
    exact h0 (readL_zero (fun h => readSn_zero h) _ hr)
theorem okS_and (b : Bool) : ∀ (L : List Rw) (c : Bool) (k : Nat), L.foldl stepS (b && c, k) = (b && (L.foldl stepS (c, k)).1, (L.foldl stepS (c, k)).2)
  | [], c, k => rfl
  | x :: r, c, k => by
    rw [List.foldl_cons, List.foldl_cons]
    have : stepS (b && c, k) x = (b && (stepS (c, k) x).1, x.1) := by simp only [stepS, Bool.and_assoc]
    rw [this]
    exact okS_and b r _ _
theorem okS_is (b : Bool) (L : List Rw) : (okS b L).1 = (b && (okS true L).1) := by
  have := okS_and b L true 0
  rw [Bool.and_true] at this
  unfold okS
  rw [this]
theorem decTab_bad {l : List UInt8} (h : (takeTab l).2.2.2 ≠ 0) : decTab l = none := by
  unfold decTab
  cases decT (takeTab l).1 with
  | none => rfl
  | some p => exact if_neg (fun e => h e.1)
theorem decTab_at {l l' y : List UInt8} {L : List Rw} (h : takeTab l = (y, L, l', 0)) :
    decTab l = match decT y with
      | some (N, U) => if l' = [] ∧ (okS true L).1 = true then some (N, U, L.map snOf) else none
      | none => none := by
  unfold decTab
  rw [h]
  cases decT y with
  | none => rfl
  | some p => simp only [true_and]
theorem readL_len {l l' : List UInt8} {k k' i : Nat} {L : List Rw} (h : readL readSn i l k = (L, l', k')) : L.length = i := by have := readL_length readSn i l k; rw [h] at this; exact this
end Go.Proofs.YtkanjdijmdjbaaaGreatDoor.QT
