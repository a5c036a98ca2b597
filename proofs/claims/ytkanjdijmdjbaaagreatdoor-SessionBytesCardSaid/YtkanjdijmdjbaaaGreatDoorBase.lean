/-
  Words that all texts of this seat use: a world that is as it was but for some blocks ('Fr'); a slice of bytes that reads as a list ('IsB').
  No condition; nothing of the program stands here.
-/
import Derived.Deep.RegionHeld3
import Derived.Handy
import Derived.Laws.BytesArg
import Derived.Lib.Hide
import Derived.Deep.QuietTactic
import Derived.BigQuiet
namespace Go.Proofs.YtkanjdijmdjbaaaGreatDoor
open Go Go.RowKit

/-- The world w' is w, but for new blocks and for the blocks of X. -/
structure Fr (X : Nat → Prop) (w w' : World) : Prop where
  os : w'.os = w.os
  tape : w'.tape = w.tape
  output : w'.output = w.output
  size : w.heap.size ≤ w'.heap.size
  block : ∀ k, k < w.heap.size → ¬ X k → w'.heap[k]? = w.heap[k]?

theorem Fr.refl (X : Nat → Prop) (w : World) : Fr X w w := ⟨rfl, rfl, rfl, Nat.le_refl _, fun _ _ _ => rfl⟩
theorem Fr.trans {X : Nat → Prop} {a b c : World} (h : Fr X a b) (k : Fr X b c) : Fr X a c :=
  ⟨k.os.trans h.os, k.tape.trans h.tape, k.output.trans h.output, Nat.le_trans h.size k.size,
   fun i hi hx => (k.block i (Nat.lt_of_lt_of_le hi h.size) hx).trans (h.block i hi hx)⟩
theorem Fr.mono {X Y : Nat → Prop} {w w' : World} (h : Fr X w w') (hxy : ∀ k, k < w.heap.size → X k → Y k) : Fr Y w w' :=
  ⟨h.os, h.tape, h.output, h.size, fun k hk hy => h.block k hk (fun hx => hy (hxy k hk hx))⟩
/-- A second step that turned blocks which the first step made. -/
theorem Fr.then {X Y : Nat → Prop} {a b c : World} (h : Fr X a b) (k : Fr Y b c) (hy : ∀ i, i < a.heap.size → Y i → X i) : Fr X a c :=
  ⟨k.os.trans h.os, k.tape.trans h.tape, k.output.trans h.output, Nat.le_trans h.size k.size,
   fun i hi hx => (k.block i (Nat.lt_of_lt_of_le hi h.size) (fun q => hx (hy i hi q))).trans (h.block i hi hx)⟩
theorem Fr.drew {X : Nat → Prop} {a w : World} (h : Fr X a w) : Fr X a w.drew := ⟨h.os, h.tape, h.output, h.size, h.block⟩
theorem Fr.drewN {X : Nat → Prop} {a w : World} (h : Fr X a w) (n : Nat) : Fr X a (w.drewN n) := ⟨h.os, h.tape, h.output, h.size, h.block⟩
theorem Fr.alloc {X : Nat → Prop} {a w : World} (h : Fr X a w) (o : Obj) : Fr X a (w.alloc o) :=
  ⟨h.os, h.tape, h.output, by simp; have := h.size; omega, fun k hk hx => (Below.heap_alloc _ _ _ (by have := h.size; omega)).trans (h.block k hk hx)⟩
theorem Fr.setCell {X : Nat → Prop} {a w : World} (h : Fr X a w) {p : Addr} (hp : p.block < a.heap.size → X p.block) (u : Value) : Fr X a (w.setCell p u) :=
  ⟨h.os, h.tape, h.output, by simp [World.setCell]; exact h.size, fun k hk hx => (Below.heap_setCell _ _ _ _ (by rintro rfl; exact hx (hp hk))).trans (h.block k hk hx)⟩
theorem Fr.of_below {X : Nat → Prop} {w w' : World} (h : Below w.heap.size w w') : Fr X w w' :=
  ⟨h.os, h.tape, h.output, h.size, fun k hk _ => h.block k hk⟩
theorem Fr.below {w w' : World} (h : Fr (fun _ => False) w w') : Below w.heap.size w w' :=
  ⟨h.os, h.tape, h.output, h.size, fun k hk => h.block k hk (fun x => x)⟩
theorem Fr.of_grown {X : Nat → Prop} {w w' : World} {row : Option Nat} (h : w.grownBy w' row) (hr : ∀ k, row = some k → X k) : Fr X w w' :=
  ⟨h.os, h.tape, h.output, h.size, fun k hk hx => h.block k hk (fun e => hx (hr k e.symm))⟩
theorem Fr.cell {X : Nat → Prop} {w w' : World} (h : Fr X w w') {p : Addr} {v : Value} (hc : w.cell? p = some v) (hx : ¬ X p.block) : w'.cell? p = some v :=
  (World.cell?_of_block (h.block p.block (World.block_lt_of_cell? w p hc) hx)).trans hc
theorem Fr.frozen {X : Nat → Prop} {w w' : World} (h : Fr X w w') {p : Addr} (hp : p.block < w.heap.size) (hx : ¬ X p.block) : w'.frozen? p = w.frozen? p :=
  World.frozen?_of_block (h.block p.block hp hx)
theorem Fr.heap {X : Nat → Prop} {w w' : World} (h : Fr X w w') {k : Nat} {o : Obj} (hc : w.heap[k]? = some o) (hx : ¬ X k) : w'.heap[k]? = some o :=
  (h.block k (Array.getElem?_eq_some_iff.1 hc).1 hx).trans hc
theorem Fr.lt {X : Nat → Prop} {w w' : World} (h : Fr X w w') {k : Nat} (hk : k < w.heap.size) : k < w'.heap.size := Nat.lt_of_lt_of_le hk h.size

/-- How many bytes an append may come to (2^47): a name, for the walk must not see the numeral. -/
def roomB : Nat := 140737488355328
/-- Byte i of a list, as a number; 0 behind its end. -/
def at8 (l : List UInt8) (i : Nat) : Int := ((l.getD i 0).toNat : Int)
theorem at8_nonneg (l : List UInt8) (i : Nat) : 0 ≤ at8 l i := by unfold at8; omega
theorem at8_le (l : List UInt8) (i : Nat) : at8 l i ≤ 255 := by unfold at8; have := (l.getD i 0).toNat_lt; omega
theorem at8_get (l : List UInt8) (i : Nat) (h : i < l.length) : at8 l i = (l[i].toNat : Int) := by simp [at8, List.getD_eq_getElem?_getD, h]
theorem at8_drop (l : List UInt8) (k i : Nat) : at8 (l.drop k) i = at8 l (k + i) := by simp [at8, List.getD_eq_getElem?_getD, List.getElem?_drop]
theorem at8_take (l : List UInt8) (k i : Nat) (h : i < k) : at8 (l.take k) i = at8 l i := by simp [at8, List.getD_eq_getElem?_getD, h]
theorem at8_append_left (l m : List UInt8) (i : Nat) (h : i < l.length) : at8 (l ++ m) i = at8 l i := by simp [at8, List.getD_eq_getElem?_getD, List.getElem?_append_left h]
theorem at8_append_right (l m : List UInt8) (i : Nat) : at8 (l ++ m) (l.length + i) = at8 m i := by simp [at8, List.getD_eq_getElem?_getD, List.getElem?_append_right]
theorem at8_inj {c d : UInt8} (h : (c.toNat : Int) = (d.toNat : Int)) : c = d := UInt8.toNat_inj.1 (by omega)

/-- The slice value v reads as the bytes l. -/
def IsB (w : World) (v : Value) (l : List UInt8) : Prop :=
  ∃ a cap, v = .slice a l.length cap ∧ l.length ≤ cap ∧ cap ≤ maxLen ∧ (a = none → cap = 0) ∧
    (l = [] ∨ ∃ b o, a = some ⟨b, o, none⟩ ∧ ∀ i, i < l.length → w.cell? ⟨b, o + i, none⟩ = some (.int .u8 (at8 l i)))

theorem IsB.nil (w : World) : IsB w (.slice none 0 0) [] := ⟨none, 0, rfl, by simp, by simp [maxLen], fun _ => rfl, .inl rfl⟩
theorem IsB.kept {X : Nat → Prop} {w w' : World} {v : Value} {l : List UInt8} (h : IsB w v l) (f : Fr X w w') (hx : ∀ b, v.ownBlock = some b → ¬ X b) : IsB w' v l := by
  obtain ⟨a, cap, rfl, h1, h2, h0, h3⟩ := h
  refine ⟨a, cap, rfl, h1, h2, h0, ?_⟩
  rcases h3 with h3 | ⟨b, o, rfl, hc⟩
  · exact .inl h3
  · exact .inr ⟨b, o, rfl, fun i hi => f.cell (hc i hi) (hx b rfl)⟩
theorem IsB.below {w w' : World} {v : Value} {l : List UInt8} (h : IsB w v l) (f : Below w.heap.size w w') : IsB w' v l := h.kept (X := fun _ => False) (Fr.of_below f) (fun _ _ x => x)
theorem IsB.len {w : World} {v : Value} {l : List UInt8} (h : IsB w v l) : l.length ≤ maxLen := by
  obtain ⟨a, cap, rfl, h1, h2, _, h3⟩ := h; omega
/-- The block of a slice of bytes that is not empty holds bytes alone where it reads. -/
theorem IsB.apart {w : World} {v : Value} {l : List UInt8} (h : IsB w v l) {k : Nat} {cs : Array Value} {t : TypeId} {z : Nat × Nat} (hk : w.heap[k]? = some (.cells cs t z))
    (hcs : ∀ (j : Nat) (n : Int), cs[j]? ≠ some (.int .u8 n)) (hl : l ≠ []) : v.ownBlock ≠ some k := by
  obtain ⟨a, cap, rfl, h1, h2, _, h3⟩ := h
  rcases h3 with h3 | ⟨b, o, rfl, hc⟩
  · exact absurd h3 hl
  · intro e
    simp [Value.ownBlock] at e
    subst e
    have := hc 0 (by cases l <;> simp_all)
    simp [World.cell?, hk] at this
    exact hcs _ _ this
/-- The lists' laws that the walk of a region uses, by short names. -/
theorem rP1 {α : Type} (l : List α) (i : Nat) (a : α) : l.toArray.setIfInBounds i a = (l.set i a).toArray := List.setIfInBounds_toArray ..
theorem rP2 {α : Type} (x : α) (l : List α) (a : α) : (x :: l).set 0 a = a :: l := rfl
theorem rP3 {α : Type} (x : α) (l : List α) (i : Nat) (a : α) : (x :: l).set (i + 1) a = x :: l.set i a := rfl
/-- Number 'i' of a drawn region is taken first: its guard holds, it yields the same in each world that meets S. -/
theorem rTk {P : Program} {ops : Array Oper} {Q : Exit → Act → World → Prop} {md : Region.Mode} {S : World → Prop} {oi : Oper} {v : Value} {fuel : Nat} {listed : Array Bool} {a : Act} {w : World} (i : Nat)
    (h : wpAnyH P md ops Q S fuel (listed.setIfInBounds i true) (a.put oi.dst v) w)
    (hi : ops[i]? = some oi := by exact List.getElem?_toArray.trans rfl) (hs : Region.noSelect ops = true := by kernel_rfl) (hf : Region.free md ops listed i = true := by kernel_rfl) (hr : (Region.ready md ops listed).contains i = true := by kernel_rfl)
    (hQ : ∀ c a w, Q (.panic c) (a.put oi.dst v) w → Q (.panic c) a w := by exact fun _ _ _ h => h) (hy : YieldsIf P ops S oi v a := by exact Or.inl ⟨by rfl, by (intro wt hSw; (try dsimp only at hSw); go_simp; try (with_reducible rfl))⟩) (hS : S w := by assumption) :
    wpAnyH P md ops Q S (fuel + 1) listed a w := wpAnyH_take hi hs hf hr hQ hy hS h
/-- .. whose guard is false: it is left out. -/
theorem rSk {P : Program} {ops : Array Oper} {Q : Exit → Act → World → Prop} {md : Region.Mode} {S : World → Prop} {oi : Oper} {fuel : Nat} {listed : Array Bool} {a : Act} {w : World} (i : Nat)
    (h : wpAnyH P md ops Q S fuel (listed.setIfInBounds i true) (a.put oi.dst undef) w)
    (hi : ops[i]? = some oi := by exact List.getElem?_toArray.trans rfl) (hs : Region.noSelect ops = true := by kernel_rfl) (hf : Region.free md ops listed i = true := by kernel_rfl) (hr : (Region.ready md ops listed).contains i = true := by kernel_rfl)
    (hQ : ∀ c a w, Q (.panic c) (a.put oi.dst undef) w → Q (.panic c) a w := by exact fun _ _ _ h => h) (hy : YieldsIf P ops S oi undef a := by exact Or.inr ⟨by rfl, rfl⟩) (hS : S w := by assumption) :
    wpAnyH P md ops Q S (fuel + 1) listed a w := wpAnyH_take hi hs hf hr hQ hy hS h
/-- The one that may come up comes up. -/
theorem rBr {P : Program} {ops : Array Oper} {Q : Exit → Act → World → Prop} {md : Region.Mode} {S : World → Prop} {o : Oper} {fuel : Nat} {listed : Array Bool} {a : Act} {w : World} (i : Nat)
    (h : ∀ K' : Act → World → Prop, Shut (∀ a w, S w → (S w → wpAnyH P md ops Q S fuel (listed.setIfInBounds i true) a w) → K' a w) → if Region.wanted o (yielded ops a.tmps) = true then Oper.wp P o a w K' Q else K' (a.put o.dst undef) w)
    (hr : Region.ready md ops listed = [i] := by kernel_rfl) (ho : ops[i]? = some o := by exact List.getElem?_toArray.trans rfl) : wpAnyH P md ops Q S (fuel + 1) listed a w :=
  wpAnyH_ready hr (by simp) (AllReadyH.cons ho h AllReadyH.nil)
end Go.Proofs.YtkanjdijmdjbaaaGreatDoor
