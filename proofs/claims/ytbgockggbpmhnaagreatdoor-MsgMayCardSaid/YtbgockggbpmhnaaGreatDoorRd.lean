/-
  pack.Reader's methods, by contracts over plain Lean functions (Pure): what each answers, what is left, the reader's error; only the reader's own block turns.
  Conditions: the listed variables read as listed ('Env'); the reader's block is behind the variables' blocks.
-/
import Derived.Test.YtbgockggbpmhnaaGreatDoorLib2
namespace Go.Proofs.YtbgockggbpmhnaaGreatDoor
open Go Go.RowKit

/-- A READER in block N: it has the bytes l left, and the error k (0: none). -/
structure Rd (w : World) (N : Nat) (l : List UInt8) (k : Nat) : Prop where
  glob : glob ≤ N
  ex : ∃ a c, w.heap[N]? = some (.cells #[.slice a l.length c, errV k] 101) ∧ IsB w (.slice a l.length c) l
theorem errV_form (k : Nat) : errV k = .nilIface ∨ ∃ t x, errV k = .iface t x := by
  cases k with
  | zero => exact .inl rfl
  | succ n => exact .inr ⟨_, _, rfl⟩
theorem errV_noByte (k : Nat) (n : Int) : errV k ≠ .int .u8 n := by cases k <;> simp [errV]
theorem Rd.lt {w : World} {N : Nat} {l : List UInt8} {k : Nat} (h : Rd w N l k) : N < w.heap.size := by
  obtain ⟨_, a, c, hh, _⟩ := h
  exact (Array.getElem?_eq_some_iff.1 hh).1
/-- The cells as the walk asks for them. -/
theorem cells2 {w : World} {N : Nat} {x y : Value} {t : TypeId} (h : w.heap[N]? = some (.cells #[x, y] t)) :
    w.cell? ⟨N, 0, none⟩ = some x ∧ w.cell? ⟨N, 1, none⟩ = some y ∧ w.frozen? ⟨N, 0, none⟩ = false ∧ w.frozen? ⟨N, 1, none⟩ = false := by
  simp [World.cell?, World.frozen?, h]
theorem IsB.apart2 {w : World} {v x y : Value} {l : List UInt8} (h : IsB w v l) {k : Nat} {t : TypeId} (hk : w.heap[k]? = some (.cells #[x, y] t))
    (hx : ∀ n, x ≠ .int .u8 n) (hy : ∀ n, y ≠ .int .u8 n) (hl : l ≠ []) : v.ownBlock ≠ some k :=
  h.apart hk (fun j n => by
    rcases j with _ | _ | j
    · simpa using hx n
    · simpa using hy n
    · simp) hl
/-- A slice of no bytes reads so in every world. -/
theorem IsB.empty {w w' : World} {v : Value} (h : IsB w v []) : IsB w' v [] := by
  obtain ⟨a, cap, rfl, h1, h2, h0, h3⟩ := h
  exact ⟨a, cap, rfl, h1, h2, h0, .inl rfl⟩
/-- The reader's bytes read on while its own block turns. -/
theorem Rd.bytes {w w' : World} {N : Nat} {k : Nat} {a : Option Addr} {n c : Nat} (hh : w.heap[N]? = some (.cells #[.slice a n c, errV k] 101)) {v : Value} {m : List UInt8} (hv : IsB w v m) (f : Fr (fun j => j = N) w w') : IsB w' v m := by
  by_cases hl : m = []
  · subst hl; exact hv.empty
  · exact hv.kept f (fun b hb e => hv.apart2 hh (by simp) (errV_noByte k) hl (by rw [hb, e]))
theorem Rd.kept {X : Nat → Prop} {w w' : World} {N : Nat} {l : List UInt8} {k : Nat} (h : Rd w N l k) (f : Fr X w w') (hx : ¬ X N) (hb : ∀ a c, w.heap[N]? = some (.cells #[.slice a l.length c, errV k] 101) → ∀ b, Value.ownBlock (.slice a l.length c) = some b → ¬ X b) : Rd w' N l k := by
  obtain ⟨hg, a, c, hh, hv⟩ := h
  exact ⟨hg, a, c, f.heap hh hx, hv.kept f (hb a c hh)⟩
theorem Rd.below {w w' : World} {N : Nat} {l : List UInt8} {k : Nat} (h : Rd w N l k) (f : Below w.heap.size w w') : Rd w' N l k := h.kept (X := fun _ => False) (Fr.of_below f) (fun x => x) (fun _ _ _ _ _ x => x)

/-- A store of the error. -/
theorem Rd.setErr {w : World} {N : Nat} {l : List UInt8} {k : Nat} (h : Rd w N l k) (j : Nat) : Rd (w.setCell ⟨N, 1, none⟩ (errV j)) N l j ∧ Fr (fun i => i = N) w (w.setCell ⟨N, 1, none⟩ (errV j)) := by
  obtain ⟨hg, a, c, hh, hv⟩ := h
  have f : Fr (fun i => i = N) w (w.setCell ⟨N, 1, none⟩ (errV j)) := Fr.setCell (X := fun i => i = N) (Fr.refl _ w) (fun _ => rfl) _
  refine ⟨⟨hg, a, c, ?_, Rd.bytes hh hv f⟩, f⟩
  have hlt := (Array.getElem?_eq_some_iff.1 hh).1
  simp only [World.setCell, Array.getElem?_modify, if_true, hh, Option.map_some]
  simp
/-- A store of what is left. -/
theorem Rd.setRest {w : World} {N : Nat} {l m : List UInt8} {k : Nat} (h : Rd w N l k) (a : Option Addr) (n c : Nat) (hn : m.length = n) (hv : IsB w (.slice a n c) m) : Rd (w.setCell ⟨N, 0, none⟩ (.slice a n c)) N m k ∧ Fr (fun i => i = N) w (w.setCell ⟨N, 0, none⟩ (.slice a n c)) := by
  subst hn
  obtain ⟨hg, a', c', hh, hv'⟩ := h
  have f : Fr (fun i => i = N) w (w.setCell ⟨N, 0, none⟩ (.slice a m.length c)) := Fr.setCell (X := fun i => i = N) (Fr.refl _ w) (fun _ => rfl) _
  refine ⟨⟨hg, a, c, ?_, Rd.bytes hh hv f⟩, f⟩
  simp only [World.setCell, Array.getElem?_modify, if_true, hh, Option.map_some]
  simp
theorem Env.rd {w w' : World} {N : Nat} (h : Env w) (f : Fr (fun i => i = N) w w') (hN : glob ≤ N) : Env w' := h.kept f (fun k hk e => by omega)

/-- pack.Read: a reader of the bytes. -/
theorem read_any (a : Option Addr) (c : Nat) (l : List UInt8) (w : World) (hE : Env w) (hv : IsB w (.slice a l.length c) l) :
    Calls Tryz.prog 24 #[.slice a l.length c] w fun e w' => e = .returned (.pointer (some ⟨w.heap.size, 0, none⟩)) ∧ Rd w' w.heap.size l 0 ∧ Below w.heap.size w w' := by
  have hg : glob ≤ w.heap.size := hE.big
  have Hv := Lib.hid hv
  have Hg := Lib.hid hg
  clear hv hE hg
  go_enter Tryz.func24, Tryz.ntmps24
  go_wp2
  go_ret
  exact ⟨rfl, ⟨Hg.out, a, c, heap_alloc_new w _, Hv.out.alloc _⟩, (Below.refl _ _).alloc (Nat.le_refl _) _⟩


/-- Done. -/
theorem done_any (N : Nat) (l : List UInt8) (k : Nat) (w : World) (h : Rd w N l k) :
    Calls Tryz.prog 31 #[.pointer (some ⟨N, 0, none⟩)] w fun e w' => e = .returned (errV (PK.doneP l k)) ∧ w = w' := by
  obtain ⟨_, a, c, hh, _⟩ := h
  obtain ⟨c0, c1, _, _⟩ := cells2 hh
  clear hh
  unfold PK.doneP
  cases k with
  | zero =>
    by_cases hl : l = []
    · subst hl
      unfold errV at c1
      go_enter Tryz.func31, Tryz.ntmps31
      go_wp2
      go_ret
      exact ⟨rfl, rfl⟩
    · have hp : 0 < l.length := List.length_pos_iff.2 hl
      have Hl := Lib.hid hl
      clear hl
      unfold errV at c1
      go_enter Tryz.func31, Tryz.ntmps31
      go_wp2
      go_ret
      exact ⟨rfl, rfl⟩
  | succ n =>
    unfold errV at c1
    go_enter Tryz.func31, Tryz.ntmps31
    go_wp2
    go_ret
    exact ⟨rfl, rfl⟩

/-- fails(err): the first error is noted; whether there is one. -/
theorem fails_any (N : Nat) (l : List UInt8) (k j : Nat) (w : World) (h : Rd w N l k) :
    Calls Tryz.prog 58 #[.pointer (some ⟨N, 0, none⟩), errV j] w fun e w' => e = .returned (.bool (decide ((if k = 0 then j else k) ≠ 0))) ∧ Rd w' N l (if k = 0 then j else k) ∧ Fr (fun i => i = N) w w' := by
  have H := Lib.hid h
  obtain ⟨_, a, c, hh, _⟩ := h
  obtain ⟨c0, c1, _, f1⟩ := cells2 hh
  clear hh
  cases k with
  | zero =>
    have HS := Lib.hid (H.out.setErr j)
    cases j with
    | zero =>
      unfold errV at c1 ⊢
      go_enter Tryz.func58, Tryz.ntmps58
      go_wp2
      go_ret
      exact ⟨rfl, HS.out⟩
    | succ m =>
      unfold errV at c1 ⊢
      go_enter Tryz.func58, Tryz.ntmps58
      go_wp2
      go_ret
      exact ⟨rfl, HS.out⟩
  | succ n =>
    cases j with
    | zero =>
      unfold errV at c1 ⊢
      go_enter Tryz.func58, Tryz.ntmps58
      go_wp2
      go_ret
      exact ⟨rfl, H.out, Fr.refl _ _⟩
    | succ m =>
      unfold errV at c1 ⊢
      go_enter Tryz.func58, Tryz.ntmps58
      go_wp2
      go_ret
      exact ⟨rfl, H.out, Fr.refl _ _⟩
end Go.Proofs.YtbgockggbpmhnaaGreatDoor
