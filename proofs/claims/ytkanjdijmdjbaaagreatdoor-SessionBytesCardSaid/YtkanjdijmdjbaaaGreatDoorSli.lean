/-
  Slices of nodes and of uses that the call owns; the append of one.
  Conditions: none but those that the theorems' lines name.
-/
import Derived.Test.YtkanjdijmdjbaaaGreatDoorG3
import Derived.Test.YtkanjdijmdjbaaaGreatDoorG4
import Derived.Test.YtkanjdijmdjbaaaGreatDoorG5
namespace Go.Proofs.YtkanjdijmdjbaaaGreatDoor
open Go Go.RowKit

def valsNd (x : QT.Nd) : List Value := [.string (str x.nm), .string (str x.pr), .complex .f64 (FL.fB x.o1) (FL.fB x.o2), .complex .f64 (FL.fB x.b1) (FL.fB x.b2), .complex .f64 (FL.fB x.l1) (FL.fB x.l2)]
def evsNd : List QT.Nd → List Value
  | [] => []
  | x :: r => valsNd x ++ evsNd r
theorem evsNd_append (a b : List QT.Nd) : evsNd (a ++ b) = evsNd a ++ evsNd b := by
  induction a with
  | nil => rfl
  | cons x r ih => simp [evsNd, ih]
theorem evsNd_length (a : List QT.Nd) : (evsNd a).length = a.length * 5 := by
  induction a with
  | nil => rfl
  | cons x r ih => simp [evsNd, ih, valsNd]; omega
theorem evsNd_get : ∀ (a : List QT.Nd) (i j : Nat) (x : QT.Nd), a[i]? = some x → j < 5 → (evsNd a)[i * 5 + j]? = (valsNd x)[j]?
  | [], i, j, x, h, _ => by simp at h
  | y :: r, 0, j, x, h, hj => by
    simp at h
    subst h
    rw [evsNd, Nat.zero_mul, Nat.zero_add, List.getElem?_append_left (by simpa [valsNd] using hj)]
  | y :: r, i + 1, j, x, h, hj => by
    rw [evsNd, List.getElem?_append_right (by simp [valsNd]; omega)]
    rw [show (i + 1) * 5 + j - (valsNd y).length = i * 5 + j from by simp [valsNd]; omega]
    exact evsNd_get r i j x (by simpa using h) hj
theorem evsNd_one (a : List QT.Nd) : ∀ u ∈ evsNd a, u.oneCell' = true := by
  induction a with
  | nil => intro u hu; simp [evsNd] at hu
  | cons x r ih =>
    intro u hu
    simp only [evsNd, List.mem_append] at hu
    rcases hu with hu | hu
    · simp only [valsNd, List.mem_cons, List.not_mem_nil, or_false] at hu
      rcases hu with rfl | rfl | rfl | rfl | rfl <;> rfl
    · exact ih u hu
theorem evsNd_no8 (a : List QT.Nd) : ∀ u ∈ evsNd a, ∀ n, u ≠ .int .u8 n := by
  induction a with
  | nil => intro u hu; simp [evsNd] at hu
  | cons x r ih =>
    intro u hu n
    simp only [evsNd, List.mem_append] at hu
    rcases hu with hu | hu
    · simp only [valsNd, List.mem_cons, List.not_mem_nil, or_false] at hu
      rcases hu with rfl | rfl | rfl | rfl | rfl <;> simp
    · exact ih u hu n
/-- A SLICE OF THEM OF THE CALL's OWN, whose room is there; no cell of its block is a byte. -/
def OwnNd (w : World) (v : Value) (xs : List QT.Nd) : Prop :=
  (v = .slice none 0 0 ∧ xs = []) ∨
  ∃ g cap, v = .slice (some ⟨g, 0, none⟩) xs.length cap ∧ xs.length ≤ cap ∧ cap ≤ maxLen ∧ g < w.heap.size ∧ (∀ q, q < xs.length * 5 → w.cell? ⟨g, q, none⟩ = (evsNd xs)[q]?) ∧
    (∀ j, j < cap * 5 → (w.cell? ⟨g, j, none⟩).isSome = true ∧ w.frozen? ⟨g, j, none⟩ = false) ∧ (∀ j n, w.cell? ⟨g, j, none⟩ ≠ some (.int .u8 n))
theorem OwnNd.nil (w : World) : OwnNd w (.slice none 0 0) [] := .inl ⟨rfl, rfl⟩
theorem OwnNd.lt {w : World} {v : Value} {xs : List QT.Nd} (h : OwnNd w v xs) : ∀ b, v.ownBlock = some b → b < w.heap.size := by
  rcases h with ⟨rfl, rfl⟩ | ⟨g, cap, rfl, _, _, hg, _⟩
  · intro b hb; simp [Value.ownBlock] at hb
  · intro b hb; simp [Value.ownBlock] at hb; omega
theorem OwnNd.kept {X : Nat → Prop} {w w' : World} {v : Value} {xs : List QT.Nd} (h : OwnNd w v xs) (f : Fr X w w') (hv : ∀ b, v.ownBlock = some b → ¬ X b) : OwnNd w' v xs := by
  rcases h with ⟨rfl, rfl⟩ | ⟨g, cap, rfl, h1, h2, hg, h3, h4, h5⟩
  · exact .inl ⟨rfl, rfl⟩
  · have hX : ¬ X g := hv g rfl
    have hk := f.block g hg hX
    refine .inr ⟨g, cap, rfl, h1, h2, f.lt hg, fun q hq => (World.cell?_of_block hk).trans (h3 q hq), fun j hj => ⟨?_, (f.frozen (p := ⟨g, j, none⟩) hg hX).trans (h4 j hj).2⟩, fun j n => ?_⟩
    · rw [World.cell?_of_block (a := ⟨g, j, none⟩) hk]; exact (h4 j hj).1
    · rw [World.cell?_of_block (a := ⟨g, j, none⟩) hk]; exact h5 j n
theorem OwnNd.below {w w' : World} {v : Value} {xs : List QT.Nd} (h : OwnNd w v xs) (f : Below w.heap.size w w') : OwnNd w' v xs := h.kept (X := fun _ => False) (Fr.of_below f) (fun _ _ x => x)

/-- THE TYPES' ROWS: t is a slice of e, e is an entry of four cells. -/
structure NdT (P : Program) (t e : TypeId) : Prop where
  sl : P.underlying t = some (.slice e)
  info : (P.info? e).map (fun i => (i.zero, i.size, i.bytes)) = some (some (.agg #[.string .empty, .string .empty, .complex .f64 0 0, .complex .f64 0 0, .complex .f64 0 0]), 5, 80)
theorem zero_no8Nd (k j : Nat) (u : Value) (h : (Builtin.zeroCells (Value.agg #[.string .empty, .string .empty, .complex .f64 0 0, .complex .f64 0 0, .complex .f64 0 0]).cells k)[j]? = some u) : ∀ n, u ≠ .int .u8 n := by
  intro n
  have hc : (Value.agg #[.string .empty, .string .empty, .complex .f64 0 0, .complex .f64 0 0, .complex .f64 0 0]).cells = #[.string .empty, .string .empty, .complex .f64 0 0, .complex .f64 0 0, .complex .f64 0 0] := by simp [Value.cells]
  rw [hc] at h
  unfold Builtin.zeroCells at h
  simp only [Array.getElem?_map, Option.map_eq_some_iff] at h
  obtain ⟨q, _, rfl⟩ := h
  have h4 : q % 5 = 0 ∨ q % 5 = 1 ∨ q % 5 = 2 ∨ q % 5 = 3 ∨ q % 5 = 4 := by omega
  have hs : (#[.string .empty, .string .empty, .complex .f64 0 0, .complex .f64 0 0, .complex .f64 0 0] : Array Value).size = 5 := rfl
  rw [hs]
  rcases h4 with e | e | e | e | e <;> rw [e] <;> simp
/-- APPEND OF ONE ENTRY ONTO A SLICE OF THE CALL's OWN. -/
theorem run_appNd {P : Program} {t e ty : TypeId} (T : NdT P t e) {w : World} {v : Value} {xs : List QT.Nd} {x : QT.Nd} {g0 : Nat} (hv : OwnNd w v xs)
    (hx : ∀ j u, (valsNd x)[j]? = some u → w.cell? ⟨g0, j, none⟩ = some u) (hroom : xs.length + 1 ≤ 1099511627776) :
    ∃ a c w', (Builtin.append_ #[t, t] ty #[v, .slice (some ⟨g0, 0, none⟩) 1 1]).run P w = .ok (.slice a (xs.length + 1) c) w' ∧ OwnNd w' (.slice a (xs.length + 1) c) (xs ++ [x]) ∧
      Fr (fun k => v.ownBlock = some k) w w' ∧ (Value.ownBlock (.slice a (xs.length + 1) c) = v.ownBlock ∨ ∃ g, a = some ⟨g, 0, none⟩ ∧ w.heap.size ≤ g) := by
  obtain ⟨i, hi, hz, hs, hb⟩ : ∃ i, P.info? e = some i ∧ i.zero = some (.agg #[.string .empty, .string .empty, .complex .f64 0 0, .complex .f64 0 0, .complex .f64 0 0]) ∧ i.size = 5 ∧ i.bytes = 80 := by
    have := T.info
    cases h : P.info? e with
    | none => simp [h] at this
    | some i => simp [h] at this; exact ⟨i, rfl, this.1, this.2.1, this.2.2⟩
  have hadd : ∀ g j : Nat, (⟨g, 0, none⟩ : Addr).add j = ⟨g, j, none⟩ := fun g j => by unfold Addr.add; split <;> simp_all
  have hone : ∀ u ∈ (valsNd x), u.oneCell' = true := fun u hu => evsNd_one [x] u (by simpa [evsNd] using hu)
  have hno8 : ∀ u ∈ (valsNd x), ∀ n, u ≠ .int .u8 n := fun u hu => evsNd_no8 [x] u (by simpa [evsNd] using hu)
  have hsrc : Src P i.size t (.slice (some ⟨g0, 0, none⟩) 1 1) 1 (valsNd x) w := by
    rw [hs]
    exact Src.ofSlice w T.sl _ 1 1 (valsNd x) (by simp [valsNd]) (fun j u hu => by rw [hadd]; exact hx j u hu) hone
  have hlenx : (xs ++ [x]).length = xs.length + 1 := by simp
  have hevx : evsNd (xs ++ [x]) = evsNd xs ++ (valsNd x) := by rw [evsNd_append]; simp [evsNd]
  have grow : ∀ (bs : Option Addr) (sc : Nat), v = .slice bs xs.length sc → sc < xs.length + 1 → (Builtin.firstCells i.size xs.length (.slice bs xs.length sc)).run P w.drew = .ok (evsNd xs).toArray w.drew →
      ∃ a c w', (Builtin.append_ #[t, t] ty #[v, .slice (some ⟨g0, 0, none⟩) 1 1]).run P w = .ok (.slice a (xs.length + 1) c) w' ∧ OwnNd w' (.slice a (xs.length + 1) c) (xs ++ [x]) ∧
        Fr (fun k => v.ownBlock = some k) w w' ∧ (Value.ownBlock (.slice a (xs.length + 1) c) = v.ownBlock ∨ ∃ g, a = some ⟨g, 0, none⟩ ∧ w.heap.size ≤ g) := by
    rintro bs sc rfl hg hold
    have hrun := run_append_grow_src (P := P) w t t ty e i _ T.sl hi hz bs xs.length sc (evsNd xs) hold _ 1 (valsNd x) hsrc hg (by omega) (growslice_fits hg (by rw [hb]; omega))
    have hge := grownCap_ge w (xs.length + 1) sc e
    have hcm := grownCap_le_maxLen w (xs.length + 1) sc e (by simp only [maxLen]; omega)
    have hlen : (evsNd xs ++ (valsNd x)).length = (xs.length + 1) * 5 := by rw [List.length_append, evsNd_length]; simp [valsNd]; omega
    have hcell : ∀ j, (w.drew.alloc (.cells ((evsNd xs ++ (valsNd x)).toArray ++ Builtin.zeroCells (Value.agg #[.string .empty, .string .empty, .complex .f64 0 0, .complex .f64 0 0, .complex .f64 0 0]).cells (grownCap w (xs.length + 1) sc e - (xs.length + 1))) e)).cell? ⟨w.heap.size, j, none⟩ = ((evsNd xs ++ (valsNd x)).toArray ++ Builtin.zeroCells (Value.agg #[.string .empty, .string .empty, .complex .f64 0 0, .complex .f64 0 0, .complex .f64 0 0]).cells (grownCap w (xs.length + 1) sc e - (xs.length + 1)))[j]? := fun j => World.cell?_alloc_new w.drew _ e j
    have hB : Fr (fun k => Value.ownBlock (.slice bs xs.length sc) = some k) w (w.drew.alloc (.cells ((evsNd xs ++ (valsNd x)).toArray ++ Builtin.zeroCells (Value.agg #[.string .empty, .string .empty, .complex .f64 0 0, .complex .f64 0 0, .complex .f64 0 0]).cells (grownCap w (xs.length + 1) sc e - (xs.length + 1))) e)) := ((Fr.refl _ w).drew).alloc _
    refine ⟨_, _, _, hrun, .inr ⟨w.heap.size, _, by rw [hlenx], by rw [hlenx]; exact hge, hcm, by simp, fun q hq => ?_, fun j hj => ⟨?_, ?_⟩, fun j n => ?_⟩, hB, .inr ⟨_, rfl, Nat.le_refl _⟩⟩
    · rw [hlenx] at hq
      rw [hcell, hevx, Array.getElem?_append_left (by simp only [List.size_toArray]; omega), List.getElem?_toArray]
    · rw [hcell]
      have hsz : ((evsNd xs ++ (valsNd x)).toArray ++ Builtin.zeroCells (Value.agg #[.string .empty, .string .empty, .complex .f64 0 0, .complex .f64 0 0, .complex .f64 0 0]).cells (grownCap w (xs.length + 1) sc e - (xs.length + 1))).size = grownCap w (xs.length + 1) sc e * 5 := by
        rw [Array.size_append, size_zeroCells, List.size_toArray, hlen]
        have : (Value.agg #[.string .empty, .string .empty, .complex .f64 0 0, .complex .f64 0 0, .complex .f64 0 0]).cells.size = 5 := by simp [Value.cells]
        rw [this]; omega
      rw [Array.getElem?_eq_getElem (by rw [hsz]; exact hj)]
      rfl
    · exact World.frozen?_alloc_new w.drew _ _ j
    · rw [hcell]
      intro h
      rw [Array.getElem?_append] at h
      split at h
      · rw [List.getElem?_toArray] at h
        have hm := List.mem_of_getElem? h
        rw [List.mem_append] at hm
        rcases hm with hm | hm
        · exact evsNd_no8 xs _ hm n rfl
        · exact hno8 _ hm n rfl
      · exact zero_no8Nd _ _ _ h n rfl
  rcases hv with ⟨rfl, rfl⟩ | ⟨g, cap, rfl, h1, h2, hg, h3, h4, h5⟩
  · exact grow none 0 rfl (by simp) (run_firstCells_none w.drew i.size 0 0 0)
  · by_cases hfit : xs.length + 1 ≤ cap
    · have hrun := run_append_room_src (P := P) w t t ty e i T.sl hi g 0 xs.length cap _ 1 (valsNd x) hsrc hfit
        (fun j hj => by rw [hs, Nat.zero_add]; exact (h4 (xs.length * 5 + j) (by simp [valsNd] at hj; omega)).1)
        (fun j hj => by rw [hs, Nat.zero_add]; exact (h4 (xs.length * 5 + j) (by simp [valsNd] at hj; omega)).2)
      rw [hs, Nat.zero_add] at hrun
      have hvl : (valsNd x).length = 5 := rfl
      have hthere : ∀ j, j < (valsNd x).length → (w.cell? ⟨g, xs.length * 5 + j, none⟩).isSome = true := fun j hj => (h4 (xs.length * 5 + j) (by omega)).1
      have hkb := World.keptBut_setCells g (may := fun p => p.block = g) (valsNd x) (xs.length * 5) w (fun _ _ => rfl)
      have hout : ∀ (p : Addr), p.off < xs.length * 5 → (w.setCells g (xs.length * 5) (valsNd x)).cell? p = w.cell? p := fun p hp => World.cell?_setCells_out g _ _ w p (fun _ _ => .inl hp)
      have hout2 : ∀ (p : Addr), xs.length * 5 + 5 ≤ p.off → (w.setCells g (xs.length * 5) (valsNd x)).cell? p = w.cell? p := fun p hp => World.cell?_setCells_out g _ _ w p (fun _ _ => .inr (by rw [hvl]; exact hp))
      have hin : ∀ k, k < 5 → (w.setCells g (xs.length * 5) (valsNd x)).cell? ⟨g, xs.length * 5 + k, none⟩ = (valsNd x)[k]? := fun k hk => by
        rw [World.cell?_setCells_in g (valsNd x) (xs.length * 5) w hthere k (by rw [hvl]; exact hk), List.getElem?_eq_getElem]
      have hF : Fr (fun k => Value.ownBlock (.slice (some ⟨g, 0, none⟩) xs.length cap) = some k) w (w.setCells g (xs.length * 5) (valsNd x)) :=
        ⟨World.os_setCells .., run_app.setCells_tape _ _ _ _, World.output_setCells .., hkb.size, fun k hk hne => World.heap_setCells_other _ _ _ _ hk (fun e => hne (by rw [e]; rfl))⟩
      refine ⟨_, _, _, hrun, .inr ⟨g, cap, by rw [hlenx], by rw [hlenx]; exact hfit, h2, Nat.lt_of_lt_of_le hg hkb.size, fun q hq => ?_, fun j hj => ⟨?_, ?_⟩, fun j n => ?_⟩, hF, .inl rfl⟩
      · rw [hlenx] at hq
        rw [hevx]
        by_cases hlo : q < xs.length * 5
        · rw [hout _ hlo, h3 q hlo, List.getElem?_append_left (by rw [evsNd_length]; exact hlo)]
        · obtain ⟨k, rfl⟩ : ∃ k, q = xs.length * 5 + k := ⟨q - xs.length * 5, by omega⟩
          rw [hin k (by omega), List.getElem?_append_right (by rw [evsNd_length]; omega), evsNd_length]
          congr 1; omega
      · by_cases hlo : j < xs.length * 5
        · rw [hout _ hlo]; exact (h4 j hj).1
        · by_cases hhi : j < xs.length * 5 + 5
          · obtain ⟨k, rfl⟩ : ∃ k, j = xs.length * 5 + k := ⟨j - xs.length * 5, by omega⟩
            rw [hin k (by omega), List.getElem?_eq_getElem (by rw [hvl]; omega)]; rfl
          · rw [hout2 ⟨g, j, none⟩ (by show _ ≤ j; omega)]; exact (h4 j hj).1
      · rw [World.frozen?_setCells]; exact (h4 j hj).2
      · by_cases hlo : j < xs.length * 5
        · rw [hout _ hlo]; exact h5 j n
        · by_cases hhi : j < xs.length * 5 + 5
          · obtain ⟨k, rfl⟩ : ∃ k, j = xs.length * 5 + k := ⟨j - xs.length * 5, by omega⟩
            rw [hin k (by omega)]
            intro h
            exact hno8 _ (List.mem_of_getElem? h) n rfl
          · rw [hout2 ⟨g, j, none⟩ (by show _ ≤ j; omega)]; exact h5 j n
    · have hold : (Builtin.firstCells i.size xs.length (.slice (some ⟨g, 0, none⟩) xs.length cap)).run P w.drew = .ok (evsNd xs).toArray w.drew :=
        run_firstCells_some w.drew i.size xs.length ⟨g, 0, none⟩ xs.length cap (evsNd xs) (by rw [evsNd_length, hs]) (fun j u hu => by
          have hj : j < xs.length * 5 := by rw [← evsNd_length]; exact (List.getElem?_eq_some_iff.1 hu).1
          rw [hadd]
          exact (h3 j hj).trans hu)
      exact grow _ _ rfl (by omega) hold
/-- THE WALK's LAW AT AN APPEND OF ONE ENTRY. -/
theorem wpList_appNd {P : Program} {ops : Array Oper} {rest : List Oper} {o : Oper} {a : Act} {Q : Exit → Act → World → Prop} {w : World} (hgd : o.guard = none) (s x : Operand) {t e : TypeId}
    (ho : o.op = .call { callee := .builtin .append, args := #[s, x], argTypes := #[t, t] }) (T : NdT P t e) {v : Value} {xs : List QT.Nd} {y : QT.Nd} {g0 n : Nat} (hn : xs.length = n) (hs : a.eval s = v) (hv : OwnNd w v xs) (hx : a.eval x = .slice (some ⟨g0, 0, none⟩) 1 1)
    (hc : ∀ j u, (valsNd y)[j]? = some u → w.cell? ⟨g0, j, none⟩ = some u) (hroom : n + 1 ≤ 1099511627776)
    (h : ∀ a' c w', OwnNd w' (.slice a' (n + 1) c) (xs ++ [y]) → Fr (fun k => v.ownBlock = some k) w w' → (Value.ownBlock (.slice a' (n + 1) c) = v.ownBlock ∨ ∃ g, a' = some ⟨g, 0, none⟩ ∧ w.heap.size ≤ g) →
      wpList P ops Q rest (a.put o.dst (.slice a' (n + 1) c)) w') : wpList P ops Q (o :: rest) a w := by
  subst hn
  exact wpList_plain hgd fun _ hK => by
    obtain ⟨a', c, w', hr, h2, h3, h4⟩ := run_appNd (P := P) (ty := o.type) T hv hc hroom
    unfold Oper.wp execOp
    simp only [ho, resolve, invoke, builtin, Sem.run_bind, Sem.run_pure, Result.andThen_ok, List.map_toArray, List.map_cons, List.map_nil, hs, hx, hr]
    exact hK _ _ (h a' c w' h2 h3 h4)

def valsUs (x : QT.Us) : List Value := [.string (str x.id), .string (str x.nd), .complex .f64 (FL.fB x.a1) (FL.fB x.a2)]
def evsUs : List QT.Us → List Value
  | [] => []
  | x :: r => valsUs x ++ evsUs r
theorem evsUs_append (a b : List QT.Us) : evsUs (a ++ b) = evsUs a ++ evsUs b := by
  induction a with
  | nil => rfl
  | cons x r ih => simp [evsUs, ih]
theorem evsUs_length (a : List QT.Us) : (evsUs a).length = a.length * 3 := by
  induction a with
  | nil => rfl
  | cons x r ih => simp [evsUs, ih, valsUs]; omega
theorem evsUs_get : ∀ (a : List QT.Us) (i j : Nat) (x : QT.Us), a[i]? = some x → j < 3 → (evsUs a)[i * 3 + j]? = (valsUs x)[j]?
  | [], i, j, x, h, _ => by simp at h
  | y :: r, 0, j, x, h, hj => by
    simp at h
    subst h
    rw [evsUs, Nat.zero_mul, Nat.zero_add, List.getElem?_append_left (by simpa [valsUs] using hj)]
  | y :: r, i + 1, j, x, h, hj => by
    rw [evsUs, List.getElem?_append_right (by simp [valsUs]; omega)]
    rw [show (i + 1) * 3 + j - (valsUs y).length = i * 3 + j from by simp [valsUs]; omega]
    exact evsUs_get r i j x (by simpa using h) hj
theorem evsUs_one (a : List QT.Us) : ∀ u ∈ evsUs a, u.oneCell' = true := by
  induction a with
  | nil => intro u hu; simp [evsUs] at hu
  | cons x r ih =>
    intro u hu
    simp only [evsUs, List.mem_append] at hu
    rcases hu with hu | hu
    · simp only [valsUs, List.mem_cons, List.not_mem_nil, or_false] at hu
      rcases hu with rfl | rfl | rfl <;> rfl
    · exact ih u hu
theorem evsUs_no8 (a : List QT.Us) : ∀ u ∈ evsUs a, ∀ n, u ≠ .int .u8 n := by
  induction a with
  | nil => intro u hu; simp [evsUs] at hu
  | cons x r ih =>
    intro u hu n
    simp only [evsUs, List.mem_append] at hu
    rcases hu with hu | hu
    · simp only [valsUs, List.mem_cons, List.not_mem_nil, or_false] at hu
      rcases hu with rfl | rfl | rfl <;> simp
    · exact ih u hu n
/-- A SLICE OF THEM OF THE CALL's OWN, whose room is there; no cell of its block is a byte. -/
def OwnUs (w : World) (v : Value) (xs : List QT.Us) : Prop :=
  (v = .slice none 0 0 ∧ xs = []) ∨
  ∃ g cap, v = .slice (some ⟨g, 0, none⟩) xs.length cap ∧ xs.length ≤ cap ∧ cap ≤ maxLen ∧ g < w.heap.size ∧ (∀ q, q < xs.length * 3 → w.cell? ⟨g, q, none⟩ = (evsUs xs)[q]?) ∧
    (∀ j, j < cap * 3 → (w.cell? ⟨g, j, none⟩).isSome = true ∧ w.frozen? ⟨g, j, none⟩ = false) ∧ (∀ j n, w.cell? ⟨g, j, none⟩ ≠ some (.int .u8 n))
theorem OwnUs.nil (w : World) : OwnUs w (.slice none 0 0) [] := .inl ⟨rfl, rfl⟩
theorem OwnUs.lt {w : World} {v : Value} {xs : List QT.Us} (h : OwnUs w v xs) : ∀ b, v.ownBlock = some b → b < w.heap.size := by
  rcases h with ⟨rfl, rfl⟩ | ⟨g, cap, rfl, _, _, hg, _⟩
  · intro b hb; simp [Value.ownBlock] at hb
  · intro b hb; simp [Value.ownBlock] at hb; omega
theorem OwnUs.kept {X : Nat → Prop} {w w' : World} {v : Value} {xs : List QT.Us} (h : OwnUs w v xs) (f : Fr X w w') (hv : ∀ b, v.ownBlock = some b → ¬ X b) : OwnUs w' v xs := by
  rcases h with ⟨rfl, rfl⟩ | ⟨g, cap, rfl, h1, h2, hg, h3, h4, h5⟩
  · exact .inl ⟨rfl, rfl⟩
  · have hX : ¬ X g := hv g rfl
    have hk := f.block g hg hX
    refine .inr ⟨g, cap, rfl, h1, h2, f.lt hg, fun q hq => (World.cell?_of_block hk).trans (h3 q hq), fun j hj => ⟨?_, (f.frozen (p := ⟨g, j, none⟩) hg hX).trans (h4 j hj).2⟩, fun j n => ?_⟩
    · rw [World.cell?_of_block (a := ⟨g, j, none⟩) hk]; exact (h4 j hj).1
    · rw [World.cell?_of_block (a := ⟨g, j, none⟩) hk]; exact h5 j n
theorem OwnUs.below {w w' : World} {v : Value} {xs : List QT.Us} (h : OwnUs w v xs) (f : Below w.heap.size w w') : OwnUs w' v xs := h.kept (X := fun _ => False) (Fr.of_below f) (fun _ _ x => x)

/-- THE TYPES' ROWS: t is a slice of e, e is an entry of four cells. -/
structure UsT (P : Program) (t e : TypeId) : Prop where
  sl : P.underlying t = some (.slice e)
  info : (P.info? e).map (fun i => (i.zero, i.size, i.bytes)) = some (some (.agg #[.string .empty, .string .empty, .complex .f64 0 0]), 3, 48)
theorem zero_no8Us (k j : Nat) (u : Value) (h : (Builtin.zeroCells (Value.agg #[.string .empty, .string .empty, .complex .f64 0 0]).cells k)[j]? = some u) : ∀ n, u ≠ .int .u8 n := by
  intro n
  have hc : (Value.agg #[.string .empty, .string .empty, .complex .f64 0 0]).cells = #[.string .empty, .string .empty, .complex .f64 0 0] := by simp [Value.cells]
  rw [hc] at h
  unfold Builtin.zeroCells at h
  simp only [Array.getElem?_map, Option.map_eq_some_iff] at h
  obtain ⟨q, _, rfl⟩ := h
  have h4 : q % 3 = 0 ∨ q % 3 = 1 ∨ q % 3 = 2 := by omega
  have hs : (#[.string .empty, .string .empty, .complex .f64 0 0] : Array Value).size = 3 := rfl
  rw [hs]
  rcases h4 with e | e | e <;> rw [e] <;> simp
/-- APPEND OF ONE ENTRY ONTO A SLICE OF THE CALL's OWN. -/
theorem run_appUs {P : Program} {t e ty : TypeId} (T : UsT P t e) {w : World} {v : Value} {xs : List QT.Us} {x : QT.Us} {g0 : Nat} (hv : OwnUs w v xs)
    (hx : ∀ j u, (valsUs x)[j]? = some u → w.cell? ⟨g0, j, none⟩ = some u) (hroom : xs.length + 1 ≤ 1099511627776) :
    ∃ a c w', (Builtin.append_ #[t, t] ty #[v, .slice (some ⟨g0, 0, none⟩) 1 1]).run P w = .ok (.slice a (xs.length + 1) c) w' ∧ OwnUs w' (.slice a (xs.length + 1) c) (xs ++ [x]) ∧
      Fr (fun k => v.ownBlock = some k) w w' ∧ (Value.ownBlock (.slice a (xs.length + 1) c) = v.ownBlock ∨ ∃ g, a = some ⟨g, 0, none⟩ ∧ w.heap.size ≤ g) := by
  obtain ⟨i, hi, hz, hs, hb⟩ : ∃ i, P.info? e = some i ∧ i.zero = some (.agg #[.string .empty, .string .empty, .complex .f64 0 0]) ∧ i.size = 3 ∧ i.bytes = 48 := by
    have := T.info
    cases h : P.info? e with
    | none => simp [h] at this
    | some i => simp [h] at this; exact ⟨i, rfl, this.1, this.2.1, this.2.2⟩
  have hadd : ∀ g j : Nat, (⟨g, 0, none⟩ : Addr).add j = ⟨g, j, none⟩ := fun g j => by unfold Addr.add; split <;> simp_all
  have hone : ∀ u ∈ (valsUs x), u.oneCell' = true := fun u hu => evsUs_one [x] u (by simpa [evsUs] using hu)
  have hno8 : ∀ u ∈ (valsUs x), ∀ n, u ≠ .int .u8 n := fun u hu => evsUs_no8 [x] u (by simpa [evsUs] using hu)
  have hsrc : Src P i.size t (.slice (some ⟨g0, 0, none⟩) 1 1) 1 (valsUs x) w := by
    rw [hs]
    exact Src.ofSlice w T.sl _ 1 1 (valsUs x) (by simp [valsUs]) (fun j u hu => by rw [hadd]; exact hx j u hu) hone
  have hlenx : (xs ++ [x]).length = xs.length + 1 := by simp
  have hevx : evsUs (xs ++ [x]) = evsUs xs ++ (valsUs x) := by rw [evsUs_append]; simp [evsUs]
  have grow : ∀ (bs : Option Addr) (sc : Nat), v = .slice bs xs.length sc → sc < xs.length + 1 → (Builtin.firstCells i.size xs.length (.slice bs xs.length sc)).run P w.drew = .ok (evsUs xs).toArray w.drew →
      ∃ a c w', (Builtin.append_ #[t, t] ty #[v, .slice (some ⟨g0, 0, none⟩) 1 1]).run P w = .ok (.slice a (xs.length + 1) c) w' ∧ OwnUs w' (.slice a (xs.length + 1) c) (xs ++ [x]) ∧
        Fr (fun k => v.ownBlock = some k) w w' ∧ (Value.ownBlock (.slice a (xs.length + 1) c) = v.ownBlock ∨ ∃ g, a = some ⟨g, 0, none⟩ ∧ w.heap.size ≤ g) := by
    rintro bs sc rfl hg hold
    have hrun := run_append_grow_src (P := P) w t t ty e i _ T.sl hi hz bs xs.length sc (evsUs xs) hold _ 1 (valsUs x) hsrc hg (by omega) (growslice_fits hg (by rw [hb]; omega))
    have hge := grownCap_ge w (xs.length + 1) sc e
    have hcm := grownCap_le_maxLen w (xs.length + 1) sc e (by simp only [maxLen]; omega)
    have hlen : (evsUs xs ++ (valsUs x)).length = (xs.length + 1) * 3 := by rw [List.length_append, evsUs_length]; simp [valsUs]; omega
    have hcell : ∀ j, (w.drew.alloc (.cells ((evsUs xs ++ (valsUs x)).toArray ++ Builtin.zeroCells (Value.agg #[.string .empty, .string .empty, .complex .f64 0 0]).cells (grownCap w (xs.length + 1) sc e - (xs.length + 1))) e)).cell? ⟨w.heap.size, j, none⟩ = ((evsUs xs ++ (valsUs x)).toArray ++ Builtin.zeroCells (Value.agg #[.string .empty, .string .empty, .complex .f64 0 0]).cells (grownCap w (xs.length + 1) sc e - (xs.length + 1)))[j]? := fun j => World.cell?_alloc_new w.drew _ e j
    have hB : Fr (fun k => Value.ownBlock (.slice bs xs.length sc) = some k) w (w.drew.alloc (.cells ((evsUs xs ++ (valsUs x)).toArray ++ Builtin.zeroCells (Value.agg #[.string .empty, .string .empty, .complex .f64 0 0]).cells (grownCap w (xs.length + 1) sc e - (xs.length + 1))) e)) := ((Fr.refl _ w).drew).alloc _
    refine ⟨_, _, _, hrun, .inr ⟨w.heap.size, _, by rw [hlenx], by rw [hlenx]; exact hge, hcm, by simp, fun q hq => ?_, fun j hj => ⟨?_, ?_⟩, fun j n => ?_⟩, hB, .inr ⟨_, rfl, Nat.le_refl _⟩⟩
    · rw [hlenx] at hq
      rw [hcell, hevx, Array.getElem?_append_left (by simp only [List.size_toArray]; omega), List.getElem?_toArray]
    · rw [hcell]
      have hsz : ((evsUs xs ++ (valsUs x)).toArray ++ Builtin.zeroCells (Value.agg #[.string .empty, .string .empty, .complex .f64 0 0]).cells (grownCap w (xs.length + 1) sc e - (xs.length + 1))).size = grownCap w (xs.length + 1) sc e * 3 := by
        rw [Array.size_append, size_zeroCells, List.size_toArray, hlen]
        have : (Value.agg #[.string .empty, .string .empty, .complex .f64 0 0]).cells.size = 3 := by simp [Value.cells]
        rw [this]; omega
      rw [Array.getElem?_eq_getElem (by rw [hsz]; exact hj)]
      rfl
    · exact World.frozen?_alloc_new w.drew _ _ j
    · rw [hcell]
      intro h
      rw [Array.getElem?_append] at h
      split at h
      · rw [List.getElem?_toArray] at h
        have hm := List.mem_of_getElem? h
        rw [List.mem_append] at hm
        rcases hm with hm | hm
        · exact evsUs_no8 xs _ hm n rfl
        · exact hno8 _ hm n rfl
      · exact zero_no8Us _ _ _ h n rfl
  rcases hv with ⟨rfl, rfl⟩ | ⟨g, cap, rfl, h1, h2, hg, h3, h4, h5⟩
  · exact grow none 0 rfl (by simp) (run_firstCells_none w.drew i.size 0 0 0)
  · by_cases hfit : xs.length + 1 ≤ cap
    · have hrun := run_append_room_src (P := P) w t t ty e i T.sl hi g 0 xs.length cap _ 1 (valsUs x) hsrc hfit
        (fun j hj => by rw [hs, Nat.zero_add]; exact (h4 (xs.length * 3 + j) (by simp [valsUs] at hj; omega)).1)
        (fun j hj => by rw [hs, Nat.zero_add]; exact (h4 (xs.length * 3 + j) (by simp [valsUs] at hj; omega)).2)
      rw [hs, Nat.zero_add] at hrun
      have hvl : (valsUs x).length = 3 := rfl
      have hthere : ∀ j, j < (valsUs x).length → (w.cell? ⟨g, xs.length * 3 + j, none⟩).isSome = true := fun j hj => (h4 (xs.length * 3 + j) (by omega)).1
      have hkb := World.keptBut_setCells g (may := fun p => p.block = g) (valsUs x) (xs.length * 3) w (fun _ _ => rfl)
      have hout : ∀ (p : Addr), p.off < xs.length * 3 → (w.setCells g (xs.length * 3) (valsUs x)).cell? p = w.cell? p := fun p hp => World.cell?_setCells_out g _ _ w p (fun _ _ => .inl hp)
      have hout2 : ∀ (p : Addr), xs.length * 3 + 3 ≤ p.off → (w.setCells g (xs.length * 3) (valsUs x)).cell? p = w.cell? p := fun p hp => World.cell?_setCells_out g _ _ w p (fun _ _ => .inr (by rw [hvl]; exact hp))
      have hin : ∀ k, k < 3 → (w.setCells g (xs.length * 3) (valsUs x)).cell? ⟨g, xs.length * 3 + k, none⟩ = (valsUs x)[k]? := fun k hk => by
        rw [World.cell?_setCells_in g (valsUs x) (xs.length * 3) w hthere k (by rw [hvl]; exact hk), List.getElem?_eq_getElem]
      have hF : Fr (fun k => Value.ownBlock (.slice (some ⟨g, 0, none⟩) xs.length cap) = some k) w (w.setCells g (xs.length * 3) (valsUs x)) :=
        ⟨World.os_setCells .., run_app.setCells_tape _ _ _ _, World.output_setCells .., hkb.size, fun k hk hne => World.heap_setCells_other _ _ _ _ hk (fun e => hne (by rw [e]; rfl))⟩
      refine ⟨_, _, _, hrun, .inr ⟨g, cap, by rw [hlenx], by rw [hlenx]; exact hfit, h2, Nat.lt_of_lt_of_le hg hkb.size, fun q hq => ?_, fun j hj => ⟨?_, ?_⟩, fun j n => ?_⟩, hF, .inl rfl⟩
      · rw [hlenx] at hq
        rw [hevx]
        by_cases hlo : q < xs.length * 3
        · rw [hout _ hlo, h3 q hlo, List.getElem?_append_left (by rw [evsUs_length]; exact hlo)]
        · obtain ⟨k, rfl⟩ : ∃ k, q = xs.length * 3 + k := ⟨q - xs.length * 3, by omega⟩
          rw [hin k (by omega), List.getElem?_append_right (by rw [evsUs_length]; omega), evsUs_length]
          congr 1; omega
      · by_cases hlo : j < xs.length * 3
        · rw [hout _ hlo]; exact (h4 j hj).1
        · by_cases hhi : j < xs.length * 3 + 3
          · obtain ⟨k, rfl⟩ : ∃ k, j = xs.length * 3 + k := ⟨j - xs.length * 3, by omega⟩
            rw [hin k (by omega), List.getElem?_eq_getElem (by rw [hvl]; omega)]; rfl
          · rw [hout2 ⟨g, j, none⟩ (by show _ ≤ j; omega)]; exact (h4 j hj).1
      · rw [World.frozen?_setCells]; exact (h4 j hj).2
      · by_cases hlo : j < xs.length * 3
        · rw [hout _ hlo]; exact h5 j n
        · by_cases hhi : j < xs.length * 3 + 3
          · obtain ⟨k, rfl⟩ : ∃ k, j = xs.length * 3 + k := ⟨j - xs.length * 3, by omega⟩
            rw [hin k (by omega)]
            intro h
            exact hno8 _ (List.mem_of_getElem? h) n rfl
          · rw [hout2 ⟨g, j, none⟩ (by show _ ≤ j; omega)]; exact h5 j n
    · have hold : (Builtin.firstCells i.size xs.length (.slice (some ⟨g, 0, none⟩) xs.length cap)).run P w.drew = .ok (evsUs xs).toArray w.drew :=
        run_firstCells_some w.drew i.size xs.length ⟨g, 0, none⟩ xs.length cap (evsUs xs) (by rw [evsUs_length, hs]) (fun j u hu => by
          have hj : j < xs.length * 3 := by rw [← evsUs_length]; exact (List.getElem?_eq_some_iff.1 hu).1
          rw [hadd]
          exact (h3 j hj).trans hu)
      exact grow _ _ rfl (by omega) hold
/-- THE WALK's LAW AT AN APPEND OF ONE ENTRY. -/
theorem wpList_appUs {P : Program} {ops : Array Oper} {rest : List Oper} {o : Oper} {a : Act} {Q : Exit → Act → World → Prop} {w : World} (hgd : o.guard = none) (s x : Operand) {t e : TypeId}
    (ho : o.op = .call { callee := .builtin .append, args := #[s, x], argTypes := #[t, t] }) (T : UsT P t e) {v : Value} {xs : List QT.Us} {y : QT.Us} {g0 n : Nat} (hn : xs.length = n) (hs : a.eval s = v) (hv : OwnUs w v xs) (hx : a.eval x = .slice (some ⟨g0, 0, none⟩) 1 1)
    (hc : ∀ j u, (valsUs y)[j]? = some u → w.cell? ⟨g0, j, none⟩ = some u) (hroom : n + 1 ≤ 1099511627776)
    (h : ∀ a' c w', OwnUs w' (.slice a' (n + 1) c) (xs ++ [y]) → Fr (fun k => v.ownBlock = some k) w w' → (Value.ownBlock (.slice a' (n + 1) c) = v.ownBlock ∨ ∃ g, a' = some ⟨g, 0, none⟩ ∧ w.heap.size ≤ g) →
      wpList P ops Q rest (a.put o.dst (.slice a' (n + 1) c)) w') : wpList P ops Q (o :: rest) a w := by
  subst hn
  exact wpList_plain hgd fun _ hK => by
    obtain ⟨a', c, w', hr, h2, h3, h4⟩ := run_appUs (P := P) (ty := o.type) T hv hc hroom
    unfold Oper.wp execOp
    simp only [ho, resolve, invoke, builtin, Sem.run_bind, Sem.run_pure, Result.andThen_ok, List.map_toArray, List.map_cons, List.map_nil, hs, hx, hr]
    exact hK _ _ (h a' c w' h2 h3 h4)

theorem TNd : NdT Tryz.prog 29 176 := ⟨Tryz.underlying29, by kernel_rfl⟩
theorem TUs : UsT Tryz.prog 30 178 := ⟨Tryz.underlying30, by kernel_rfl⟩
end Go.Proofs.YtkanjdijmdjbaaaGreatDoor
