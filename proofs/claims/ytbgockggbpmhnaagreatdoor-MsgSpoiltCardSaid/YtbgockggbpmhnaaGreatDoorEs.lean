/-
  Slices of entries: what they read as, and what append onto one of the call's own gives.
  Conditions: at an append: the new length is at most 2^40.
-/
import Derived.Test.YtbgockggbpmhnaaGreatDoorSeal2
import Derived.Test.YtbgockggbpmhnaaGreatDoorWr2
namespace Go.Proofs.YtbgockggbpmhnaaGreatDoor
open Go Go.RowKit

/-- An entry as it lies in memory: its numbers, the slice of its bytes, the bytes. -/
structure RE where
  i : Int
  t : Int
  k : Int
  a : Option Addr
  n : Nat
  c : Nat
  d : List UInt8
def RE.ent (x : RE) : PK.Ent := ⟨x.i, x.t, x.k, x.d⟩
def RE.vals (x : RE) : List Value := [.int .i64 x.i, .int .i64 x.t, .int .i64 x.k, .slice x.a x.n x.c]
structure RE.Fit (w : World) (x : RE) : Prop where
  len : x.d.length = x.n
  bytes : IsB w (.slice x.a x.n x.c) x.d
theorem RE.Fit.below {w w' : World} {x : RE} (h : x.Fit w) (b : Below w.heap.size w w') : x.Fit w' := ⟨h.len, h.bytes.below b⟩
def evs : List RE → List Value
  | [] => []
  | x :: r => x.vals ++ evs r
theorem evs_append (a b : List RE) : evs (a ++ b) = evs a ++ evs b := by
  induction a with
  | nil => rfl
  | cons x r ih => simp [evs, ih]
theorem evs_length (a : List RE) : (evs a).length = a.length * 4 := by
  induction a with
  | nil => rfl
  | cons x r ih => simp [evs, ih, RE.vals]; omega
theorem evs_get : ∀ (a : List RE) (i j : Nat) (x : RE), a[i]? = some x → j < 4 → (evs a)[i * 4 + j]? = x.vals[j]?
  | [], i, j, x, h, _ => by simp at h
  | y :: r, 0, j, x, h, hj => by
    simp at h
    subst h
    rw [evs, Nat.zero_mul, Nat.zero_add, List.getElem?_append_left (by simpa [RE.vals] using hj)]
  | y :: r, i + 1, j, x, h, hj => by
    rw [evs, List.getElem?_append_right (by simp [RE.vals]; omega)]
    rw [show (i + 1) * 4 + j - (RE.vals y).length = i * 4 + j from by simp [RE.vals]; omega]
    exact evs_get r i j x (by simpa using h) hj
theorem evs_one (a : List RE) : ∀ u ∈ evs a, u.oneCell' = true := by
  induction a with
  | nil => intro u hu; simp [evs] at hu
  | cons x r ih =>
    intro u hu
    simp only [evs, List.mem_append] at hu
    rcases hu with hu | hu
    · simp only [RE.vals, List.mem_cons, List.not_mem_nil, or_false] at hu
      rcases hu with rfl | rfl | rfl | rfl <;> rfl
    · exact ih u hu
theorem evs_no8 (a : List RE) : ∀ u ∈ evs a, ∀ n, u ≠ .int .u8 n := by
  induction a with
  | nil => intro u hu; simp [evs] at hu
  | cons x r ih =>
    intro u hu n
    simp only [evs, List.mem_append] at hu
    rcases hu with hu | hu
    · simp only [RE.vals, List.mem_cons, List.not_mem_nil, or_false] at hu
      rcases hu with rfl | rfl | rfl | rfl <;> simp
    · exact ih u hu n
/-- The slice value v reads as the entries xs. -/
def EsS (w : World) (v : Value) (xs : List RE) : Prop :=
  ∃ a cap, v = .slice a xs.length cap ∧ xs.length ≤ cap ∧ cap ≤ maxLen ∧
    (xs = [] ∨ ∃ b o, a = some ⟨b, o, none⟩ ∧ ∀ i x, xs[i]? = some x → w.cell? ⟨b, o + i * 4, none⟩ = some (.int .i64 x.i) ∧ w.cell? ⟨b, o + i * 4 + 1, none⟩ = some (.int .i64 x.t) ∧ w.cell? ⟨b, o + i * 4 + 2, none⟩ = some (.int .i64 x.k) ∧ w.cell? ⟨b, o + i * 4 + 3, none⟩ = some (.slice x.a x.n x.c)) ∧
    ∀ x ∈ xs, x.Fit w
theorem EsS.below {w w' : World} {v : Value} {xs : List RE} (h : EsS w v xs) (f : Below w.heap.size w w') : EsS w' v xs := by
  obtain ⟨a, cap, rfl, h1, h2, h3, h4⟩ := h
  refine ⟨a, cap, rfl, h1, h2, ?_, fun x hx => (h4 x hx).below f⟩
  rcases h3 with h3 | ⟨b, o, rfl, hc⟩
  · exact .inl h3
  · refine .inr ⟨b, o, rfl, fun i x hx => ?_⟩
    obtain ⟨c0, c1, c2, c3⟩ := hc i x hx
    have hk := f.block b (World.block_lt_of_cell? _ _ c0)
    exact ⟨(World.cell?_of_block hk).trans c0, (World.cell?_of_block hk).trans c1, (World.cell?_of_block hk).trans c2, (World.cell?_of_block hk).trans c3⟩
theorem EsS.at {w : World} {a : Option Addr} {n c : Nat} {xs : List RE} (h : EsS w (.slice a n c) xs) (i : Nat) (x : RE) (hx : xs[i]? = some x) :
    (∃ b o, a = some ⟨b, o, none⟩ ∧ w.cell? ⟨b, o + i * 4, none⟩ = some (.int .i64 x.i) ∧ w.cell? ⟨b, o + i * 4 + 1, none⟩ = some (.int .i64 x.t) ∧ w.cell? ⟨b, o + i * 4 + 2, none⟩ = some (.int .i64 x.k) ∧ w.cell? ⟨b, o + i * 4 + 3, none⟩ = some (.slice x.a x.n x.c)) ∧ x.Fit w := by
  obtain ⟨a', cap, he, _, _, h3, h4⟩ := h
  simp only [Value.slice.injEq] at he
  obtain ⟨rfl, _, rfl⟩ := he
  refine ⟨?_, h4 x (List.mem_of_getElem? hx)⟩
  rcases h3 with rfl | ⟨b, o, rfl, hc⟩
  · simp at hx
  · exact ⟨b, o, rfl, hc i x hx⟩
theorem EsS.len {w : World} {a : Option Addr} {n c : Nat} {xs : List RE} (h : EsS w (.slice a n c) xs) : xs.length = n ∧ n ≤ c ∧ c ≤ maxLen := by
  obtain ⟨a', cap, he, h1, h2, _⟩ := h
  simp only [Value.slice.injEq] at he
  obtain ⟨rfl, rfl, rfl⟩ := he
  exact ⟨rfl, h1, h2⟩
theorem EsS.nil (w : World) : EsS w (.slice none 0 0) [] := ⟨none, 0, rfl, by simp, by simp [maxLen], .inl rfl, fun x hx => by simp at hx⟩

/-- A SLICE OF ENTRIES OF THE CALL's OWN, whose room is there; no cell of its block is a byte. -/
def OwnE (w : World) (v : Value) (xs : List RE) : Prop :=
  (v = .slice none 0 0 ∧ xs = []) ∨
  ∃ g cap, v = .slice (some ⟨g, 0, none⟩) xs.length cap ∧ xs.length ≤ cap ∧ cap ≤ maxLen ∧ g < w.heap.size ∧ (∀ q, q < xs.length * 4 → w.cell? ⟨g, q, none⟩ = (evs xs)[q]?) ∧
    (∀ j, j < cap * 4 → (w.cell? ⟨g, j, none⟩).isSome = true ∧ w.frozen? ⟨g, j, none⟩ = false) ∧ (∀ j n, w.cell? ⟨g, j, none⟩ ≠ some (.int .u8 n)) ∧ ∀ x ∈ xs, x.Fit w
theorem OwnE.nil (w : World) : OwnE w (.slice none 0 0) [] := .inl ⟨rfl, rfl⟩
theorem OwnE.esS {w : World} {v : Value} {xs : List RE} (h : OwnE w v xs) : EsS w v xs := by
  rcases h with ⟨rfl, rfl⟩ | ⟨g, cap, rfl, h1, h2, _, h3, _, _, h4⟩
  · exact EsS.nil w
  · refine ⟨_, cap, rfl, h1, h2, .inr ⟨g, 0, rfl, fun i x hx => ?_⟩, h4⟩
    have hi : i < xs.length := (List.getElem?_eq_some_iff.1 hx).1
    have key : ∀ j, j < 4 → w.cell? ⟨g, 0 + i * 4 + j, none⟩ = x.vals[j]? := fun j hj => by
      rw [Nat.zero_add, h3 _ (by omega)]
      exact evs_get xs i j x hx hj
    exact ⟨key 0 (by omega), key 1 (by omega), key 2 (by omega), key 3 (by omega)⟩
theorem OwnE.lt {w : World} {v : Value} {xs : List RE} (h : OwnE w v xs) : ∀ b, v.ownBlock = some b → b < w.heap.size := by
  rcases h with ⟨rfl, rfl⟩ | ⟨g, cap, rfl, _, _, hg, _⟩
  · intro b hb; simp [Value.ownBlock] at hb
  · intro b hb; simp [Value.ownBlock] at hb; omega
theorem IsB.kept8 {X : Nat → Prop} {w w' : World} {v : Value} {l : List UInt8} (h : IsB w v l) (f : Fr X w w') (hx : ∀ k, X k → ∀ j n, w.cell? ⟨k, j, none⟩ ≠ some (.int .u8 n)) : IsB w' v l := by
  obtain ⟨a, cap, rfl, h1, h2, h0, h3⟩ := h
  refine ⟨a, cap, rfl, h1, h2, h0, ?_⟩
  rcases h3 with h3 | ⟨b, o, rfl, hc⟩
  · exact .inl h3
  · exact .inr ⟨b, o, rfl, fun i hi => f.cell (hc i hi) (fun hX => hx b hX _ _ (hc i hi))⟩
theorem RE.Fit.kept8 {X : Nat → Prop} {w w' : World} {x : RE} (h : x.Fit w) (f : Fr X w w') (hx : ∀ k, X k → ∀ j n, w.cell? ⟨k, j, none⟩ ≠ some (.int .u8 n)) : x.Fit w' := ⟨h.len, h.bytes.kept8 f hx⟩
theorem OwnE.kept {X : Nat → Prop} {w w' : World} {v : Value} {xs : List RE} (h : OwnE w v xs) (f : Fr X w w') (hx : ∀ k, X k → ∀ j n, w.cell? ⟨k, j, none⟩ ≠ some (.int .u8 n)) (hv : ∀ b, v.ownBlock = some b → ¬ X b) : OwnE w' v xs := by
  rcases h with ⟨rfl, rfl⟩ | ⟨g, cap, rfl, h1, h2, hg, h3, h4, h5, h6⟩
  · exact .inl ⟨rfl, rfl⟩
  · have hX : ¬ X g := hv g rfl
    have hk := f.block g hg hX
    refine .inr ⟨g, cap, rfl, h1, h2, f.lt hg, fun q hq => (World.cell?_of_block hk).trans (h3 q hq), fun j hj => ⟨?_, (f.frozen (p := ⟨g, j, none⟩) hg hX).trans (h4 j hj).2⟩, fun j n => ?_, fun x hx' => (h6 x hx').kept8 f hx⟩
    · rw [World.cell?_of_block (a := ⟨g, j, none⟩) hk]; exact (h4 j hj).1
    · rw [World.cell?_of_block (a := ⟨g, j, none⟩) hk]; exact h5 j n
theorem OwnE.below {w w' : World} {v : Value} {xs : List RE} (h : OwnE w v xs) (f : Below w.heap.size w w') : OwnE w' v xs := h.kept (X := fun _ => False) (Fr.of_below f) (fun _ x => x.elim) (fun _ _ x => x)

/-- THE TYPES' ROWS: t is a slice of e, e is an entry of four cells. -/
structure EntT (P : Program) (t e : TypeId) : Prop where
  sl : P.underlying t = some (.slice e)
  info : (P.info? e).map (fun i => (i.zero, i.size, i.bytes)) = some (some (.agg #[.int .i64 0, .int .i64 0, .int .i64 0, .slice none 0 0]), 4, 48)
theorem zero_no8 (k j : Nat) (u : Value) (h : (Builtin.zeroCells (Value.agg #[.int .i64 0, .int .i64 0, .int .i64 0, .slice none 0 0]).cells k)[j]? = some u) : ∀ n, u ≠ .int .u8 n := by
  intro n
  have hc : (Value.agg #[.int .i64 0, .int .i64 0, .int .i64 0, .slice none 0 0]).cells = #[.int .i64 0, .int .i64 0, .int .i64 0, .slice none 0 0] := by simp [Value.cells]
  rw [hc] at h
  unfold Builtin.zeroCells at h
  simp only [Array.getElem?_map, Option.map_eq_some_iff] at h
  obtain ⟨q, _, rfl⟩ := h
  have h4 : q % 4 = 0 ∨ q % 4 = 1 ∨ q % 4 = 2 ∨ q % 4 = 3 := by omega
  have hs : (#[.int .i64 0, .int .i64 0, .int .i64 0, .slice none 0 0] : Array Value).size = 4 := rfl
  rw [hs]
  rcases h4 with e | e | e | e <;> rw [e] <;> simp
/-- APPEND OF ONE ENTRY ONTO A SLICE OF THE CALL's OWN. -/
theorem run_appE {P : Program} {t e ty : TypeId} (T : EntT P t e) {w : World} {v : Value} {xs : List RE} {x : RE} {g0 : Nat} (hv : OwnE w v xs)
    (hx : ∀ j u, x.vals[j]? = some u → w.cell? ⟨g0, j, none⟩ = some u) (hf : x.Fit w) (hroom : xs.length + 1 ≤ 1099511627776) :
    ∃ a c w', (Builtin.append_ #[t, t] ty #[v, .slice (some ⟨g0, 0, none⟩) 1 1]).run P w = .ok (.slice a (xs.length + 1) c) w' ∧ OwnE w' (.slice a (xs.length + 1) c) (xs ++ [x]) ∧
      Fr (fun k => v.ownBlock = some k) w w' ∧ (Value.ownBlock (.slice a (xs.length + 1) c) = v.ownBlock ∨ ∃ g, a = some ⟨g, 0, none⟩ ∧ w.heap.size ≤ g) := by
  obtain ⟨i, hi, hz, hs, hb⟩ : ∃ i, P.info? e = some i ∧ i.zero = some (.agg #[.int .i64 0, .int .i64 0, .int .i64 0, .slice none 0 0]) ∧ i.size = 4 ∧ i.bytes = 48 := by
    have := T.info
    cases h : P.info? e with
    | none => simp [h] at this
    | some i => simp [h] at this; exact ⟨i, rfl, this.1, this.2.1, this.2.2⟩
  have hadd : ∀ g j : Nat, (⟨g, 0, none⟩ : Addr).add j = ⟨g, j, none⟩ := fun g j => by unfold Addr.add; split <;> simp_all
  have hone : ∀ u ∈ x.vals, u.oneCell' = true := fun u hu => evs_one [x] u (by simpa [evs] using hu)
  have hno8 : ∀ u ∈ x.vals, ∀ n, u ≠ .int .u8 n := fun u hu => evs_no8 [x] u (by simpa [evs] using hu)
  have hsrc : Src P i.size t (.slice (some ⟨g0, 0, none⟩) 1 1) 1 x.vals w := by
    rw [hs]
    exact Src.ofSlice w T.sl _ 1 1 x.vals (by simp [RE.vals]) (fun j u hu => by rw [hadd]; exact hx j u hu) hone
  have hlenx : (xs ++ [x]).length = xs.length + 1 := by simp
  have hevx : evs (xs ++ [x]) = evs xs ++ x.vals := by rw [evs_append]; simp [evs]
  have grow : ∀ (bs : Option Addr) (sc : Nat), v = .slice bs xs.length sc → sc < xs.length + 1 → (Builtin.firstCells i.size xs.length (.slice bs xs.length sc)).run P w.drew = .ok (evs xs).toArray w.drew → (∀ x ∈ xs, x.Fit w) →
      ∃ a c w', (Builtin.append_ #[t, t] ty #[v, .slice (some ⟨g0, 0, none⟩) 1 1]).run P w = .ok (.slice a (xs.length + 1) c) w' ∧ OwnE w' (.slice a (xs.length + 1) c) (xs ++ [x]) ∧
        Fr (fun k => v.ownBlock = some k) w w' ∧ (Value.ownBlock (.slice a (xs.length + 1) c) = v.ownBlock ∨ ∃ g, a = some ⟨g, 0, none⟩ ∧ w.heap.size ≤ g) := by
    rintro bs sc rfl hg hold hfit
    have hrun := run_append_grow_src (P := P) w t t ty e i _ T.sl hi hz bs xs.length sc (evs xs) hold _ 1 x.vals hsrc hg (by omega) (growslice_fits hg (by rw [hb]; omega))
    have hge := grownCap_ge w (xs.length + 1) sc e
    have hcm := grownCap_le_maxLen w (xs.length + 1) sc e (by simp only [maxLen]; omega)
    have hlen : (evs xs ++ x.vals).length = (xs.length + 1) * 4 := by rw [List.length_append, evs_length]; simp [RE.vals]; omega
    have hcell : ∀ j, (w.drew.alloc (.cells ((evs xs ++ x.vals).toArray ++ Builtin.zeroCells (Value.agg #[.int .i64 0, .int .i64 0, .int .i64 0, .slice none 0 0]).cells (grownCap w (xs.length + 1) sc e - (xs.length + 1))) e)).cell? ⟨w.heap.size, j, none⟩ = ((evs xs ++ x.vals).toArray ++ Builtin.zeroCells (Value.agg #[.int .i64 0, .int .i64 0, .int .i64 0, .slice none 0 0]).cells (grownCap w (xs.length + 1) sc e - (xs.length + 1)))[j]? := fun j => World.cell?_alloc_new w.drew _ e j
    have hB : Fr (fun k => Value.ownBlock (.slice bs xs.length sc) = some k) w (w.drew.alloc (.cells ((evs xs ++ x.vals).toArray ++ Builtin.zeroCells (Value.agg #[.int .i64 0, .int .i64 0, .int .i64 0, .slice none 0 0]).cells (grownCap w (xs.length + 1) sc e - (xs.length + 1))) e)) := ((Fr.refl _ w).drew).alloc _
    have hBB : Fr (fun _ => False) w (w.drew.alloc (.cells ((evs xs ++ x.vals).toArray ++ Builtin.zeroCells (Value.agg #[.int .i64 0, .int .i64 0, .int .i64 0, .slice none 0 0]).cells (grownCap w (xs.length + 1) sc e - (xs.length + 1))) e)) := ((Fr.refl _ w).drew).alloc _
    refine ⟨_, _, _, hrun, .inr ⟨w.heap.size, _, by rw [hlenx], by rw [hlenx]; exact hge, hcm, by simp, fun q hq => ?_, fun j hj => ⟨?_, ?_⟩, fun j n => ?_, fun y hy => ?_⟩, hB, .inr ⟨_, rfl, Nat.le_refl _⟩⟩
    · rw [hlenx] at hq
      rw [hcell, hevx, Array.getElem?_append_left (by simp only [List.size_toArray]; omega), List.getElem?_toArray]
    · rw [hcell]
      have hsz : ((evs xs ++ x.vals).toArray ++ Builtin.zeroCells (Value.agg #[.int .i64 0, .int .i64 0, .int .i64 0, .slice none 0 0]).cells (grownCap w (xs.length + 1) sc e - (xs.length + 1))).size = grownCap w (xs.length + 1) sc e * 4 := by
        rw [Array.size_append, size_zeroCells, List.size_toArray, hlen]
        have : (Value.agg #[.int .i64 0, .int .i64 0, .int .i64 0, .slice none 0 0]).cells.size = 4 := by simp [Value.cells]
        rw [this]; omega
      rw [Array.getElem?_eq_getElem (by rw [hsz]; exact hj)]
      rfl
    · exact World.frozen?_alloc_new w.drew _ _ j
    · rw [hcell]
      intro h
      rw [Array.getElem?_append] at h
      split at h
      · rw [List.getElem?_toArray] at h
        have hm := List.mem_of_getElem? h
        rw [List.mem_append] at hm
        rcases hm with hm | hm
        · exact evs_no8 xs _ hm n rfl
        · exact hno8 _ hm n rfl
      · exact zero_no8 _ _ _ h n rfl
    · rcases List.mem_append.1 hy with hy | hy
      · exact (hfit y hy).kept8 hBB (fun _ x => x.elim)
      · rw [List.mem_singleton.1 hy]; exact hf.kept8 hBB (fun _ x => x.elim)
  rcases hv with ⟨rfl, rfl⟩ | ⟨g, cap, rfl, h1, h2, hg, h3, h4, h5, h6⟩
  · exact grow none 0 rfl (by simp) (run_firstCells_none w.drew i.size 0 0 0) (fun x hx => by simp at hx)
  · by_cases hfit : xs.length + 1 ≤ cap
    · have hrun := run_append_room_src (P := P) w t t ty e i T.sl hi g 0 xs.length cap _ 1 x.vals hsrc hfit
        (fun j hj => by rw [hs, Nat.zero_add]; exact (h4 (xs.length * 4 + j) (by simp [RE.vals] at hj; omega)).1)
        (fun j hj => by rw [hs, Nat.zero_add]; exact (h4 (xs.length * 4 + j) (by simp [RE.vals] at hj; omega)).2)
      rw [hs, Nat.zero_add] at hrun
      have hvl : x.vals.length = 4 := rfl
      have hthere : ∀ j, j < x.vals.length → (w.cell? ⟨g, xs.length * 4 + j, none⟩).isSome = true := fun j hj => (h4 (xs.length * 4 + j) (by omega)).1
      have hkb := World.keptBut_setCells g (may := fun p => p.block = g) x.vals (xs.length * 4) w (fun _ _ => rfl)
      have hout : ∀ (p : Addr), p.off < xs.length * 4 → (w.setCells g (xs.length * 4) x.vals).cell? p = w.cell? p := fun p hp => World.cell?_setCells_out g _ _ w p (fun _ _ => .inl hp)
      have hout2 : ∀ (p : Addr), xs.length * 4 + 4 ≤ p.off → (w.setCells g (xs.length * 4) x.vals).cell? p = w.cell? p := fun p hp => World.cell?_setCells_out g _ _ w p (fun _ _ => .inr (by rw [hvl]; exact hp))
      have hin : ∀ k, k < 4 → (w.setCells g (xs.length * 4) x.vals).cell? ⟨g, xs.length * 4 + k, none⟩ = x.vals[k]? := fun k hk => by
        rw [World.cell?_setCells_in g x.vals (xs.length * 4) w hthere k (by rw [hvl]; exact hk), List.getElem?_eq_getElem]
      have hF : Fr (fun k => Value.ownBlock (.slice (some ⟨g, 0, none⟩) xs.length cap) = some k) w (w.setCells g (xs.length * 4) x.vals) :=
        ⟨World.os_setCells .., run_app.setCells_tape _ _ _ _, World.output_setCells .., hkb.size, fun k hk hne => World.heap_setCells_other _ _ _ _ hk (fun e => hne (by rw [e]; rfl))⟩
      have h8 : ∀ k, Value.ownBlock (.slice (some ⟨g, 0, none⟩) xs.length cap) = some k → ∀ j n, w.cell? ⟨k, j, none⟩ ≠ some (.int .u8 n) := fun k hk => by
        simp [Value.ownBlock] at hk; subst hk; exact h5
      refine ⟨_, _, _, hrun, .inr ⟨g, cap, by rw [hlenx], by rw [hlenx]; exact hfit, h2, Nat.lt_of_lt_of_le hg hkb.size, fun q hq => ?_, fun j hj => ⟨?_, ?_⟩, fun j n => ?_, fun y hy => ?_⟩, hF, .inl rfl⟩
      · rw [hlenx] at hq
        rw [hevx]
        by_cases hlo : q < xs.length * 4
        · rw [hout _ hlo, h3 q hlo, List.getElem?_append_left (by rw [evs_length]; exact hlo)]
        · obtain ⟨k, rfl⟩ : ∃ k, q = xs.length * 4 + k := ⟨q - xs.length * 4, by omega⟩
          rw [hin k (by omega), List.getElem?_append_right (by rw [evs_length]; omega), evs_length]
          congr 1; omega
      · by_cases hlo : j < xs.length * 4
        · rw [hout _ hlo]; exact (h4 j hj).1
        · by_cases hhi : j < xs.length * 4 + 4
          · obtain ⟨k, rfl⟩ : ∃ k, j = xs.length * 4 + k := ⟨j - xs.length * 4, by omega⟩
            rw [hin k (by omega), List.getElem?_eq_getElem (by rw [hvl]; omega)]; rfl
          · rw [hout2 ⟨g, j, none⟩ (by show _ ≤ j; omega)]; exact (h4 j hj).1
      · rw [World.frozen?_setCells]; exact (h4 j hj).2
      · by_cases hlo : j < xs.length * 4
        · rw [hout _ hlo]; exact h5 j n
        · by_cases hhi : j < xs.length * 4 + 4
          · obtain ⟨k, rfl⟩ : ∃ k, j = xs.length * 4 + k := ⟨j - xs.length * 4, by omega⟩
            rw [hin k (by omega)]
            intro h
            exact hno8 _ (List.mem_of_getElem? h) n rfl
          · rw [hout2 ⟨g, j, none⟩ (by show _ ≤ j; omega)]; exact h5 j n
      · rcases List.mem_append.1 hy with hy | hy
        · exact (h6 y hy).kept8 hF h8
        · rw [List.mem_singleton.1 hy]; exact hf.kept8 hF h8
    · have hold : (Builtin.firstCells i.size xs.length (.slice (some ⟨g, 0, none⟩) xs.length cap)).run P w.drew = .ok (evs xs).toArray w.drew :=
        run_firstCells_some w.drew i.size xs.length ⟨g, 0, none⟩ xs.length cap (evs xs) (by rw [evs_length, hs]) (fun j u hu => by
          have hj : j < xs.length * 4 := by rw [← evs_length]; exact (List.getElem?_eq_some_iff.1 hu).1
          rw [hadd]
          exact (h3 j hj).trans hu)
      exact grow _ _ rfl (by omega) hold h6
/-- THE WALK's LAW AT AN APPEND OF ONE ENTRY. -/
theorem wpList_appE {P : Program} {ops : Array Oper} {rest : List Oper} {o : Oper} {a : Act} {Q : Exit → Act → World → Prop} {w : World} (hgd : o.guard = none) (s x : Operand) {t e : TypeId}
    (ho : o.op = .call { callee := .builtin .append, args := #[s, x], argTypes := #[t, t] }) (T : EntT P t e) {v : Value} {xs : List RE} {y : RE} {g0 n : Nat} (hn : xs.length = n) (hs : a.eval s = v) (hv : OwnE w v xs) (hx : a.eval x = .slice (some ⟨g0, 0, none⟩) 1 1)
    (hc : ∀ j u, y.vals[j]? = some u → w.cell? ⟨g0, j, none⟩ = some u) (hf : y.Fit w) (hroom : n + 1 ≤ 1099511627776)
    (h : ∀ a' c w', OwnE w' (.slice a' (n + 1) c) (xs ++ [y]) → Fr (fun k => v.ownBlock = some k) w w' → (Value.ownBlock (.slice a' (n + 1) c) = v.ownBlock ∨ ∃ g, a' = some ⟨g, 0, none⟩ ∧ w.heap.size ≤ g) →
      wpList P ops Q rest (a.put o.dst (.slice a' (n + 1) c)) w') : wpList P ops Q (o :: rest) a w := by
  subst hn
  exact wpList_plain hgd fun _ hK => by
    obtain ⟨a', c, w', hr, h2, h3, h4⟩ := run_appE (P := P) (ty := o.type) T hv hc hf hroom
    unfold Oper.wp execOp
    simp only [ho, resolve, invoke, builtin, Sem.run_bind, Sem.run_pure, Result.andThen_ok, List.map_toArray, List.map_cons, List.map_nil, hs, hx, hr]
    exact hK _ _ (h a' c w' h2 h3 h4)
/-- APPEND OF BYTES AS ONE STEP OF A REGION THAT DRAWS. -/
theorem step_appN {P : Program} {ops : Array Oper} {o : Oper} {a : Act} {w : World} {K : Act → World → Prop} {Q : Exit → Act → World → Prop} {E : Prop}
    (hg : o.guard = none) (s x : Operand) {t tx e : TypeId} (hop : o.op = Op.call { callee := Callee.builtin Builtin.append, args := #[s, x], argTypes := #[t, tx] }) (T : ByteT P t e)
    (v xv : Value) {l ys : List UInt8} {n m : Nat} (hn : l.length = n) (hm : ys.length = m) (hs : a.eval s = v) (hv : OwnB w v l) (hx : a.eval x = xv) (hsrc : SrcB P tx w xv ys) (hroom : n + m ≤ roomB)
    (h : ∀ a' c w', OwnB w' (.slice a' (n + m) c) (l ++ ys) → Fr (fun k => v.ownBlock = some k) w w' → (Value.ownBlock (.slice a' (n + m) c) = v.ownBlock ∨ ∃ g, a' = some ⟨g, 0, none⟩ ∧ w.heap.size ≤ g) → K (a.put o.dst (.slice a' (n + m) c)) w') :
    if Region.wanted o (yielded ops a.tmps) = true then Oper.wp P o a w K Q else E := by
  subst hn hm
  have hw : Region.wanted o (yielded ops a.tmps) = true := by simp [Region.wanted, hg]
  rw [if_pos hw]
  obtain ⟨a', c, w', hr, h2, h3, h4⟩ := run_app (P := P) (ty := o.type) T hv hsrc hroom
  unfold Oper.wp execOp
  simp only [hop, resolve, invoke, builtin, Sem.run_bind, Sem.run_pure, Result.andThen_ok, List.map_toArray, List.map_cons, List.map_nil, hs, hx, hr]
  exact h a' c w' h2 h3 h4
theorem T28 : EntT Tryz.prog 28 57 := ⟨Tryz.underlying28, by kernel_rfl⟩
theorem T23 : EntT Tryz.prog 23 71 := ⟨Tryz.underlying23, by kernel_rfl⟩
end Go.Proofs.YtbgockggbpmhnaaGreatDoor
