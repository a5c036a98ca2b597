/-
  Slices of bytes: what append, a slice expression and the conversions to and from a string give, said by lists of bytes.
  Conditions: the types' rows (a slice of bytes; a byte is one cell, one byte); at an append: the new length is at most 2^47.
-/
import Derived.Test.YtkanjdijmdjbaaaGreatDoorBase
import Derived.Deep.AppendSrc
import Derived.Deep.Upon
import Derived.Laws.IdiomStrings
import Derived.Laws.Cover3
namespace Go.Proofs.YtkanjdijmdjbaaaGreatDoor
open Go Go.RowKit

/-- Bytes as values. -/
def bvs (l : List UInt8) : List Value := l.map fun c => Value.int .u8 (c.toNat : Int)
theorem bvs_get (l : List UInt8) (i : Nat) (h : i < l.length) : (bvs l)[i]? = some (.int .u8 (at8 l i)) := by simp [bvs, at8_get l i h, h]
theorem bvs_append (l m : List UInt8) : bvs (l ++ m) = bvs l ++ bvs m := by simp [bvs]
theorem bvs_one (l : List UInt8) : ∀ u ∈ bvs l, u.oneCell' = true := by
  intro u hu
  obtain ⟨c, _, rfl⟩ := List.mem_map.1 hu
  rfl
/-- A string of bytes. -/
def str (l : List UInt8) : ByteArray := ⟨l.toArray⟩
theorem str_list (l : List UInt8) : (str l).data.toList = l := rfl
theorem str_size (l : List UInt8) : (str l).size = l.length := rfl
/-- A SLICE OF THE CALL's OWN: nil, or a row of bytes whose whole room is there and may be written. -/
def OwnB (w : World) (v : Value) (l : List UInt8) : Prop :=
  (v = .slice none 0 0 ∧ l = []) ∨
  ∃ g o cap, v = .slice (some ⟨g, o, none⟩) l.length cap ∧ l.length ≤ cap ∧ cap ≤ maxLen ∧ g < w.heap.size ∧
    (∀ i, i < l.length → w.cell? ⟨g, o + i, none⟩ = some (.int .u8 (at8 l i))) ∧
    ∀ j, j < cap → (w.cell? ⟨g, o + j, none⟩).isSome = true ∧ w.frozen? ⟨g, o + j, none⟩ = false

theorem OwnB.nil (w : World) : OwnB w (.slice none 0 0) [] := .inl ⟨rfl, rfl⟩
theorem OwnB.isB {w : World} {v : Value} {l : List UInt8} (h : OwnB w v l) : IsB w v l := by
  rcases h with ⟨rfl, rfl⟩ | ⟨g, o, cap, rfl, h1, h2, _, h3, _⟩
  · exact IsB.nil w
  · exact ⟨_, cap, rfl, h1, h2, (fun h => by cases h), .inr ⟨g, o, rfl, h3⟩⟩
theorem OwnB.kept {X : Nat → Prop} {w w' : World} {v : Value} {l : List UInt8} (h : OwnB w v l) (f : Fr X w w') (hx : ∀ b, v.ownBlock = some b → ¬ X b) : OwnB w' v l := by
  rcases h with ⟨rfl, rfl⟩ | ⟨g, o, cap, rfl, h1, h2, hg, h3, h4⟩
  · exact .inl ⟨rfl, rfl⟩
  · have hX : ¬ X g := hx g rfl
    refine .inr ⟨g, o, cap, rfl, h1, h2, f.lt hg, fun i hi => f.cell (h3 i hi) hX, fun j hj => ?_⟩
    obtain ⟨h5, h6⟩ := h4 j hj
    obtain ⟨u, hu⟩ := Option.isSome_iff_exists.1 h5
    exact ⟨by rw [f.cell hu hX]; rfl, (f.frozen (p := ⟨g, o + j, none⟩) hg hX).trans h6⟩
theorem OwnB.lt {w : World} {v : Value} {l : List UInt8} (h : OwnB w v l) : ∀ b, v.ownBlock = some b → b < w.heap.size := by
  rcases h with ⟨rfl, rfl⟩ | ⟨g, o, cap, rfl, h1, h2, hg, h3, h4⟩
  · intro b hb; simp [Value.ownBlock] at hb
  · intro b hb; simp [Value.ownBlock] at hb; omega
/-- What is appended: a slice that reads as bytes, or a string. -/
def SrcB (P : Program) (tx : TypeId) (w : World) (x : Value) (ys : List UInt8) : Prop := Src P 1 tx x ys.length (bvs ys) w
theorem srcB_str {P : Program} {tx : TypeId} (w : World) (hk : P.underlying tx = some .string) (s : ByteArray) : SrcB P tx w (.string s) s.data.toList := by
  have := Src.ofString (P := P) w hk s
  rwa [show s.size = s.data.toList.length from (Array.length_toList).symm] at this
theorem srcB_of {P : Program} {tx e : TypeId} {w : World} (hk : P.underlying tx = some (.slice e)) {x : Value} {ys : List UInt8} (h : IsB w x ys) : SrcB P tx w x ys := by
  obtain ⟨a, cap, rfl, h1, h2, h0, h3⟩ := h
  unfold SrcB
  rcases h3 with rfl | ⟨b, o, rfl, hc⟩
  · cases a with
    | none => exact Src.ofNil w hk cap
    | some a => exact Src.ofSlice w hk a 0 cap [] (by simp) (by simp) (by simp)
  · refine Src.ofSlice w hk _ _ cap _ (by simp [bvs]) (fun j u hu => ?_) (bvs_one ys)
    have hj : j < ys.length := by
      rcases Nat.lt_or_ge j ys.length with h | h
      · exact h
      · simp [List.getElem?_eq_none (show (bvs ys).length ≤ j by simpa [bvs] using h)] at hu
    rw [bvs_get ys j hj] at hu
    have hadd : (⟨b, o, none⟩ : Addr).add j = ⟨b, o + j, none⟩ := by unfold Addr.add; split <;> simp_all
    rw [hadd, hc j hj]
    exact hu

/-- THE TYPES' ROWS: t is a slice of e, e is a byte. -/
structure ByteT (P : Program) (t e : TypeId) : Prop where
  sl : P.underlying t = some (.slice e)
  el : P.underlying e = some (.int .u8)
  info : (P.info? e).map (fun i => (i.zero, i.size, i.bytes)) = some (some (.int .u8 0), 1, 1)

/-- APPEND ONTO A SLICE OF THE CALL's OWN. -/
theorem run_app {P : Program} {t e tx ty : TypeId} (T : ByteT P t e) {w : World} {v x : Value} {l ys : List UInt8} (hv : OwnB w v l) (hx : SrcB P tx w x ys) (hroom : l.length + ys.length ≤ roomB) :
    ∃ a c w', (Builtin.append_ #[t, tx] ty #[v, x]).run P w = .ok (.slice a (l.length + ys.length) c) w' ∧ OwnB w' (.slice a (l.length + ys.length) c) (l ++ ys) ∧
      Fr (fun k => v.ownBlock = some k) w w' ∧ (Value.ownBlock (.slice a (l.length + ys.length) c) = v.ownBlock ∨ ∃ g, a = some ⟨g, 0, none⟩ ∧ w.heap.size ≤ g) := by
  have hlen : l.length + ys.length ≤ 140737488355328 := hroom
  obtain ⟨i, hi, hz, hs, hb⟩ : ∃ i, P.info? e = some i ∧ i.zero = some (.int .u8 0) ∧ i.size = 1 ∧ i.bytes = 1 := by
    have := T.info
    cases h : P.info? e with
    | none => simp [h] at this
    | some i => simp [h] at this; exact ⟨i, rfl, this.1, this.2.1, this.2.2⟩
  have hx' : Src P i.size tx x ys.length (bvs ys) w := by rw [hs]; exact hx
  -- the way that makes a new row
  have grow : ∀ (bs : Option Addr) (sc : Nat), v = .slice bs l.length sc → sc < l.length + ys.length → (Builtin.firstCells i.size l.length (.slice bs l.length sc)).run P w.drew = .ok (bvs l).toArray w.drew →
      ∃ a c w', (Builtin.append_ #[t, tx] ty #[v, x]).run P w = .ok (.slice a (l.length + ys.length) c) w' ∧ OwnB w' (.slice a (l.length + ys.length) c) (l ++ ys) ∧
        Fr (fun k => v.ownBlock = some k) w w' ∧ (Value.ownBlock (.slice a (l.length + ys.length) c) = v.ownBlock ∨ ∃ g, a = some ⟨g, 0, none⟩ ∧ w.heap.size ≤ g) := by
    rintro bs sc rfl hg hold
    have hrun := run_append_grow_src (P := P) w t tx ty e i _ T.sl hi hz bs l.length sc (bvs l) hold x ys.length (bvs ys) hx' hg (by omega) (growslice_fits hg (by rw [hb]; omega))
    have hge := grownCap_ge w (l.length + ys.length) sc e
    have hcm := grownCap_le_maxLen w (l.length + ys.length) sc e (by simp only [maxLen]; omega)
    refine ⟨_, _, _, hrun, .inr ⟨w.heap.size, 0, _, by simp, by simpa using hge, hcm, by simp, fun j hj => ?_, fun j hj => ⟨?_, ?_⟩⟩, ((Fr.refl _ w).drew).alloc _, .inr ⟨_, rfl, Nat.le_refl _⟩⟩
    · have e1 := World.cell?_alloc_new w.drew (((bvs l ++ bvs ys).toArray ++ Builtin.zeroCells (Value.int .u8 0).cells (grownCap w (l.length + ys.length) sc e - (l.length + ys.length)))) e j
      rw [Nat.zero_add]
      refine Eq.trans e1 ?_
      rw [Array.getElem?_append_left (by simp [bvs] at hj ⊢; omega), List.getElem?_toArray, ← bvs_append, bvs_get _ _ hj]
    · have e1 := World.cell?_alloc_new w.drew (((bvs l ++ bvs ys).toArray ++ Builtin.zeroCells (Value.int .u8 0).cells (grownCap w (l.length + ys.length) sc e - (l.length + ys.length)))) e j
      rw [Nat.zero_add]
      have hsz : ((bvs l ++ bvs ys).toArray ++ Builtin.zeroCells (Value.int .u8 0).cells (grownCap w (l.length + ys.length) sc e - (l.length + ys.length))).size = grownCap w (l.length + ys.length) sc e := by
        simp [size_zeroCells, bvs, Value.cells]; omega
      refine Eq.trans (congrArg Option.isSome e1) ?_
      rw [Array.getElem?_eq_getElem (by rw [hsz]; exact hj)]
      rfl
    · rw [Nat.zero_add]; exact World.frozen?_alloc_new w.drew _ _ j
  rcases hv with ⟨rfl, rfl⟩ | ⟨g, o, cap, rfl, h1, h2, hg, h3, h4⟩
  · by_cases hn : ys = []
    · subst hn
      refine ⟨none, 0, w, ?_, .inl ⟨rfl, rfl⟩, Fr.refl _ _, .inl rfl⟩
      exact run_append_nothing (P := P) w t tx ty e i T.sl hi none 0 0 (Nat.le_refl _) x hx'
    · have : 0 < ys.length := List.length_pos_iff.2 hn
      exact grow none 0 rfl (by simp; omega) (run_firstCells_none w.drew i.size 0 0 0)
  · by_cases hfit : l.length + ys.length ≤ cap
    · have hrun := run_append_room_src (P := P) w t tx ty e i T.sl hi g o l.length cap x ys.length (bvs ys) hx' hfit
        (fun j hj => by rw [hs, Nat.mul_one, Nat.add_assoc]; exact (h4 (l.length + j) (by simp [bvs] at hj; omega)).1)
        (fun j hj => by rw [hs, Nat.mul_one, Nat.add_assoc]; exact (h4 (l.length + j) (by simp [bvs] at hj; omega)).2)
      rw [hs, Nat.mul_one] at hrun
      have hthere : ∀ j, j < (bvs ys).length → (w.cell? ⟨g, o + l.length + j, none⟩).isSome = true := fun j hj => by rw [Nat.add_assoc]; exact (h4 (l.length + j) (by simp [bvs] at hj; omega)).1
      have hkb := World.keptBut_setCells g (may := fun p => p.block = g) (bvs ys) (o + l.length) w (fun _ _ => rfl)
      have hout : ∀ (x : Addr), x.off < o + l.length → (w.setCells g (o + l.length) (bvs ys)).cell? x = w.cell? x := fun x hx => World.cell?_setCells_out g _ _ w x (fun _ _ => .inl hx)
      refine ⟨_, _, _, hrun, .inr ⟨g, o, cap, by simp, by simpa using hfit, h2, Nat.lt_of_lt_of_le hg hkb.size, fun j hj => ?_, fun j hj => ⟨?_, ?_⟩⟩, ⟨World.os_setCells .., ?_, World.output_setCells .., hkb.size, fun k hk hne => World.heap_setCells_other _ _ _ _ hk (fun e => hne (by rw [e]; rfl))⟩, .inl rfl⟩
      · by_cases hlo : j < l.length
        · rw [hout _ (by simp; omega), h3 j hlo, at8_append_left _ _ _ hlo]
        · obtain ⟨k, rfl⟩ : ∃ k, j = l.length + k := ⟨j - l.length, by omega⟩
          have hk : k < (bvs ys).length := by simp [bvs] at hj ⊢; omega
          have := World.cell?_setCells_in g (bvs ys) (o + l.length) w hthere k hk
          rw [Nat.add_assoc] at this
          rw [this, at8_append_right]
          have hk' : k < ys.length := by simpa [bvs] using hk
          rw [← List.getElem?_eq_getElem hk, bvs_get ys k hk']
      · by_cases hlo : j < l.length
        · rw [hout _ (by simp; omega)]; exact (h4 j hj).1
        · by_cases hhi : j < l.length + ys.length
          · obtain ⟨k, rfl⟩ : ∃ k, j = l.length + k := ⟨j - l.length, by omega⟩
            have hk : k < (bvs ys).length := by simp [bvs]; omega
            have := World.cell?_setCells_in g (bvs ys) (o + l.length) w hthere k hk
            rw [Nat.add_assoc] at this
            rw [this]; rfl
          · rw [World.cell?_setCells_out g _ _ w ⟨g, o + j, none⟩ (fun _ _ => .inr (by simp [bvs]; omega))]; exact (h4 j hj).1
      · rw [World.frozen?_setCells]; exact (h4 j hj).2
      · exact setCells_tape _ _ _ _
    · have hold : (Builtin.firstCells i.size l.length (.slice (some ⟨g, o, none⟩) l.length cap)).run P w.drew = .ok (bvs l).toArray w.drew :=
        run_firstCells_some w.drew i.size l.length ⟨g, o, none⟩ l.length cap (bvs l) (by simp [bvs, hs]) (fun j u hu => by
          have hj : j < l.length := by
            rcases Nat.lt_or_ge j l.length with h | h
            · exact h
            · simp [List.getElem?_eq_none (show (bvs l).length ≤ j by simpa [bvs] using h)] at hu
          rw [bvs_get l j hj] at hu
          have hadd : (⟨g, o, none⟩ : Addr).add j = ⟨g, o + j, none⟩ := by unfold Addr.add; split <;> simp_all
          rw [hadd]
          exact (h3 j hj).trans hu)
      exact grow _ _ rfl (by omega) hold
where
  setCells_tape (w : World) (g : Nat) : ∀ (vs : List Value) (o : Nat), (w.setCells g o vs).tape = w.tape := by
    intro vs
    induction vs generalizing w with
    | nil => intro o; rfl
    | cons v r ih => intro o; rw [World.setCells, ih]; rfl

theorem OwnB.alloc {w : World} {v : Value} {l : List UInt8} (h : OwnB w v l) (o : Obj) : OwnB (w.alloc o) v l := h.kept (X := fun _ => False) ((Fr.refl _ w).alloc o) (fun _ _ x => x)
theorem IsB.alloc {w : World} {v : Value} {l : List UInt8} (h : IsB w v l) (o : Obj) : IsB (w.alloc o) v l := h.kept (X := fun _ => False) ((Fr.refl _ w).alloc o) (fun _ _ x => x)
/-- One byte in a block of its own. -/
theorem isB_one (w : World) (c : UInt8) (e : TypeId) : IsB (w.alloc (.cells #[.int .u8 (c.toNat : Int)] e)) (.slice (some ⟨w.heap.size, 0, none⟩) 1 1) [c] :=
  ⟨_, 1, rfl, by simp, by simp [maxLen], (fun h => by cases h), .inr ⟨w.heap.size, 0, rfl, fun i hi => by
    obtain rfl : i = 0 := by simpa using hi
    simp [at8]⟩⟩

/-- THE WALK's LAW AT AN APPEND. -/
theorem wpList_app {P : Program} {ops : Array Oper} {rest : List Oper} {o : Oper} {a : Act} {Q : Exit → Act → World → Prop} {w : World} (hgd : o.guard = none) (s x : Operand) {t tx e : TypeId}
    (ho : o.op = .call { callee := .builtin .append, args := #[s, x], argTypes := #[t, tx] }) (T : ByteT P t e) {v xv : Value} {l ys : List UInt8} (hs : a.eval s = v) (hv : OwnB w v l) (hx : a.eval x = xv) (hsrc : SrcB P tx w xv ys)
    (hroom : l.length + ys.length ≤ roomB)
    (h : ∀ a' c w', OwnB w' (.slice a' (l.length + ys.length) c) (l ++ ys) → Fr (fun k => v.ownBlock = some k) w w' → (Value.ownBlock (.slice a' (l.length + ys.length) c) = v.ownBlock ∨ ∃ g, a' = some ⟨g, 0, none⟩ ∧ w.heap.size ≤ g) →
      wpList P ops Q rest (a.put o.dst (.slice a' (l.length + ys.length) c)) w') : wpList P ops Q (o :: rest) a w :=
  wpList_plain hgd fun _ hK => by
    obtain ⟨a', c, w', hr, h2, h3, h4⟩ := run_app (P := P) (ty := o.type) T hv hsrc hroom
    unfold Oper.wp execOp
    simp only [ho, resolve, invoke, builtin, Sem.run_bind, Sem.run_pure, Result.andThen_ok, List.map_toArray, List.map_cons, List.map_nil, hs, hx, hr]
    exact hK _ _ (h a' c w' h2 h3 h4)

theorem ByteT.parts {P : Program} {t e : TypeId} (T : ByteT P t e) : ∃ i, P.info? e = some i ∧ i.zero = some (.int .u8 0) ∧ i.size = 1 ∧ i.bytes = 1 := by
  have := T.info
  cases h : P.info? e with
  | none => simp [h] at this
  | some i => simp [h] at this; exact ⟨i, rfl, this.1, this.2.1, this.2.2⟩

/-- What a slice expression on bytes gives. -/
def cutAt (a : Option Addr) (lo cap : Nat) : Option Addr := if cap = lo then a else a.map (·.add lo)
theorem isB_cut {w : World} {a : Option Addr} {n cap : Nat} {l : List UInt8} (h : IsB w (.slice a n cap) l) (lo hi : Nat) (hlo : lo ≤ hi) (hhi : hi ≤ l.length) :
    IsB w (.slice (cutAt a lo cap) (hi - lo) (cap - lo)) ((l.take hi).drop lo) ∧ ∀ b, Value.ownBlock (.slice (cutAt a lo cap) (hi - lo) (cap - lo)) = some b → Value.ownBlock (.slice a n cap) = some b := by
  obtain ⟨a', cap', he, h1, h2, h0, h3⟩ := h
  simp only [Value.slice.injEq] at he
  obtain ⟨rfl, rfl, rfl⟩ := he
  have hlen : ((l.take hi).drop lo).length = hi - lo := by simp; omega
  refine ⟨⟨_, _, by rw [hlen], by omega, by omega, ?_, ?_⟩, ?_⟩
  · unfold cutAt
    intro hn
    split at hn
    · have := h0 hn; omega
    · cases a with
      | none => have := h0 rfl; omega
      | some a => simp at hn
  · by_cases hz : hi - lo = 0
    · exact .inl (List.eq_nil_of_length_eq_zero (by omega))
    · rcases h3 with rfl | ⟨b, o, rfl, hc⟩
      · simp at hhi; omega
      · refine .inr ⟨b, o + lo, ?_, fun i hi' => ?_⟩
        · unfold cutAt
          rw [if_neg (by omega)]
          simp [Addr.add]
        · rw [hlen] at hi'
          rw [at8_drop, at8_take _ _ _ (by omega), Nat.add_assoc]
          exact hc (lo + i) (by omega)
  · intro b hb
    unfold cutAt at hb
    split at hb
    · cases a with
      | none => simp [Value.ownBlock] at hb
      | some a => simpa [Value.ownBlock] using hb
    · cases a with
      | none => simp [Value.ownBlock] at hb
      | some a =>
        obtain ⟨ab, ao, asp⟩ := a
        simp only [Value.ownBlock, Option.map_some] at hb ⊢
        rw [← hb]
        unfold Addr.add
        split <;> rfl
theorem run_sliceAt_lh {P : Program} {t e : TypeId} (T : ByteT P t e) (a : Option Addr) (n cap : Nat) (lo hi : Int) (h0 : 0 ≤ lo) (h1 : lo ≤ hi) (h2 : hi ≤ cap) (w : World) :
    (Instr.sliceAt t (.slice a n cap) (some (.int .i64 lo)) (some (.int .i64 hi)) none).run P w = .ok (.slice (cutAt a lo.toNat cap) (hi.toNat - lo.toNat) (cap - lo.toNat)) w := by
  obtain ⟨i, hi', hz, hs, hb⟩ := T.parts
  have he : P.elem t = e := by simp [Program.elem, T.sl]
  have ht : P.underlying t = some (.slice (P.elem t)) := by rw [he]; exact T.sl
  rw [run_sliceAt_slice w t _ _ _ _ ht, run_slice_lh w t a n cap ht .i64 .i64 lo hi h0 h1 h2, he]
  simp [sizeOf, typeInfo, hi', hs, sliced, cutAt]
theorem run_sliceAt_l {P : Program} {t e : TypeId} (T : ByteT P t e) (a : Option Addr) (n cap : Nat) (lo : Int) (h0 : 0 ≤ lo) (h1 : lo ≤ n) (w : World) :
    (Instr.sliceAt t (.slice a n cap) (some (.int .i64 lo)) none none).run P w = .ok (.slice (cutAt a lo.toNat cap) (n - lo.toNat) (cap - lo.toNat)) w := by
  obtain ⟨i, hi', hz, hs, hb⟩ := T.parts
  have he : P.elem t = e := by simp [Program.elem, T.sl]
  have ht : P.underlying t = some (.slice (P.elem t)) := by rw [he]; exact T.sl
  rw [run_sliceAt_slice w t _ _ _ _ ht, run_slice_l w t a n cap ht .i64 lo h0 h1, he]
  simp [sizeOf, typeInfo, hi', hs, sliced, cutAt]
theorem run_eql_sl_nil {P : Program} (w : World) (t e : TypeId) (a : Option Addr) (l c : Nat) (h : P.underlying t = some (.slice e)) : (binOp .eql t (.slice a l c) (.slice none 0 0)).run P w = .ok (.bool a.isNone) w := by
  simp only [binOp]
  simp [run_equal_slice_nil w t e a l c h]

/-- string(b). -/
theorem run_toStr {P : Program} {t e u : TypeId} (T : ByteT P t e) (hu : P.underlying u = some .string) {w : World} {v : Value} {l : List UInt8} (h : IsB w v l) :
    (convert t u v).run P w = .ok (.string (str l)) w := by
  obtain ⟨a, cap, rfl, h1, h2, h0, h3⟩ := h
  rcases h3 with rfl | ⟨b, o, rfl, hc⟩
  · cases a with
    | none => exact run_convert_bytes_nil w t e T.sl T.el 0 cap u hu
    | some a => exact run_convert_bytes_back w t u e a cap [] T.sl T.el hu (fun j hj => by simp at hj)
  · refine run_convert_bytes_back w t u e _ cap l T.sl T.el hu (fun j hj => ?_)
    have hadd : (⟨b, o, none⟩ : Addr).add j = ⟨b, o + j, none⟩ := by unfold Addr.add; split <;> simp_all
    rw [hadd, hc j hj, at8_get l j hj]

/-- []byte(s). -/
theorem run_toBytes {P : Program} {t e u : TypeId} (T : ByteT P t e) (hu : P.underlying u = some .string) (w : World) (s : ByteArray) (hs : s.size ≤ maxLen) :
    ∃ c w', (convert u t (.string s)).run P w = .ok (.slice (some ⟨w.heap.size, 0, none⟩) s.size c) w' ∧ IsB w' (.slice (some ⟨w.heap.size, 0, none⟩) s.size c) s.data.toList ∧ Below w.heap.size w w' ∧ w.heap.size < w'.heap.size ∧ c ≤ maxLen ∧ s.size ≤ c ∧
      ∀ i, i < s.size → w'.cell? ⟨w.heap.size, 0 + i, none⟩ = some (.int .u8 (at8 s.data.toList i)) := by
  have hcells : ∀ i, i < s.size → (w.drew.alloc (.cells (bytesRow s (grownCap w s.size 0 e)) e ((bytesRow s (grownCap w s.size 0 e)).size, (bytesRow s (grownCap w s.size 0 e)).size + 1))).cell? ⟨w.heap.size, 0 + i, none⟩ = some (.int .u8 (at8 s.data.toList i)) := fun i hi => by
    rw [Nat.zero_add]
    refine Eq.trans (World.cell?_alloc_mark w.drew _ e _ i) ?_
    rw [bytesRow_at s _ i hi, at8_get _ _ (by simpa using hi)]
    simp
  refine ⟨_, _, run_bytes_of_string w u t e s hu T.sl T.el, ⟨_, _, by rw [Array.length_toList]; rfl, ?_, grownCap_le_maxLen w s.size 0 e hs, (fun h => by cases h), .inr ⟨_, 0, rfl, fun i hi => hcells i (by simpa using hi)⟩⟩, ((Below.refl _ w).drew).alloc (Nat.le_refl _) _, by simp, grownCap_le_maxLen w s.size 0 e hs, grownCap_ge w s.size 0 e, hcells⟩
  rw [Array.length_toList]; exact grownCap_ge w s.size 0 e
end Go.Proofs.YtkanjdijmdjbaaaGreatDoor
