/-
  pack.Writer's methods, by contracts: what is laid behind; only the writer's own blocks (from a base on) turn.
  Conditions: the listed variables read as listed ('Env'); what is laid is at most 2^47 bytes long.
  pack.Writer's Text and Bytes, by contracts.
  Conditions: the listed variables read as listed ('Env'); what is laid is at most 2^47 bytes long.
-/
import Derived.Test.YtflghelhdalhiaaGreatDoorG4
namespace Go.Proofs.YtflghelhdalhiaaGreatDoor
open Go Go.RowKit

/-- A WRITER in block M that has laid l; all its memory lies from block B on. -/
structure Wr (w : World) (B M : Nat) (l : List UInt8) : Prop where
  glob : glob ≤ B
  base : B ≤ M
  ex : ∃ a c, w.heap[M]? = some (.cells #[.slice a l.length c] 124) ∧ OwnB w (.slice a l.length c) l ∧ ∀ b, Value.ownBlock (.slice a l.length c) = some b → B ≤ b ∧ b ≠ M
theorem Wr.lt {w : World} {B M : Nat} {l : List UInt8} (h : Wr w B M l) : M < w.heap.size := by
  obtain ⟨_, _, a, c, hh, _⟩ := h
  exact (Array.getElem?_eq_some_iff.1 hh).1
theorem cells1 {w : World} {N : Nat} {x : Value} {t : TypeId} (h : w.heap[N]? = some (.cells #[x] t)) : w.cell? ⟨N, 0, none⟩ = some x ∧ w.frozen? ⟨N, 0, none⟩ = false := by
  simp [World.cell?, World.frozen?, h]
theorem Wr.below {w w' : World} {B M : Nat} {l : List UInt8} (h : Wr w B M l) (f : Below w.heap.size w w') : Wr w' B M l := by
  obtain ⟨hg, hb, a, c, hh, ho, hx⟩ := h
  exact ⟨hg, hb, a, c, (f.block M (Array.getElem?_eq_some_iff.1 hh).1).trans hh, ho.kept (X := fun _ => False) (Fr.of_below f) (fun _ _ x => x), hx⟩
theorem Env.wr {w w' : World} {B : Nat} (h : Env w) (f : Below B w w') (hB : Go.Proofs.YtflghelhdalhiaaGreatDoor.glob ≤ B) : Env w' :=
  h.kept (X := fun k => B ≤ k) ⟨f.os, f.tape, f.output, f.size, fun k _ hx => f.block k (by omega)⟩ (fun k hk hx => by omega)

/-- New. -/
theorem new_any (w : World) (hE : Env w) :
    Calls Tryz.prog 30 #[] w fun e w' => e = .returned (.pointer (some ⟨w.heap.size, 0, none⟩)) ∧ Wr w' w.heap.size w.heap.size [] ∧ Below w.heap.size w w' := by
  have Hg : Hid (glob ≤ w.heap.size) := hE.big
  clear hE
  go_enter Tryz.func30, Tryz.ntmps30
  go_wp2
  go_ret
  exact ⟨rfl, ⟨Hg.out, Nat.le_refl _, none, 0, heap_alloc_new w _, OwnB.nil _, by simp [Value.ownBlock]⟩, (Below.refl _ _).alloc (Nat.le_refl _) _⟩

/-- A store of what was laid. -/
theorem Wr.store {w : World} {B M : Nat} {l : List UInt8} {a : Option Addr} {n c : Nat} {x : Value} (hg : Go.Proofs.YtflghelhdalhiaaGreatDoor.glob ≤ B) (hb : B ≤ M) (hh : w.heap[M]? = some (.cells #[x] 124)) (hn : l.length = n) (ho : OwnB w (.slice a n c) l)
    (hx : ∀ b, Value.ownBlock (.slice a n c) = some b → B ≤ b ∧ b ≠ M) : Wr (w.setCell ⟨M, 0, none⟩ (.slice a n c)) B M l := by
  subst hn
  refine ⟨hg, hb, a, c, ?_, ho.kept (X := fun k => k = M) (Fr.setCell (X := fun k => k = M) (Fr.refl _ w) (fun _ => rfl) _) (fun b hb' e => (hx b hb').2 e), hx⟩
  simp only [World.setCell, Array.getElem?_modify, if_true, hh, Option.map_some]
  simp

/-- The law at an append, with the lengths in the walk's form. -/
theorem wpList_appN {P : Program} {ops : Array Oper} {rest : List Oper} {o : Oper} {a : Act} {Q : Exit → Act → World → Prop} {w : World} (hgd : o.guard = none) (s x : Operand) {t tx e : TypeId}
    (ho : o.op = .call { callee := .builtin .append, args := #[s, x], argTypes := #[t, tx] }) (T : ByteT P t e) {v xv : Value} {l ys : List UInt8} {n m : Nat} (hn : l.length = n) (hm : ys.length = m) (hs : a.eval s = v) (hv : OwnB w v l) (hx : a.eval x = xv) (hsrc : SrcB P tx w xv ys)
    (hroom : n + m ≤ roomB)
    (h : ∀ a' c w', OwnB w' (.slice a' (n + m) c) (l ++ ys) → Fr (fun k => v.ownBlock = some k) w w' → (Value.ownBlock (.slice a' (n + m) c) = v.ownBlock ∨ ∃ g, a' = some ⟨g, 0, none⟩ ∧ w.heap.size ≤ g) →
      wpList P ops Q rest (a.put o.dst (.slice a' (n + m) c)) w') : wpList P ops Q (o :: rest) a w := by
  subst hn hm
  exact wpList_app hgd s x ho T hs hv hx hsrc hroom h
theorem own_next {B M : Nat} {w0 : World} {v : Value} {a' : Option Addr} {n c : Nat} (h : ∀ b, v.ownBlock = some b → B ≤ b ∧ b ≠ M) (hB : B ≤ M) (hM : M < w0.heap.size)
    (b1 : Value.ownBlock (.slice a' n c) = v.ownBlock ∨ ∃ g, a' = some ⟨g, 0, none⟩ ∧ w0.heap.size ≤ g) : ∀ b, Value.ownBlock (.slice a' n c) = some b → B ≤ b ∧ b ≠ M := by
  intro b hb
  rcases b1 with b1 | ⟨g, rfl, hg⟩
  · exact h b (b1 ▸ hb)
  · simp [Value.ownBlock] at hb
    omega
/-- Blocks from B on, but M. -/
def offM (B M k : Nat) : Prop := B ≤ k ∧ k ≠ M
theorem Fr.belowB {B M : Nat} {w w' : World} (h : Fr (offM B M) w w') (hB : B ≤ w.heap.size) : Below B w w' :=
  ⟨h.os, h.tape, h.output, Nat.le_trans hB (Nat.le_trans hB h.size |> fun _ => h.size) |> fun _ => by have := h.size; omega, fun k hk => h.block k (by omega) (fun x => by have := x.1; omega)⟩

set_option maxHeartbeats 1000000 in
/-- lay. -/
theorem lay_any (B M : Nat) (l : List UInt8) (lc ec : UInt8) (x y : Int) (d : ByteArray) (w : World) (h : Wr w B M l) (hx : x = (lc.toNat : Int)) (hy : y = (ec.toNat : Int)) (hroom : l.length + d.size + 2 ≤ roomB) :
    Calls Tryz.prog 64 #[.pointer (some ⟨M, 0, none⟩), .int .u8 x, .string d, .int .u8 y] w fun e w' => e = .returned (.pointer (some ⟨M, 0, none⟩)) ∧ Wr w' B M (l ++ (lc :: d.data.toList ++ [ec])) ∧ Below B w w' := by
  subst hx hy
  have hds : d.data.toList.length = d.size := Array.length_toList
  have hM := h.lt
  obtain ⟨hg, hb, a, c, hh, ho, hxb⟩ := h
  obtain ⟨c0, f0⟩ := cells1 hh
  have O0 : Hid (OwnB (w.alloc (.cells #[.int .u8 (lc.toNat : Int)] 5)) (.slice a l.length c) l) := ho.alloc _
  have S0 : Hid (SrcB Tryz.prog 22 (w.alloc (.cells #[.int .u8 (lc.toNat : Int)] 5)) (.slice (some ⟨w.heap.size, 0, none⟩) 1 1) [lc]) := srcB_of Tryz.underlying22 (isB_one w lc _)
  have Hroom := Lib.hid hroom
  have Hds := Lib.hid hds
  have Hh := Lib.hid hh
  have Hxb := Lib.hid hxb
  have Hlt := Lib.hid ho.lt
  have Hg := Lib.hid hg
  have Hb := Lib.hid hb
  have HM := Lib.hid hM
  clear hroom hds hh ho hxb hg hb hM
  go_enter Tryz.func64, Tryz.ntmps64
  go_wp2_with (first
    | (at_builtin; refine wpList_appN rfl (.tmp 15) (.tmp 17) rfl T22 (n := l.length) (m := 1) rfl rfl rfl O0.out rfl S0.out (by have := Hroom.out; omega) ?_; intro a1 c1 w1 o1 g1 b1; have O1 := Lib.hid o1; have G1 := Lib.hid g1; have B1 := Lib.hid b1; clear o1 g1 b1)
    | (at_builtin; refine wpList_appN rfl (.tmp 18) (.tmp 19) rfl T22 (n := l.length + 1) (m := d.size) (by simp) Hds.out rfl O1.out rfl (srcB_str w1 U9 d) (by have := Hroom.out; omega) ?_; intro a2 c2 w2 o2 g2 b2; have O2 := Lib.hid o2; have G2 := Lib.hid g2; have B2 := Lib.hid b2; clear o2 g2 b2)
    | (at_builtin; refine wpList_appN rfl (.tmp 20) (.tmp 22) rfl T22 (n := l.length + 1 + d.size) (m := 1) (by have := Hds.out; rw [List.length_append, List.length_append, this]; simp) rfl rfl (O2.out.alloc _) rfl (srcB_of Tryz.underlying22 (isB_one w2 ec _)) (by have := Hroom.out; omega) ?_; intro a3 c3 w3 o3 g3 b3; have O3 := Lib.hid o3
       have X1 := Lib.hid (own_next Hxb.out Hb.out (Nat.lt_of_lt_of_le HM.out (by simp)) B1.out)
       have F1 : Hid (Fr (offM B M) w w1) := (((Fr.refl (offM B M) w).alloc _).trans (G1.out.mono (fun k _ hk => Hxb.out k hk)))
       have X2 := Lib.hid (own_next X1.out Hb.out (F1.out.lt HM.out) B2.out)
       have F2 : Hid (Fr (offM B M) w w2) := F1.out.trans (G2.out.mono (fun k _ hk => X1.out k hk))
       have X3 := Lib.hid (own_next X2.out Hb.out (Nat.lt_of_lt_of_le (F2.out.lt HM.out) (by simp)) b3)
       have F3 : Hid (Fr (offM B M) w w3) := (F2.out.alloc _).trans (g3.mono (fun k _ hk => X2.out k hk))
       have h3 := F3.out.heap Hh.out (fun x => x.2 rfl)
       obtain ⟨e3, f3⟩ := cells1 h3
       have H3 := Lib.hid h3
       clear o3 g3 b3 h3))
  have FB : Below B w w3 := F3.out.belowB (Nat.le_of_lt (Nat.lt_of_le_of_lt Hb.out HM.out))
  go_ret
  exact ⟨rfl, by have e : l ++ (lc :: d.data.toList ++ [ec]) = l ++ [lc] ++ d.data.toList ++ [ec] := by simp
                 have := Wr.store Hg.out Hb.out H3.out (n := l.length + 1 + d.size + 1) (by have := Hds.out; rw [List.length_append, List.length_append, List.length_append, this]; simp) O3.out X3.out
                 rw [← e] at this
                 simpa using this, FB.setCell Hb.out _⟩

/-- Uint. -/
theorem wuint_any (B M : Nat) (l : List UInt8) (u : Nat) (w : World) (h : Wr w B M l) (hu : u < 18446744073709551616) (hroom : l.length + (Lib.decDigits u).length + 2 ≤ roomB) (hE : Env w) :
    Calls Tryz.prog 31 #[.pointer (some ⟨M, 0, none⟩), .int .u64 u] w fun e w' => e = .returned (.pointer (some ⟨M, 0, none⟩)) ∧ Wr w' B M (l ++ (110 :: Lib.decDigits u ++ [59])) ∧ Below B w w' := by
  have H1 := Lib.hid (formatUint_any u w hu hE)
  have hb : B ≤ w.heap.size := Nat.le_of_lt (Nat.lt_of_le_of_lt h.base h.lt)
  have H2 : Hid (∀ w1, Below w.heap.size w w1 → Calls Tryz.prog 64 #[.pointer (some ⟨M, 0, none⟩), .int .u8 110, .string (str (Lib.decDigits u)), .int .u8 59] w1 fun e w' => e = .returned (.pointer (some ⟨M, 0, none⟩)) ∧ Wr w' B M (l ++ (110 :: Lib.decDigits u ++ [59])) ∧ Below B w w') := by
    intro w1 b1
    refine (lay_any B M l 110 59 110 59 (str (Lib.decDigits u)) w1 (h.below b1) rfl rfl (by rw [str_size]; exact hroom)).mono ?_
    rintro e w2 ⟨rfl, h2, b2⟩
    exact ⟨rfl, h2, (b1.mono hb).trans b2⟩
  clear hu hroom hE h hb
  generalize Lib.decDigits u = ds at *
  go_enter Tryz.func31, Tryz.ntmps31
  go_wp2_with fail
  refine H1.out.mono ?_
  rintro v w1 ⟨rfl, b1⟩
  have H3 := Lib.hid (H2.out w1 b1)
  clear H1 H2 b1
  go_wp2_with fail
  refine H3.out.mono ?_
  rintro v w2 ⟨rfl, h2⟩
  have H4 := Lib.hid h2
  clear H3 h2
  go_wp2
  go_ret
  exact ⟨rfl, by simpa using H4.out⟩


/-- Done: a copy of what was laid. -/
theorem wdone_any (B M : Nat) (l : List UInt8) (w : World) (h : Wr w B M l) (hroom : l.length ≤ roomB) :
    Calls Tryz.prog 36 #[.pointer (some ⟨M, 0, none⟩)] w fun e w' => (∃ a c, e = .returned (.slice a l.length c) ∧ OwnB w' (.slice a l.length c) l ∧ ∀ b, Value.ownBlock (.slice a l.length c) = some b → w.heap.size ≤ b) ∧ Below w.heap.size w w' := by
  obtain ⟨_, _, a, c, hh, ho, _⟩ := h
  obtain ⟨c0, f0⟩ := cells1 hh
  have H1 := Lib.hid (clone_any (.slice a l.length c) l w ho.isB hroom)
  clear hh ho hroom
  go_enter Tryz.func36, Tryz.ntmps36
  go_wp2_with fail
  refine H1.out.mono ?_
  rintro v w1 ⟨⟨a1, c1, rfl, h2⟩, b1⟩
  have H3 := Lib.hid h2
  have B1 := Lib.hid b1
  clear H1 h2 b1
  go_wp2
  go_ret
  exact ⟨⟨a1, c1, rfl, H3.out⟩, B1.out⟩

end Go.Proofs.YtflghelhdalhiaaGreatDoor

namespace Go.Proofs.YtflghelhdalhiaaGreatDoor
open Go Go.RowKit

theorem IsB.own_lt {w : World} {a : Option Addr} {n c : Nat} {l : List UInt8} (h : IsB w (.slice a n c) l) (hl : l ≠ []) : ∀ k, Value.ownBlock (.slice a n c) = some k → k < w.heap.size := by
  obtain ⟨a', cap', he, h1, h2, h0, h3⟩ := h
  simp only [Value.slice.injEq] at he
  obtain ⟨rfl, rfl, rfl⟩ := he
  rcases h3 with h3 | ⟨b, o, rfl, hc⟩
  · exact absurd h3 hl
  · intro k hk
    simp [Value.ownBlock] at hk
    subst hk
    exact World.block_lt_of_cell? w _ (hc 0 (List.length_pos_iff.2 hl))

/-- After an append onto what was laid. -/
theorem Wr.app {w : World} {B M : Nat} {l : List UInt8} (h : Wr w B M l) : ∃ a c, w.cell? ⟨M, 0, none⟩ = some (.slice a l.length c) ∧ w.frozen? ⟨M, 0, none⟩ = false ∧ OwnB w (.slice a l.length c) l ∧
    ∀ (ys : List UInt8) (n m : Nat) (a1 : Option Addr) (c1 : Nat) (w1 : World), l.length = n → ys.length = m → OwnB w1 (.slice a1 (n + m) c1) (l ++ ys) → Fr (fun k => (Value.slice a l.length c).ownBlock = some k) w w1 →
      (Value.ownBlock (.slice a1 (n + m) c1) = (Value.slice a l.length c).ownBlock ∨ ∃ g, a1 = some ⟨g, 0, none⟩ ∧ w.heap.size ≤ g) →
      (w1.cell? ⟨M, 0, none⟩ = some (.slice a l.length c) ∧ w1.frozen? ⟨M, 0, none⟩ = false) ∧ Wr (w1.setCell ⟨M, 0, none⟩ (.slice a1 (n + m) c1)) B M (l ++ ys) ∧ Below B w (w1.setCell ⟨M, 0, none⟩ (.slice a1 (n + m) c1)) := by
  have hM := h.lt
  obtain ⟨hg, hb, a, c, hh, ho, hxb⟩ := h
  obtain ⟨c0, f0⟩ := cells1 hh
  refine ⟨a, c, c0, f0, ho, fun ys n m a1 c1 w1 hn hm o1 g1 b1 => ?_⟩
  have X1 := own_next hxb hb hM b1
  have F1 : Fr (offM B M) w w1 := g1.mono (fun k _ hk => hxb k hk)
  have h3 := F1.heap hh (fun x => x.2 rfl)
  exact ⟨cells1 h3, Wr.store hg hb h3 (by rw [List.length_append, hn, hm]) o1 X1, (F1.belowB (Nat.le_of_lt (Nat.lt_of_le_of_lt hb hM))).setCell hb _⟩

set_option maxHeartbeats 1000000 in
/-- Text. -/
theorem wtext_any (B M : Nat) (l : List UInt8) (d : ByteArray) (w : World) (h : Wr w B M l) (hd : d.size ≤ maxLen) (hroom : l.length + (Lib.itoa d.size).length + 2 + d.size ≤ roomB) (hE : Env w) :
    Calls Tryz.prog 34 #[.pointer (some ⟨M, 0, none⟩), .string d] w fun e w' => e = .returned (.pointer (some ⟨M, 0, none⟩)) ∧ Wr w' B M (l ++ (116 :: Lib.itoa d.size ++ [58]) ++ d.data.toList) ∧ Below B w w' := by
  have H1 := Lib.hid (itoa_any d.size w (by omega) (by simp only [maxLen] at hd; omega) hE)
  have hds : d.data.toList.length = d.size := Array.length_toList
  have hb : B ≤ w.heap.size := Nat.le_of_lt (Nat.lt_of_le_of_lt h.base h.lt)
  have H2 : Hid (∀ w1, Below w.heap.size w w1 → Calls Tryz.prog 64 #[.pointer (some ⟨M, 0, none⟩), .int .u8 116, .string (str (Lib.itoa d.size)), .int .u8 58] w1 fun e w' => e = .returned (.pointer (some ⟨M, 0, none⟩)) ∧ Wr w' B M (l ++ (116 :: Lib.itoa d.size ++ [58])) ∧ Below B w w') := by
    intro w1 b1
    refine (lay_any B M l 116 58 116 58 (str (Lib.itoa d.size)) w1 (h.below b1) rfl rfl (by rw [str_size]; omega)).mono ?_
    rintro e w2 ⟨rfl, h2, b2⟩
    exact ⟨rfl, h2, (b1.mono hb).trans b2⟩
  have Hlen : Hid ((l ++ (116 :: Lib.itoa d.size ++ [58])).length + d.size ≤ roomB) := by have : (l ++ (116 :: Lib.itoa d.size ++ [58])).length = l.length + (Lib.itoa d.size).length + 2 := by simp; omega
                                                                                          exact Lib.hid (by rw [this]; exact hroom)
  have Hds := Lib.hid hds
  generalize l ++ (116 :: Lib.itoa d.size ++ [58]) = l2 at *
  generalize Lib.itoa d.size = ds at *
  clear hroom hE h hb hd hds
  go_enter Tryz.func34, Tryz.ntmps34
  go_wp2_with fail
  refine H1.out.mono ?_
  rintro v w1 ⟨rfl, b1⟩
  have H3 := Lib.hid (H2.out w1 b1)
  clear H1 H2 b1
  go_wp2_with fail
  refine H3.out.mono ?_
  rintro v w2 ⟨rfl, h2, b2⟩
  obtain ⟨a, c, c2, f2, o2, hfin⟩ := h2.app
  have Hfin := Lib.hid hfin
  have O2 := Lib.hid o2
  have B2 := Lib.hid b2
  clear H3 h2 b2 o2 hfin
  go_wp2_with (at_builtin; refine wpList_appN rfl (.tmp 15) (.tmp 16) rfl T22 (n := l2.length) (m := d.size) rfl Hds.out rfl O2.out rfl (srcB_str w2 U9 d) Hlen.out ?_; intro a1 c1 w3 o1 g1 b1; obtain ⟨⟨e3, f3⟩, hw, hbw⟩ := Hfin.out _ _ _ a1 c1 w3 rfl Hds.out o1 g1 b1; have HW := Lib.hid hw; have HB := Lib.hid hbw; clear hw hbw o1 g1 b1)
  go_ret
  exact ⟨rfl, HW.out, B2.out.trans HB.out⟩

end Go.Proofs.YtflghelhdalhiaaGreatDoor
