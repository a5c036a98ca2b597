/-
  pack.Writer's Text and Bytes, by contracts.
  Conditions: the listed variables read as listed ('Env'); what is laid is at most 2^47 bytes long.
-/
import Derived.Test.YtbgockggbpmhnaaGreatDoorWr
namespace Go.Proofs.YtbgockggbpmhnaaGreatDoor
open Go Go.RowKit

theorem IsB.own_lt {w : World} {a : Option Addr} {n c : Nat} {l : List UInt8} (h : IsB w (.slice a n c) l) (hl : l ≠ []) : ∀ k, Value.ownBlock (.slice a n c) = some k → k < w.heap.size := by
  obtain ⟨a', cap', he, h1, h2, h0, h3⟩ := h
  simp only [Value.slice.injEq] at he
  obtain ⟨rfl, rfl, rfl⟩ := he
  rcases h3 with h3 | ⟨b, o, rfl, hc⟩
  · exact absurd h3 hl
  · intro k hk
    simp [Value.ownBlock] at hk
    subst hk
    exact World.block_lt_of_cell? w _ (hc 0 (List.length_pos_iff.2 hl))

/-- After an append onto what was laid. -/
theorem Wr.app {w : World} {B M : Nat} {l : List UInt8} (h : Wr w B M l) : ∃ a c, w.cell? ⟨M, 0, none⟩ = some (.slice a l.length c) ∧ w.frozen? ⟨M, 0, none⟩ = false ∧ OwnB w (.slice a l.length c) l ∧
    ∀ (ys : List UInt8) (n m : Nat) (a1 : Option Addr) (c1 : Nat) (w1 : World), l.length = n → ys.length = m → OwnB w1 (.slice a1 (n + m) c1) (l ++ ys) → Fr (fun k => (Value.slice a l.length c).ownBlock = some k) w w1 →
      (Value.ownBlock (.slice a1 (n + m) c1) = (Value.slice a l.length c).ownBlock ∨ ∃ g, a1 = some ⟨g, 0, none⟩ ∧ w.heap.size ≤ g) →
      (w1.cell? ⟨M, 0, none⟩ = some (.slice a l.length c) ∧ w1.frozen? ⟨M, 0, none⟩ = false) ∧ Wr (w1.setCell ⟨M, 0, none⟩ (.slice a1 (n + m) c1)) B M (l ++ ys) ∧ Below B w (w1.setCell ⟨M, 0, none⟩ (.slice a1 (n + m) c1)) := by
  have hM := h.lt
  obtain ⟨hg, hb, a, c, hh, ho, hxb⟩ := h
  obtain ⟨c0, f0⟩ := cells1 hh
  refine ⟨a, c, c0, f0, ho, fun ys n m a1 c1 w1 hn hm o1 g1 b1 => ?_⟩
  have X1 := own_next hxb hb hM b1
  have F1 : Fr (offM B M) w w1 := g1.mono (fun k _ hk => hxb k hk)
  have h3 := F1.heap hh (fun x => x.2 rfl)
  exact ⟨cells1 h3, Wr.store hg hb h3 (by rw [List.length_append, hn, hm]) o1 X1, (F1.belowB (Nat.le_of_lt (Nat.lt_of_le_of_lt hb hM))).setCell hb _⟩


set_option maxHeartbeats 1000000 in
/-- Bytes. -/
theorem wbytes_any (B M : Nat) (l : List UInt8) (x : Option Addr) (xn xc : Nat) (d : List UInt8) (w : World) (h : Wr w B M l) (hx : IsB w (.slice x xn xc) d) (hxb : d ≠ [] → ∀ b, Value.ownBlock (.slice x xn xc) = some b → b < B) (hroom : l.length + (Lib.itoa d.length).length + 2 + d.length ≤ roomB) (hE : Env w) :
    Calls Tryz.prog 44 #[.pointer (some ⟨M, 0, none⟩), .slice x xn xc] w fun e w' => e = .returned (.pointer (some ⟨M, 0, none⟩)) ∧ Wr w' B M (l ++ (98 :: Lib.itoa d.length ++ [58]) ++ d) ∧ Below B w w' := by
  have hn : xn = d.length := by obtain ⟨_, _, e, _⟩ := hx; simp at e; exact e.2.1
  subst hn
  have H1 := Lib.hid (itoa_any d.length w (by omega) (by have := hx.len; simp only [maxLen] at this; omega) hE)
  have hb : B ≤ w.heap.size := Nat.le_of_lt (Nat.lt_of_le_of_lt h.base h.lt)
  have H2 : Hid (∀ w1, Below w.heap.size w w1 → Calls Tryz.prog 69 #[.pointer (some ⟨M, 0, none⟩), .int .u8 98, .string (str (Lib.itoa d.length)), .int .u8 58] w1 fun e w' => e = .returned (.pointer (some ⟨M, 0, none⟩)) ∧ Wr w' B M (l ++ (98 :: Lib.itoa d.length ++ [58])) ∧ Below B w w') := by
    intro w1 b1
    refine (lay_any B M l 98 58 98 58 (str (Lib.itoa d.length)) w1 (h.below b1) rfl rfl (by rw [str_size]; omega)).mono ?_
    rintro e w2 ⟨rfl, h2, b2⟩
    exact ⟨rfl, h2, (b1.mono hb).trans b2⟩
  have Hlen : Hid ((l ++ (98 :: Lib.itoa d.length ++ [58])).length + d.length ≤ roomB) := by have : (l ++ (98 :: Lib.itoa d.length ++ [58])).length = l.length + (Lib.itoa d.length).length + 2 := by simp; omega
                                                                                             exact Lib.hid (by rw [this]; exact hroom)
  have Hsrc : Hid (∀ w2, Below B w w2 → SrcB Tryz.prog 22 w2 (.slice x d.length xc) d) := fun w2 b2 => srcB_of Tryz.underlying22 (by
    by_cases hd0 : d = []
    · subst hd0; exact hx.empty
    · exact hx.kept (X := fun k => B ≤ k) ⟨b2.os, b2.tape, b2.output, b2.size, fun k _ hk => b2.block k (by omega)⟩ (fun b hb' e => by have := hxb hd0 b hb'; omega))
  generalize l ++ (98 :: Lib.itoa d.length ++ [58]) = l2 at *
  generalize Lib.itoa d.length = ds at *
  clear hroom hE h hb hx hxb
  go_enter Tryz.func44, Tryz.ntmps44
  go_wp2_with fail
  refine H1.out.mono ?_
  rintro v w1 ⟨rfl, b1⟩
  have H3 := Lib.hid (H2.out w1 b1)
  clear H1 H2 b1
  go_wp2_with fail
  refine H3.out.mono ?_
  rintro v w2 ⟨rfl, h2, b2⟩
  obtain ⟨a, c, c2, f2, o2, hfin⟩ := h2.app
  have Hfin := Lib.hid hfin
  have O2 := Lib.hid o2
  have B2 := Lib.hid b2
  have S2 := Lib.hid (Hsrc.out w2 b2)
  clear H3 h2 b2 o2 hfin Hsrc
  go_wp2_with (at_builtin; refine wpList_appN rfl (.tmp 15) (.tmp 16) rfl T22 (n := l2.length) (m := d.length) rfl rfl rfl O2.out rfl S2.out Hlen.out ?_; intro a1 c1 w3 o1 g1 b1; obtain ⟨⟨e3, f3⟩, hw, hbw⟩ := Hfin.out _ _ _ a1 c1 w3 rfl rfl o1 g1 b1; have HW := Lib.hid hw; have HB := Lib.hid hbw; clear hw hbw o1 g1 b1)
  go_ret
  exact ⟨rfl, HW.out, B2.out.trans HB.out⟩
end Go.Proofs.YtbgockggbpmhnaaGreatDoor
