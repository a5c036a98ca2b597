/-
  pack.Writer's methods by contracts that name the blocks that the writer may turn.
  Conditions: the listed variables read as listed ('Env'); what is laid comes to at most 2^47 bytes.
  pack.Writer's Text by the blocks that it may turn; the closure of Encode that lays an amount.
  Conditions: the listed variables read as listed ('Env'); what is laid comes to at most 2^47 bytes; an amount (whole numbers from 0 to 2^40).
  The program's amount behind bytes: pair.Put.
  Conditions: the listed variables read as listed ('Env'); the bytes read as such, with room.
-/
import Derived.Test.YtkanjdijmdjbaaaGreatDoorG3
import Derived.Test.YtkanjdijmdjbaaaGreatDoorG4
import Derived.Test.YtkanjdijmdjbaaaGreatDoorG5
import Derived.Test.YtkanjdijmdjbaaaGreatDoorEncQ
import Derived.Test.YtkanjdijmdjbaaaGreatDoorG19
namespace Go.Proofs.YtkanjdijmdjbaaaGreatDoor
open Go Go.RowKit

/-- A writer whose blocks lie in G. -/
structure Wg (w : World) (G : Nat → Prop) (M : Nat) (l : List UInt8) : Prop where
  glob : ∀ k, G k → glob ≤ k
  mem : G M
  ex : ∃ a c, w.heap[M]? = some (.cells #[.slice a l.length c] 160) ∧ OwnB w (.slice a l.length c) l ∧ ∀ b, Value.ownBlock (.slice a l.length c) = some b → G b ∧ b ≠ M
theorem Wg.lt {w : World} {G : Nat → Prop} {M : Nat} {l : List UInt8} (h : Wg w G M l) : M < w.heap.size := by
  obtain ⟨_, _, a, c, hh, _⟩ := h
  exact (Array.getElem?_eq_some_iff.1 hh).1
theorem Wg.below {w w' : World} {G : Nat → Prop} {M : Nat} {l : List UInt8} (h : Wg w G M l) (f : Below w.heap.size w w') : Wg w' G M l := by
  obtain ⟨hg, hb, a, c, hh, ho, hx⟩ := h
  exact ⟨hg, hb, a, c, (f.block M (Array.getElem?_eq_some_iff.1 hh).1).trans hh, ho.kept (X := fun _ => False) (Fr.of_below f) (fun _ _ x => x), hx⟩
/-- The same writer, its blocks said by another word: M and the row, if those lie in it. -/
theorem Wg.turn {w : World} {G G' : Nat → Prop} {M : Nat} {l : List UInt8} (h : Wg w G M l) (hg : ∀ k, G' k → Go.Proofs.YtkanjdijmdjbaaaGreatDoor.glob ≤ k) (hk : ∀ k, k < w.heap.size → G k → G' k) : Wg w G' M l := by
  have hM := h.lt
  obtain ⟨_, hb, a, c, hh, ho, hx⟩ := h
  exact ⟨hg, hk M hM hb, a, c, hh, ho, fun b hb' => ⟨hk b (ho.lt b hb') (hx b hb').1, (hx b hb').2⟩⟩
theorem Env.fr {w w' : World} {G : Nat → Prop} (h : Env w) (f : Fr G w w') (hG : ∀ k, G k → Go.Proofs.YtkanjdijmdjbaaaGreatDoor.glob ≤ k) : Env w' :=
  h.kept f (fun k hk hx => by have := hG k hx; omega)
theorem Wr.wg {w : World} {B M : Nat} {l : List UInt8} (h : Wr w B M l) : Wg w (fun k => B ≤ k) M l := by
  obtain ⟨hg, hb, a, c, hh, ho, hx⟩ := h
  exact ⟨fun k hk => Nat.le_trans hg hk, hb, a, c, hh, ho, hx⟩
theorem Wg.store {w : World} {G : Nat → Prop} {M : Nat} {l : List UInt8} {a : Option Addr} {n c : Nat} {x : Value} (hg : ∀ k, G k → Go.Proofs.YtkanjdijmdjbaaaGreatDoor.glob ≤ k) (hb : G M) (hh : w.heap[M]? = some (.cells #[x] 160)) (hn : l.length = n) (ho : OwnB w (.slice a n c) l)
    (hx : ∀ b, Value.ownBlock (.slice a n c) = some b → G b ∧ b ≠ M) : Wg (w.setCell ⟨M, 0, none⟩ (.slice a n c)) G M l := by
  subst hn
  refine ⟨hg, hb, a, c, ?_, ho.kept (X := fun k => k = M) (Fr.setCell (X := fun k => k = M) (Fr.refl _ w) (fun _ => rfl) _) (fun b hb' e => (hx b hb').2 e), hx⟩
  simp only [World.setCell, Array.getElem?_modify, if_true, hh, Option.map_some]
  simp
theorem own_nextG {G : Nat → Prop} {M : Nat} {w0 : World} {v : Value} {a' : Option Addr} {n c : Nat} (h : ∀ b, v.ownBlock = some b → G b ∧ b ≠ M) (hN : ∀ k, w0.heap.size ≤ k → G k) (hM : M < w0.heap.size)
    (b1 : Value.ownBlock (.slice a' n c) = v.ownBlock ∨ ∃ g, a' = some ⟨g, 0, none⟩ ∧ w0.heap.size ≤ g) : ∀ b, Value.ownBlock (.slice a' n c) = some b → G b ∧ b ≠ M := by
  intro b hb
  rcases b1 with b1 | ⟨g, rfl, hg⟩
  · exact h b (b1 ▸ hb)
  · simp [Value.ownBlock] at hb
    subst hb
    exact ⟨hN _ hg, by omega⟩
/-- Blocks of G, but M. -/
def offG (G : Nat → Prop) (M k : Nat) : Prop := G k ∧ k ≠ M

set_option maxHeartbeats 1000000 in
/-- lay. -/
theorem lay_g (G : Nat → Prop) (M : Nat) (l : List UInt8) (lc ec : UInt8) (x y : Int) (d : ByteArray) (w : World) (h : Wg w G M l) (hN : ∀ k, w.heap.size ≤ k → G k) (hx : x = (lc.toNat : Int)) (hy : y = (ec.toNat : Int)) (hroom : l.length + d.size + 2 ≤ roomB) :
    Calls Tryz.prog 72 #[.pointer (some ⟨M, 0, none⟩), .int .u8 x, .string d, .int .u8 y] w fun e w' => e = .returned (.pointer (some ⟨M, 0, none⟩)) ∧ Wg w' G M (l ++ (lc :: d.data.toList ++ [ec])) ∧ Fr G w w' := by
  subst hx hy
  have hds : d.data.toList.length = d.size := Array.length_toList
  have hM := h.lt
  obtain ⟨hg, hb, a, c, hh, ho, hxb⟩ := h
  obtain ⟨c0, f0⟩ := cells1 hh
  have O0 : Hid (OwnB (w.alloc (.cells #[.int .u8 (lc.toNat : Int)] 5)) (.slice a l.length c) l) := ho.alloc _
  have S0 : Hid (SrcB Tryz.prog 22 (w.alloc (.cells #[.int .u8 (lc.toNat : Int)] 5)) (.slice (some ⟨w.heap.size, 0, none⟩) 1 1) [lc]) := srcB_of Tryz.underlying22 (isB_one w lc _)
  have Hroom := Lib.hid hroom
  have Hds := Lib.hid hds
  have Hh := Lib.hid hh
  have Hxb := Lib.hid hxb
  have Hg := Lib.hid hg
  have Hb := Lib.hid hb
  have HM := Lib.hid hM
  have HN := Lib.hid hN
  clear hroom hds hh ho hxb hg hb hM hN
  go_enter Tryz.func72, Tryz.ntmps72
  go_wp2_with (first
    | (at_builtin; refine wpList_appN rfl (.tmp 15) (.tmp 17) rfl T22 (n := l.length) (m := 1) rfl rfl rfl O0.out rfl S0.out (by have := Hroom.out; omega) ?_; intro a1 c1 w1 o1 g1 b1; have O1 := Lib.hid o1; have G1 := Lib.hid g1; have B1 := Lib.hid b1; clear o1 g1 b1)
    | (at_builtin; refine wpList_appN rfl (.tmp 18) (.tmp 19) rfl T22 (n := l.length + 1) (m := d.size) (by simp) Hds.out rfl O1.out rfl (srcB_str w1 U9 d) (by have := Hroom.out; omega) ?_; intro a2 c2 w2 o2 g2 b2; have O2 := Lib.hid o2; have G2 := Lib.hid g2; have B2 := Lib.hid b2; clear o2 g2 b2)
    | (at_builtin; refine wpList_appN rfl (.tmp 20) (.tmp 22) rfl T22 (n := l.length + 1 + d.size) (m := 1) (by have := Hds.out; rw [List.length_append, List.length_append, this]; simp) rfl rfl (O2.out.alloc _) rfl (srcB_of Tryz.underlying22 (isB_one w2 ec _)) (by have := Hroom.out; omega) ?_; intro a3 c3 w3 o3 g3 b3; have O3 := Lib.hid o3
       have X1 := Lib.hid (own_nextG Hxb.out (fun k hk => HN.out k (by simp at hk; omega)) (Nat.lt_of_lt_of_le HM.out (by simp)) B1.out)
       have F1 : Hid (Fr (offG G M) w w1) := (((Fr.refl (offG G M) w).alloc _).trans (G1.out.mono (fun k _ hk => Hxb.out k hk)))
       have X2 := Lib.hid (own_nextG X1.out (fun k hk => HN.out k (Nat.le_trans F1.out.size hk)) (F1.out.lt HM.out) B2.out)
       have F2 : Hid (Fr (offG G M) w w2) := F1.out.trans (G2.out.mono (fun k _ hk => X1.out k hk))
       have X3 := Lib.hid (own_nextG X2.out (fun k hk => HN.out k (by have := F2.out.size; simp at hk; omega)) (Nat.lt_of_lt_of_le (F2.out.lt HM.out) (by simp)) b3)
       have F3 : Hid (Fr (offG G M) w w3) := (F2.out.alloc _).trans (g3.mono (fun k _ hk => X2.out k hk))
       have h3 := F3.out.heap Hh.out (fun x => x.2 rfl)
       obtain ⟨e3, f3⟩ := cells1 h3
       have H3 := Lib.hid h3
       clear o3 g3 b3 h3))
  have FB : Fr G w w3 := F3.out.mono (fun k _ hk => hk.1)
  go_ret
  exact ⟨rfl, by have e : l ++ (lc :: d.data.toList ++ [ec]) = l ++ [lc] ++ d.data.toList ++ [ec] := by simp
                 have := Wg.store Hg.out Hb.out H3.out (n := l.length + 1 + d.size + 1) (by have := Hds.out; rw [List.length_append, List.length_append, List.length_append, this]; simp) O3.out X3.out
                 rw [← e] at this
                 simpa using this, FB.setCell (fun _ => Hb.out) _⟩
/-- Uint. -/
theorem wuint_g (G : Nat → Prop) (M : Nat) (l : List UInt8) (u : Nat) (w : World) (h : Wg w G M l) (hN : ∀ k, w.heap.size ≤ k → G k) (hu : u < 18446744073709551616) (hroom : l.length + (Lib.decDigits u).length + 2 ≤ roomB) (hE : Env w) :
    Calls Tryz.prog 32 #[.pointer (some ⟨M, 0, none⟩), .int .u64 u] w fun e w' => e = .returned (.pointer (some ⟨M, 0, none⟩)) ∧ Wg w' G M (l ++ (110 :: Lib.decDigits u ++ [59])) ∧ Fr G w w' := by
  have H1 := Lib.hid (formatUint_any u w hu hE)
  have H2 : Hid (∀ w1, Below w.heap.size w w1 → Calls Tryz.prog 72 #[.pointer (some ⟨M, 0, none⟩), .int .u8 110, .string (str (Lib.decDigits u)), .int .u8 59] w1 fun e w' => e = .returned (.pointer (some ⟨M, 0, none⟩)) ∧ Wg w' G M (l ++ (110 :: Lib.decDigits u ++ [59])) ∧ Fr G w w') := by
    intro w1 b1
    refine (lay_g G M l 110 59 110 59 (str (Lib.decDigits u)) w1 (h.below b1) (fun k hk => hN k (Nat.le_trans b1.size hk)) rfl rfl (by rw [str_size]; exact hroom)).mono ?_
    rintro e w2 ⟨rfl, h2, b2⟩
    exact ⟨rfl, h2, (Fr.of_below b1).trans b2⟩
  clear hu hroom hE h hN
  generalize Lib.decDigits u = ds at *
  go_enter Tryz.func32, Tryz.ntmps32
  go_wp2_with fail
  refine H1.out.mono ?_
  rintro v w1 ⟨rfl, b1⟩
  have H3 := Lib.hid (H2.out w1 b1)
  clear H1 H2 b1
  go_wp2_with fail
  refine H3.out.mono ?_
  rintro v w2 ⟨rfl, h2⟩
  have H4 := Lib.hid h2
  clear H3 h2
  go_wp2
  go_ret
  exact ⟨rfl, H4.out⟩
/-- After an append onto what was laid. -/
theorem Wg.app {w : World} {G : Nat → Prop} {M : Nat} {l : List UInt8} (h : Wg w G M l) (hN : ∀ k, w.heap.size ≤ k → G k) : ∃ a c, w.cell? ⟨M, 0, none⟩ = some (.slice a l.length c) ∧ w.frozen? ⟨M, 0, none⟩ = false ∧ OwnB w (.slice a l.length c) l ∧
    ∀ (ys : List UInt8) (n m : Nat) (a1 : Option Addr) (c1 : Nat) (w1 : World), l.length = n → ys.length = m → OwnB w1 (.slice a1 (n + m) c1) (l ++ ys) → Fr (fun k => (Value.slice a l.length c).ownBlock = some k) w w1 →
      (Value.ownBlock (.slice a1 (n + m) c1) = (Value.slice a l.length c).ownBlock ∨ ∃ g, a1 = some ⟨g, 0, none⟩ ∧ w.heap.size ≤ g) →
      (w1.cell? ⟨M, 0, none⟩ = some (.slice a l.length c) ∧ w1.frozen? ⟨M, 0, none⟩ = false) ∧ Wg (w1.setCell ⟨M, 0, none⟩ (.slice a1 (n + m) c1)) G M (l ++ ys) ∧ Fr G w (w1.setCell ⟨M, 0, none⟩ (.slice a1 (n + m) c1)) := by
  have hM := h.lt
  obtain ⟨hg, hb, a, c, hh, ho, hxb⟩ := h
  obtain ⟨c0, f0⟩ := cells1 hh
  refine ⟨a, c, c0, f0, ho, fun ys n m a1 c1 w1 hn hm o1 g1 b1 => ?_⟩
  have X1 := own_nextG hxb hN hM b1
  have F1 : Fr (offG G M) w w1 := g1.mono (fun k _ hk => hxb k hk)
  have h3 := F1.heap hh (fun x => x.2 rfl)
  exact ⟨cells1 h3, Wg.store hg hb h3 (by rw [List.length_append, hn, hm]) o1 X1, (F1.mono (fun k _ hk => hk.1)).setCell (fun _ => hb) _⟩
set_option maxHeartbeats 1000000 in
/-- Bytes. -/
theorem wbytes_g (G : Nat → Prop) (M : Nat) (l : List UInt8) (x : Option Addr) (xn xc : Nat) (d : List UInt8) (w : World) (h : Wg w G M l) (hN : ∀ k, w.heap.size ≤ k → G k) (hxn : d.length = xn) (hx : IsB w (.slice x xn xc) d) (hxb : d ≠ [] → ∀ b, Value.ownBlock (.slice x xn xc) = some b → ¬ G b) (hroom : l.length + (Lib.decDigits d.length).length + 2 + d.length ≤ roomB) (hE : Env w) :
    Calls Tryz.prog 30 #[.pointer (some ⟨M, 0, none⟩), .slice x xn xc] w fun e w' => e = .returned (.pointer (some ⟨M, 0, none⟩)) ∧ Wg w' G M (l ++ (98 :: Lib.decDigits d.length ++ [58]) ++ d) ∧ Fr G w w' := by
  subst hxn
  have H1 := Lib.hid (itoa_any d.length w (by omega) (by have := hx.len; simp only [maxLen] at this; omega) hE)
  rw [Lib.itoa_nonneg] at H1
  have H2 : Hid (∀ w1, Below w.heap.size w w1 → Calls Tryz.prog 72 #[.pointer (some ⟨M, 0, none⟩), .int .u8 98, .string (str (Lib.decDigits d.length)), .int .u8 58] w1 fun e w' => e = .returned (.pointer (some ⟨M, 0, none⟩)) ∧ Wg w' G M (l ++ (98 :: Lib.decDigits d.length ++ [58])) ∧ Fr G w w') := by
    intro w1 b1
    refine (lay_g G M l 98 58 98 58 (str (Lib.decDigits d.length)) w1 (h.below b1) (fun k hk => hN k (Nat.le_trans b1.size hk)) rfl rfl (by rw [str_size]; omega)).mono ?_
    rintro e w2 ⟨rfl, h2, b2⟩
    exact ⟨rfl, h2, (Fr.of_below b1).trans b2⟩
  have Hlen : Hid ((l ++ (98 :: Lib.decDigits d.length ++ [58])).length + d.length ≤ roomB) := by have : (l ++ (98 :: Lib.decDigits d.length ++ [58])).length = l.length + (Lib.decDigits d.length).length + 2 := by simp; omega
                                                                                                  exact Lib.hid (by rw [this]; exact hroom)
  have Hsrc : Hid (∀ w2, Fr G w w2 → SrcB Tryz.prog 22 w2 (.slice x d.length xc) d) := fun w2 b2 => srcB_of Tryz.underlying22 (by
    by_cases hd0 : d = []
    · subst hd0; exact hx.empty
    · exact hx.kept b2 (hxb hd0))
  have HN : Hid (∀ w2, Fr G w w2 → ∀ k, w2.heap.size ≤ k → G k) := fun w2 f k hk => hN k (Nat.le_trans f.size hk)
  generalize l ++ (98 :: Lib.decDigits d.length ++ [58]) = l2 at *
  generalize Lib.decDigits d.length = ds at *
  clear hroom hE h hx hxb hN
  go_enter Tryz.func30, Tryz.ntmps30
  go_wp2_with fail
  refine H1.out.mono ?_
  rintro v w1 ⟨rfl, b1⟩
  have H3 := Lib.hid (H2.out w1 b1)
  clear H1 H2 b1
  go_wp2_with fail
  refine H3.out.mono ?_
  rintro v w2 ⟨rfl, h2, b2⟩
  obtain ⟨a, c, c2, f2, o2, hfin⟩ := h2.app (HN.out w2 b2)
  have Hfin := Lib.hid hfin
  have O2 := Lib.hid o2
  have B2 := Lib.hid b2
  have S2 := Lib.hid (Hsrc.out w2 b2)
  clear H3 h2 b2 o2 hfin Hsrc HN
  go_wp2_with (at_builtin; refine wpList_appN rfl (.tmp 15) (.tmp 16) rfl T22 (n := l2.length) (m := d.length) rfl rfl rfl O2.out rfl S2.out Hlen.out ?_; intro a1 c1 w3 o1 g1 b1; obtain ⟨⟨e3, f3⟩, hw, hbw⟩ := Hfin.out _ _ _ a1 c1 w3 rfl rfl o1 g1 b1; have HW := Lib.hid hw; have HB := Lib.hid hbw; clear hw hbw o1 g1 b1)
  go_ret
  exact ⟨rfl, HW.out, B2.out.trans HB.out⟩
/-- Done. -/
theorem wdone_g (G : Nat → Prop) (M : Nat) (l : List UInt8) (w : World) (h : Wg w G M l) (hroom : l.length ≤ roomB) :
    Calls Tryz.prog 35 #[.pointer (some ⟨M, 0, none⟩)] w fun e w' => (∃ a c, e = .returned (.slice a l.length c) ∧ OwnB w' (.slice a l.length c) l ∧ ∀ b, Value.ownBlock (.slice a l.length c) = some b → w.heap.size ≤ b) ∧ Below w.heap.size w w' := by
  obtain ⟨_, _, a, c, hh, ho, _⟩ := h
  obtain ⟨c0, f0⟩ := cells1 hh
  have H1 := Lib.hid (clone_any (.slice a l.length c) l w ho.isB hroom)
  clear hh ho hroom
  go_enter Tryz.func35, Tryz.ntmps35
  go_wp2_with fail
  refine H1.out.mono ?_
  rintro v w1 ⟨⟨a1, c1, rfl, h2⟩, b1⟩
  have H3 := Lib.hid h2
  have B1 := Lib.hid b1
  clear H1 h2 b1
  go_wp2
  go_ret
  exact ⟨⟨a1, c1, rfl, H3.out⟩, B1.out⟩
set_option maxHeartbeats 1000000 in
/-- Text. -/
theorem wtext_g (G : Nat → Prop) (M : Nat) (l d : List UInt8) (w : World) (h : Wg w G M l) (hN : ∀ k, w.heap.size ≤ k → G k) (hd : d.length ≤ 1099511627776) (hroom : l.length + d.length + 100 ≤ roomB) (hE : Env w) :
    Calls Tryz.prog 75 #[.pointer (some ⟨M, 0, none⟩), .string (str d)] w fun e w' => e = .returned (.pointer (some ⟨M, 0, none⟩)) ∧ Wg w' G M (l ++ QT.xB d) ∧ Fr G w w' := by
  have hsz : (str d).size = d.length := str_size d
  have hdl := decDigits_le d.length (by omega)
  have H1 := Lib.hid (itoa_any (str d).size w (by omega) (by rw [hsz]; omega) hE)
  rw [Lib.itoa_nonneg, hsz] at H1
  have H2 : Hid (∀ w1, Below w.heap.size w w1 → Calls Tryz.prog 72 #[.pointer (some ⟨M, 0, none⟩), .int .u8 116, .string (str (Lib.decDigits d.length)), .int .u8 58] w1 fun e w' => e = .returned (.pointer (some ⟨M, 0, none⟩)) ∧ Wg w' G M (l ++ (116 :: Lib.decDigits d.length ++ [58])) ∧ Fr G w w') := by
    intro w1 b1
    refine (lay_g G M l 116 58 116 58 (str (Lib.decDigits d.length)) w1 (h.below b1) (fun k hk => hN k (Nat.le_trans b1.size hk)) rfl rfl (by rw [str_size]; omega)).mono ?_
    rintro e w2 ⟨rfl, h2, b2⟩
    exact ⟨rfl, h2, (Fr.of_below b1).trans b2⟩
  have Hlen : Hid ((l ++ (116 :: Lib.decDigits d.length ++ [58])).length + d.length ≤ roomB) := Lib.hid (by
    have : (l ++ (116 :: Lib.decDigits d.length ++ [58])).length = l.length + (Lib.decDigits d.length).length + 2 := by simp; omega
    rw [this]; omega)
  have HN : Hid (∀ w2, Fr G w w2 → ∀ k, w2.heap.size ≤ k → G k) := fun w2 f k hk => hN k (Nat.le_trans f.size hk)
  have hxb : l ++ QT.xB d = l ++ (116 :: Lib.decDigits d.length ++ [58]) ++ d := by simp [QT.xB]
  rw [hxb]
  have Hds : Hid ((str d).data.toList.length = d.length) := Lib.hid (by show (d.toArray).toList.length = d.length; simp)
  have hdd : (str d).data.toList = d := by show (d.toArray).toList = d; simp
  generalize l ++ (116 :: Lib.decDigits d.length ++ [58]) = l2 at *
  generalize Lib.decDigits d.length = ds at *
  have hgoal : l2 ++ d = l2 ++ (str d).data.toList := by rw [hdd]
  rw [hgoal]
  clear hroom hE h hN hd hxb hdd hgoal hdl
  generalize str d = sd at *
  generalize d.length = m at *
  go_enter Tryz.func75, Tryz.ntmps75
  go_wp2_with fail
  refine H1.out.mono ?_
  rintro v w1 ⟨rfl, b1⟩
  have H3 := Lib.hid (H2.out w1 b1)
  clear H1 H2 b1
  go_wp2_with fail
  refine H3.out.mono ?_
  rintro v w2 ⟨rfl, h2, b2⟩
  obtain ⟨a, c, c2, f2, o2, hfin⟩ := h2.app (HN.out w2 b2)
  have Hfin := Lib.hid hfin
  have O2 := Lib.hid o2
  have B2 := Lib.hid b2
  clear H3 h2 b2 o2 hfin HN
  go_wp2_with (at_builtin; refine wpList_appN rfl (.tmp 15) (.tmp 16) rfl T22 (n := l2.length) (m := m) rfl Hds.out rfl O2.out rfl (srcB_str w2 U9 sd) Hlen.out ?_; intro a1 c1 w3 o1 g1 b1; obtain ⟨⟨e3, f3⟩, hw, hbw⟩ := Hfin.out _ _ _ a1 c1 w3 rfl Hds.out o1 g1 b1; have HW := Lib.hid hw; have HB := Lib.hid hbw; clear hw hbw o1 g1 b1)
  go_ret
  exact ⟨rfl, HW.out, B2.out.trans HB.out⟩
theorem run_toU64 (n : Nat) (w : World) (h : n ≤ 1099511627776) : (convert 124 71 (.float .f64 (FL.fB n))).run Tryz.prog w = .ok (.int .u64 n) w := by
  have ht := FL.toInt_fB n (by omega)
  refine run_convert_float_int w 124 71 .f64 .u64 (FL.fB n) n (by kernel_rfl) Tryz.underlying71 ?_
  unfold floatToIntVal
  rw [ht]
  simp only
  rw [if_pos]
  have e1 : IntKind.u64.min = 0 := by decide
  have e2 : IntKind.u64.max = 18446744073709551615 := by decide
  rw [e1, e2]
  omega
set_option maxHeartbeats 1000000 in
/-- The closure of Encode: an amount is laid. -/
theorem amount_g (G : Nat → Prop) (M WB : Nat) (l : List UInt8) (x y : Nat) (w : World) (h : Wg w G M l) (hN : ∀ k, w.heap.size ≤ k → G k) (hc : w.cell? ⟨WB, 0, none⟩ = some (.pointer (some ⟨M, 0, none⟩))) (hx : x ≤ 1099511627776) (hy : y ≤ 1099511627776) (hroom : l.length + 200 ≤ roomB) (hE : Env w) :
    Calls Tryz.prog 74 #[.complex .f64 (FL.fB x) (FL.fB y), .pointer (some ⟨WB, 0, none⟩)] w fun e w' => e = .returned (.tuple #[]) ∧ Wg w' G M (l ++ PK.uB x ++ PK.uB y) ∧ Fr G w w' := by
  have u1 := PK.uB_len x (by omega)
  have u2 := PK.uB_len y (by omega)
  have d1 := decDigits_le x (by omega)
  have d2 := decDigits_le y (by omega)
  have H1 := Lib.hid (wuint_g G M l x w h hN (by omega) (by omega) hE)
  have H2 := Lib.hid (fun (w1 : World) (h1 : Wg w1 G M (l ++ PK.uB x)) (f : Fr G w w1) => wuint_g G M (l ++ PK.uB x) y w1 h1 (fun k hk => hN k (Nat.le_trans f.size hk)) (by omega) (by rw [List.length_append]; omega) (hE.fr f h.glob))
  have cx := fun V => run_toU64 x V hx
  have cy := fun V => run_toU64 y V hy
  clear h hN hx hy hroom hE u1 u2 d1 d2
  generalize FL.fB x = fx at *
  generalize FL.fB y = fy at *
  go_enter Tryz.func74, Tryz.ntmps74
  go_wp2_with fail
  refine H1.out.mono ?_
  rintro v w1 ⟨rfl, h1, b1⟩
  have H3 := Lib.hid (H2.out w1 h1 b1)
  have B1 := Lib.hid b1
  clear H1 H2 h1 b1
  go_wp2_with fail
  refine H3.out.mono ?_
  rintro v w2 ⟨rfl, h2, b2⟩
  have HW := Lib.hid h2
  have B2 := Lib.hid (B1.out.trans b2)
  clear H3 h2 b2 B1
  go_wp2
  go_end0
  exact ⟨rfl, HW.out, B2.out⟩
theorem put_fst {w w1 : World} {o : Obj} {a1 : Option Addr} {n c1 : Nat} (g1 : Fr (fun k => Value.ownBlock (.slice (some ⟨w.heap.size, 0, none⟩) 0 0) = some k) (w.alloc o) w1)
    (b1 : Value.ownBlock (.slice a1 n c1) = Value.ownBlock (.slice (some ⟨w.heap.size, 0, none⟩) 0 0) ∨ ∃ g, a1 = some ⟨g, 0, none⟩ ∧ (w.alloc o).heap.size ≤ g) :
    Below w.heap.size w w1 ∧ ∀ b, Value.ownBlock (.slice a1 n c1) = some b → w.heap.size ≤ b := by
  have b0 : Below w.heap.size w (w.alloc o) := (Below.refl _ _).alloc (Nat.le_refl _) _
  refine ⟨belowSet b0 (B := w.heap.size) (g1.mono (fun k _ e => (Option.some.inj e).symm)) (Nat.le_refl _), fun b hb => ?_⟩
  rcases b1 with b1 | ⟨g, rfl, hg⟩
  · rw [b1] at hb
    have h2 : w.heap.size = b := Option.some.inj hb
    omega
  · have h2 : g = b := Option.some.inj hb
    have h3 : (w.alloc o).heap.size = w.heap.size + 1 := by simp
    omega
theorem put_snd {w w5 w6 : World} {a1 a6 : Option Addr} {n c1 c6 k : Nat} {l : List UInt8} (b5 : Below w.heap.size w w5) (n1 : ∀ b, Value.ownBlock (.slice a1 n c1) = some b → w.heap.size ≤ b) (o6 : OwnB w6 (.slice a6 k c6) l)
    (g6 : Fr (fun k => Value.ownBlock (.slice a1 n c1) = some k) w5 w6) (b6 : Value.ownBlock (.slice a6 k c6) = Value.ownBlock (.slice a1 n c1) ∨ ∃ g, a6 = some ⟨g, 0, none⟩ ∧ w5.heap.size ≤ g) :
    OwnB w6 (.slice a6 k c6) l ∧ (∀ b, Value.ownBlock (.slice a6 k c6) = some b → w.heap.size ≤ b) ∧ Below w.heap.size w w6 := by
  refine ⟨o6, fun b hb => ?_, b5.trans ⟨g6.os, g6.tape, g6.output, g6.size, fun q hq => g6.block q (Nat.lt_of_lt_of_le hq b5.size) (fun e => by have := n1 q e; omega)⟩⟩
  rcases b6 with b6 | ⟨g, rfl, hg⟩
  · exact n1 b (b6 ▸ hb)
  · have h2 : g = b := Option.some.inj hb
    have := b5.size
    omega
set_option maxRecDepth 100000 in
set_option maxHeartbeats 4000000 in
theorem putA_any (a : Option Addr) (n c : Nat) (l : List UInt8) (x y : Nat) (w : World) (hE : Env w) (hn : l.length = n) (hv : IsB w (.slice a n c) l) (hx : x ≤ 1099511627776) (hy : y ≤ 1099511627776) (hroom : n + 1000 ≤ roomB) :
    Calls Tryz.prog 123 #[.slice a n c, .complex .f64 (FL.fB x) (FL.fB y)] w fun e w' => RW w w' e (l ++ PK.uB x ++ PK.uB y) := by
  have cx := fun V => run_toU64 x V hx
  have cy := fun V => run_toU64 y V hy
  have HM : Hid (∀ V, Calls Tryz.prog 97 #[.complex .f64 (FL.fB x) (FL.fB y)] V fun e w' => e = .returned (.bool true) ∧ V = w') := Lib.hid (fun V => by
    have := mayQ_any x y V (by omega) (by omega)
    rw [decide_eq_true (show x ≤ 1099511627776 ∧ y ≤ 1099511627776 from ⟨hx, hy⟩)] at this
    exact this)
  have S0 : Hid (∀ V, Below w.heap.size w V → SrcB Tryz.prog 22 V (.slice a n c) l) := Lib.hid (fun V b => srcB_of Tryz.underlying22 (hv.below b))
  have hEg := hE.big
  have HEn := Lib.hid (fun (V : World) (b : Below w.heap.size w V) => hE.wr b hEg)
  have Hn := Lib.hid hn
  have Hx : Hid (x ≤ 1099511627776 ∧ y ≤ 1099511627776) := Lib.hid ⟨hx, hy⟩
  have Hroom := Lib.hid hroom
  clear hE hv hn hroom hEg hx hy
  go_enter Tryz.func123, Tryz.ntmps123
  have O0 : Hid (OwnB (w.alloc (.cells #[] 5)) (.slice (some ⟨w.heap.size, 0, none⟩) 0 0) []) := Lib.hid (.inr ⟨w.heap.size, 0, 0, rfl, Nat.le_refl _, Nat.zero_le _, by simp, fun i hi => by simp at hi, fun j hj => by omega⟩)
  have b0 : Below w.heap.size w (w.alloc (.cells #[] 5)) := (Below.refl _ _).alloc (Nat.le_refl _) _
  have B0 := Lib.hid b0
  clear b0
  go_wp2_with (at_builtin; refine wpList_appN rfl (.tmp 6) (.tmp 7) rfl T22 (n := 0) (m := n) rfl Hn.out rfl O0.out rfl (S0.out _ B0.out) (by have := Hroom.out; omega) ?_; intro a1 c1 w1 o1 g1 b1; rw [Nat.zero_add] at o1 b1; have O1 : Hid (OwnB w1 (.slice a1 n c1) l) := Lib.hid o1; have B1 := Lib.hid (put_fst g1 b1).1; have N1 := Lib.hid (put_fst g1 b1).2; clear o1 g1 b1 O0 B0 S0)
  refine (HM.out w1).mono ?_
  rintro e v ⟨rfl, rfl⟩
  have C1 := Lib.hid (new_any w1 (HEn.out w1 B1.out))
  go_wp2_with fail
  refine C1.out.mono ?_
  rintro e w2 ⟨rfl, r2, b2⟩
  have B2 := Lib.hid b2
  have E2 : Hid (∀ V, Below w1.heap.size w1 V → Env V) := Lib.hid (fun V b => HEn.out V (B1.out.trans (b.mono B1.out.size)))
  have hd1 := decDigits_le x (by have := Hx.out; omega)
  have hd2 := decDigits_le y (by have := Hx.out; omega)
  have hrm := Hroom.out
  have C2 := Lib.hid (wuint_any w1.heap.size w1.heap.size [] x w2 r2 (by have := Hx.out; omega) (by simp only [List.length_nil]; omega) (E2.out w2 b2))
  clear C1 r2 b2
  go_wp2_with fail
  refine C2.out.mono ?_
  rintro e w3 ⟨rfl, r3, b3⟩
  have B3 := Lib.hid (B2.out.trans b3)
  rw [List.nil_append] at r3
  have C3 := Lib.hid (wuint_any w1.heap.size w1.heap.size _ y w3 r3 (by have := Hx.out; omega) (by simp only [List.length_cons, List.length_append, List.length_nil]; omega) (E2.out w3 B3.out))
  clear C2 r3 b3
  go_wp2_with fail
  refine C3.out.mono ?_
  rintro e w4 ⟨rfl, r4, b4⟩
  have B4 := Lib.hid (B3.out.trans b4)
  have C4 := Lib.hid (wdone_any w1.heap.size w1.heap.size _ w4 r4 (by simp only [List.length_cons, List.length_append, List.length_nil]; omega))
  have hen : (110 :: Lib.decDigits x ++ [59]) ++ (110 :: Lib.decDigits y ++ [59]) = PK.uB x ++ PK.uB y := rfl
  rw [hen] at C4
  have hle : (PK.uB x ++ PK.uB y).length ≤ 100 := by rw [← hen]; simp only [List.length_cons, List.length_append, List.length_nil]; omega
  obtain ⟨d, hd⟩ : ∃ d, d = PK.uB x ++ PK.uB y := ⟨_, rfl⟩
  rw [← hd] at C4 hle
  have Hle := Lib.hid hle
  have Hd := Lib.hid hd
  clear C3 r4 b4 hen hle hd hd1 hd2 hrm
  go_wp2_with fail
  refine C4.out.mono ?_
  rintro e w5 ⟨⟨ad, cd, rfl, od, _⟩, b5⟩
  have B5 := Lib.hid (B4.out.trans (b5.mono B4.out.size))
  have O5 := Lib.hid (OwnB.kept (X := fun _ => False) O1.out (Fr.of_below B5.out) (fun _ _ e => e))
  have S5 : Hid (SrcB Tryz.prog 22 w5 (.slice ad d.length cd) d) := Lib.hid (srcB_of Tryz.underlying22 od.isB)
  have BW5 := Lib.hid (B1.out.trans (B5.out.mono B1.out.size))
  clear C4 od b5 B2 B3 B4 E2
  generalize hdl : d.length = dn at *
  have Hdl := Lib.hid hdl
  clear hdl
  go_wp2_with (at_builtin; refine wpList_appN rfl (.tmp 13) (.tmp 23) rfl T22 (n := n) (m := dn) Hn.out Hdl.out rfl O5.out rfl S5.out (by have := Hroom.out; have := Hle.out; omega) ?_; intro a6 c6 w6 o6 g6 b6; have Fin := Lib.hid (put_snd BW5.out N1.out o6 g6 b6); clear o6 g6 b6)
  go_ret
  have hend : l ++ PK.uB x ++ PK.uB y = l ++ d := by rw [Hd.out, List.append_assoc]
  rw [hend]
  exact ⟨⟨_, _, _, rfl, by rw [List.length_append, Hn.out, Hdl.out], Fin.out.1, Fin.out.2.1⟩, Fin.out.2.2⟩
end Go.Proofs.YtkanjdijmdjbaaaGreatDoor
