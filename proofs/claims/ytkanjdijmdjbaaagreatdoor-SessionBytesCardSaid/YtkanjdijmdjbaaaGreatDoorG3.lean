/-
  pack.Writer's methods, by contracts: what is laid behind; only the writer's own blocks (from a base on) turn.
  Conditions: the listed variables read as listed ('Env'); what is laid is at most 2^47 bytes long.
  The reference writer's Digits, add, Uint and Int, by contracts.
  Conditions: what is laid is at most 2^47 bytes long.
  The reference writer's Uint and Int, by contracts.
  The reference writer's Bool and Bytes, by contracts.
  The document's Parts of an amount, by a contract.
  Conditions: an amount (whole numbers from 0 to 2^40).
  The document's Text and Put (an amount laid), by contracts.
  Conditions: a text of at most 2^40 bytes; an amount (whole numbers from 0 to 2^40); room for what is laid.
  pack.Writer's Text and Bytes, by contracts.
-/
import Derived.Test.YtkanjdijmdjbaaaGreatDoorG2
import Derived.Lib.ItoaLen
import Derived.Deep.RegionHeld3
import Derived.Test.YtkanjdijmdjbaaaGreatDoorG4
import Derived.Test.YtkanjdijmdjbaaaGreatDoorG5
namespace Go.Proofs.YtkanjdijmdjbaaaGreatDoor
open Go Go.RowKit

/-- A WRITER in block M that has laid l; all its memory lies from block B on. -/
structure Wr (w : World) (B M : Nat) (l : List UInt8) : Prop where
  glob : glob ≤ B
  base : B ≤ M
  ex : ∃ a c, w.heap[M]? = some (.cells #[.slice a l.length c] 160) ∧ OwnB w (.slice a l.length c) l ∧ ∀ b, Value.ownBlock (.slice a l.length c) = some b → B ≤ b ∧ b ≠ M
theorem Wr.lt {w : World} {B M : Nat} {l : List UInt8} (h : Wr w B M l) : M < w.heap.size := by
  obtain ⟨_, _, a, c, hh, _⟩ := h
  exact (Array.getElem?_eq_some_iff.1 hh).1
theorem cells1 {w : World} {N : Nat} {x : Value} {t : TypeId} (h : w.heap[N]? = some (.cells #[x] t)) : w.cell? ⟨N, 0, none⟩ = some x ∧ w.frozen? ⟨N, 0, none⟩ = false := by
  simp [World.cell?, World.frozen?, h]
theorem Wr.below {w w' : World} {B M : Nat} {l : List UInt8} (h : Wr w B M l) (f : Below w.heap.size w w') : Wr w' B M l := by
  obtain ⟨hg, hb, a, c, hh, ho, hx⟩ := h
  exact ⟨hg, hb, a, c, (f.block M (Array.getElem?_eq_some_iff.1 hh).1).trans hh, ho.kept (X := fun _ => False) (Fr.of_below f) (fun _ _ x => x), hx⟩
theorem Env.wr {w w' : World} {B : Nat} (h : Env w) (f : Below B w w') (hB : Go.Proofs.YtkanjdijmdjbaaaGreatDoor.glob ≤ B) : Env w' :=
  h.kept (X := fun k => B ≤ k) ⟨f.os, f.tape, f.output, f.size, fun k _ hx => f.block k (by omega)⟩ (fun k hk hx => by omega)

/-- New. -/
theorem new_any (w : World) (hE : Env w) :
    Calls Tryz.prog 29 #[] w fun e w' => e = .returned (.pointer (some ⟨w.heap.size, 0, none⟩)) ∧ Wr w' w.heap.size w.heap.size [] ∧ Below w.heap.size w w' := by
  have Hg : Hid (glob ≤ w.heap.size) := hE.big
  clear hE
  go_enter Tryz.func29, Tryz.ntmps29
  go_wp2
  go_ret
  exact ⟨rfl, ⟨Hg.out, Nat.le_refl _, none, 0, heap_alloc_new w _, OwnB.nil _, by simp [Value.ownBlock]⟩, (Below.refl _ _).alloc (Nat.le_refl _) _⟩

/-- A store of what was laid. -/
theorem Wr.store {w : World} {B M : Nat} {l : List UInt8} {a : Option Addr} {n c : Nat} {x : Value} (hg : Go.Proofs.YtkanjdijmdjbaaaGreatDoor.glob ≤ B) (hb : B ≤ M) (hh : w.heap[M]? = some (.cells #[x] 160)) (hn : l.length = n) (ho : OwnB w (.slice a n c) l)
    (hx : ∀ b, Value.ownBlock (.slice a n c) = some b → B ≤ b ∧ b ≠ M) : Wr (w.setCell ⟨M, 0, none⟩ (.slice a n c)) B M l := by
  subst hn
  refine ⟨hg, hb, a, c, ?_, ho.kept (X := fun k => k = M) (Fr.setCell (X := fun k => k = M) (Fr.refl _ w) (fun _ => rfl) _) (fun b hb' e => (hx b hb').2 e), hx⟩
  simp only [World.setCell, Array.getElem?_modify, if_true, hh, Option.map_some]
  simp

/-- The law at an append, with the lengths in the walk's form. -/
theorem wpList_appN {P : Program} {ops : Array Oper} {rest : List Oper} {o : Oper} {a : Act} {Q : Exit → Act → World → Prop} {w : World} (hgd : o.guard = none) (s x : Operand) {t tx e : TypeId}
    (ho : o.op = .call { callee := .builtin .append, args := #[s, x], argTypes := #[t, tx] }) (T : ByteT P t e) {v xv : Value} {l ys : List UInt8} {n m : Nat} (hn : l.length = n) (hm : ys.length = m) (hs : a.eval s = v) (hv : OwnB w v l) (hx : a.eval x = xv) (hsrc : SrcB P tx w xv ys)
    (hroom : n + m ≤ roomB)
    (h : ∀ a' c w', OwnB w' (.slice a' (n + m) c) (l ++ ys) → Fr (fun k => v.ownBlock = some k) w w' → (Value.ownBlock (.slice a' (n + m) c) = v.ownBlock ∨ ∃ g, a' = some ⟨g, 0, none⟩ ∧ w.heap.size ≤ g) →
      wpList P ops Q rest (a.put o.dst (.slice a' (n + m) c)) w') : wpList P ops Q (o :: rest) a w := by
  subst hn hm
  exact wpList_app hgd s x ho T hs hv hx hsrc hroom h
theorem own_next {B M : Nat} {w0 : World} {v : Value} {a' : Option Addr} {n c : Nat} (h : ∀ b, v.ownBlock = some b → B ≤ b ∧ b ≠ M) (hB : B ≤ M) (hM : M < w0.heap.size)
    (b1 : Value.ownBlock (.slice a' n c) = v.ownBlock ∨ ∃ g, a' = some ⟨g, 0, none⟩ ∧ w0.heap.size ≤ g) : ∀ b, Value.ownBlock (.slice a' n c) = some b → B ≤ b ∧ b ≠ M := by
  intro b hb
  rcases b1 with b1 | ⟨g, rfl, hg⟩
  · exact h b (b1 ▸ hb)
  · simp [Value.ownBlock] at hb
    omega
/-- Blocks from B on, but M. -/
def offM (B M k : Nat) : Prop := B ≤ k ∧ k ≠ M
theorem Fr.belowB {B M : Nat} {w w' : World} (h : Fr (offM B M) w w') (hB : B ≤ w.heap.size) : Below B w w' :=
  ⟨h.os, h.tape, h.output, Nat.le_trans hB (Nat.le_trans hB h.size |> fun _ => h.size) |> fun _ => by have := h.size; omega, fun k hk => h.block k (by omega) (fun x => by have := x.1; omega)⟩

set_option maxHeartbeats 1000000 in
/-- lay. -/
theorem lay_any (B M : Nat) (l : List UInt8) (lc ec : UInt8) (x y : Int) (d : ByteArray) (w : World) (h : Wr w B M l) (hx : x = (lc.toNat : Int)) (hy : y = (ec.toNat : Int)) (hroom : l.length + d.size + 2 ≤ roomB) :
    Calls Tryz.prog 72 #[.pointer (some ⟨M, 0, none⟩), .int .u8 x, .string d, .int .u8 y] w fun e w' => e = .returned (.pointer (some ⟨M, 0, none⟩)) ∧ Wr w' B M (l ++ (lc :: d.data.toList ++ [ec])) ∧ Below B w w' := by
  subst hx hy
  have hds : d.data.toList.length = d.size := Array.length_toList
  have hM := h.lt
  obtain ⟨hg, hb, a, c, hh, ho, hxb⟩ := h
  obtain ⟨c0, f0⟩ := cells1 hh
  have O0 : Hid (OwnB (w.alloc (.cells #[.int .u8 (lc.toNat : Int)] 5)) (.slice a l.length c) l) := ho.alloc _
  have S0 : Hid (SrcB Tryz.prog 22 (w.alloc (.cells #[.int .u8 (lc.toNat : Int)] 5)) (.slice (some ⟨w.heap.size, 0, none⟩) 1 1) [lc]) := srcB_of Tryz.underlying22 (isB_one w lc _)
  have Hroom := Lib.hid hroom
  have Hds := Lib.hid hds
  have Hh := Lib.hid hh
  have Hxb := Lib.hid hxb
  have Hlt := Lib.hid ho.lt
  have Hg := Lib.hid hg
  have Hb := Lib.hid hb
  have HM := Lib.hid hM
  clear hroom hds hh ho hxb hg hb hM
  go_enter Tryz.func72, Tryz.ntmps72
  go_wp2_with (first
    | (at_builtin; refine wpList_appN rfl (.tmp 15) (.tmp 17) rfl T22 (n := l.length) (m := 1) rfl rfl rfl O0.out rfl S0.out (by have := Hroom.out; omega) ?_; intro a1 c1 w1 o1 g1 b1; have O1 := Lib.hid o1; have G1 := Lib.hid g1; have B1 := Lib.hid b1; clear o1 g1 b1)
    | (at_builtin; refine wpList_appN rfl (.tmp 18) (.tmp 19) rfl T22 (n := l.length + 1) (m := d.size) (by simp) Hds.out rfl O1.out rfl (srcB_str w1 U9 d) (by have := Hroom.out; omega) ?_; intro a2 c2 w2 o2 g2 b2; have O2 := Lib.hid o2; have G2 := Lib.hid g2; have B2 := Lib.hid b2; clear o2 g2 b2)
    | (at_builtin; refine wpList_appN rfl (.tmp 20) (.tmp 22) rfl T22 (n := l.length + 1 + d.size) (m := 1) (by have := Hds.out; rw [List.length_append, List.length_append, this]; simp) rfl rfl (O2.out.alloc _) rfl (srcB_of Tryz.underlying22 (isB_one w2 ec _)) (by have := Hroom.out; omega) ?_; intro a3 c3 w3 o3 g3 b3; have O3 := Lib.hid o3
       have X1 := Lib.hid (own_next Hxb.out Hb.out (Nat.lt_of_lt_of_le HM.out (by simp)) B1.out)
       have F1 : Hid (Fr (offM B M) w w1) := (((Fr.refl (offM B M) w).alloc _).trans (G1.out.mono (fun k _ hk => Hxb.out k hk)))
       have X2 := Lib.hid (own_next X1.out Hb.out (F1.out.lt HM.out) B2.out)
       have F2 : Hid (Fr (offM B M) w w2) := F1.out.trans (G2.out.mono (fun k _ hk => X1.out k hk))
       have X3 := Lib.hid (own_next X2.out Hb.out (Nat.lt_of_lt_of_le (F2.out.lt HM.out) (by simp)) b3)
       have F3 : Hid (Fr (offM B M) w w3) := (F2.out.alloc _).trans (g3.mono (fun k _ hk => X2.out k hk))
       have h3 := F3.out.heap Hh.out (fun x => x.2 rfl)
       obtain ⟨e3, f3⟩ := cells1 h3
       have H3 := Lib.hid h3
       clear o3 g3 b3 h3))
  have FB : Below B w w3 := F3.out.belowB (Nat.le_of_lt (Nat.lt_of_le_of_lt Hb.out HM.out))
  go_ret
  exact ⟨rfl, by have e : l ++ (lc :: d.data.toList ++ [ec]) = l ++ [lc] ++ d.data.toList ++ [ec] := by simp
                 have := Wr.store Hg.out Hb.out H3.out (n := l.length + 1 + d.size + 1) (by have := Hds.out; rw [List.length_append, List.length_append, List.length_append, this]; simp) O3.out X3.out
                 rw [← e] at this
                 simpa using this, FB.setCell Hb.out _⟩

/-- Uint. -/
theorem wuint_any (B M : Nat) (l : List UInt8) (u : Nat) (w : World) (h : Wr w B M l) (hu : u < 18446744073709551616) (hroom : l.length + (Lib.decDigits u).length + 2 ≤ roomB) (hE : Env w) :
    Calls Tryz.prog 32 #[.pointer (some ⟨M, 0, none⟩), .int .u64 u] w fun e w' => e = .returned (.pointer (some ⟨M, 0, none⟩)) ∧ Wr w' B M (l ++ (110 :: Lib.decDigits u ++ [59])) ∧ Below B w w' := by
  have H1 := Lib.hid (formatUint_any u w hu hE)
  have hb : B ≤ w.heap.size := Nat.le_of_lt (Nat.lt_of_le_of_lt h.base h.lt)
  have H2 : Hid (∀ w1, Below w.heap.size w w1 → Calls Tryz.prog 72 #[.pointer (some ⟨M, 0, none⟩), .int .u8 110, .string (str (Lib.decDigits u)), .int .u8 59] w1 fun e w' => e = .returned (.pointer (some ⟨M, 0, none⟩)) ∧ Wr w' B M (l ++ (110 :: Lib.decDigits u ++ [59])) ∧ Below B w w') := by
    intro w1 b1
    refine (lay_any B M l 110 59 110 59 (str (Lib.decDigits u)) w1 (h.below b1) rfl rfl (by rw [str_size]; exact hroom)).mono ?_
    rintro e w2 ⟨rfl, h2, b2⟩
    exact ⟨rfl, h2, (b1.mono hb).trans b2⟩
  clear hu hroom hE h hb
  generalize Lib.decDigits u = ds at *
  go_enter Tryz.func32, Tryz.ntmps32
  go_wp2_with fail
  refine H1.out.mono ?_
  rintro v w1 ⟨rfl, b1⟩
  have H3 := Lib.hid (H2.out w1 b1)
  clear H1 H2 b1
  go_wp2_with fail
  refine H3.out.mono ?_
  rintro v w2 ⟨rfl, h2⟩
  have H4 := Lib.hid h2
  clear H3 h2
  go_wp2
  go_ret
  exact ⟨rfl, by simpa using H4.out⟩

/-- Int. -/
theorem wint_any (B M : Nat) (l : List UInt8) (u : Int) (w : World) (h : Wr w B M l) (h0 : -9223372036854775808 ≤ u) (h1 : u ≤ 9223372036854775807) (hroom : l.length + (Lib.itoa u).length + 2 ≤ roomB) (hE : Env w) :
    Calls Tryz.prog 80 #[.pointer (some ⟨M, 0, none⟩), .int .i64 u] w fun e w' => e = .returned (.pointer (some ⟨M, 0, none⟩)) ∧ Wr w' B M (l ++ (105 :: Lib.itoa u ++ [59])) ∧ Below B w w' := by
  have H1 := Lib.hid (itoa_any u w h0 h1 hE)
  have hb : B ≤ w.heap.size := Nat.le_of_lt (Nat.lt_of_le_of_lt h.base h.lt)
  have H2 : Hid (∀ w1, Below w.heap.size w w1 → Calls Tryz.prog 72 #[.pointer (some ⟨M, 0, none⟩), .int .u8 105, .string (str (Lib.itoa u)), .int .u8 59] w1 fun e w' => e = .returned (.pointer (some ⟨M, 0, none⟩)) ∧ Wr w' B M (l ++ (105 :: Lib.itoa u ++ [59])) ∧ Below B w w') := by
    intro w1 b1
    refine (lay_any B M l 105 59 105 59 (str (Lib.itoa u)) w1 (h.below b1) rfl rfl (by rw [str_size]; exact hroom)).mono ?_
    rintro e w2 ⟨rfl, h2, b2⟩
    exact ⟨rfl, h2, (b1.mono hb).trans b2⟩
  clear h0 h1 hroom hE h hb
  generalize Lib.itoa u = ds at *
  go_enter Tryz.func80, Tryz.ntmps80
  go_wp2_with fail
  refine H1.out.mono ?_
  rintro v w1 ⟨rfl, b1⟩
  have H3 := Lib.hid (H2.out w1 b1)
  clear H1 H2 b1
  go_wp2_with fail
  refine H3.out.mono ?_
  rintro v w2 ⟨rfl, h2⟩
  have H4 := Lib.hid h2
  clear H3 h2
  go_wp2
  go_ret
  exact ⟨rfl, by simpa using H4.out⟩

/-- Done: a copy of what was laid. -/
theorem wdone_any (B M : Nat) (l : List UInt8) (w : World) (h : Wr w B M l) (hroom : l.length ≤ roomB) :
    Calls Tryz.prog 35 #[.pointer (some ⟨M, 0, none⟩)] w fun e w' => (∃ a c, e = .returned (.slice a l.length c) ∧ OwnB w' (.slice a l.length c) l ∧ ∀ b, Value.ownBlock (.slice a l.length c) = some b → w.heap.size ≤ b) ∧ Below w.heap.size w w' := by
  obtain ⟨_, _, a, c, hh, ho, _⟩ := h
  obtain ⟨c0, f0⟩ := cells1 hh
  have H1 := Lib.hid (clone_any (.slice a l.length c) l w ho.isB hroom)
  clear hh ho hroom
  go_enter Tryz.func35, Tryz.ntmps35
  go_wp2_with fail
  refine H1.out.mono ?_
  rintro v w1 ⟨⟨a1, c1, rfl, h2⟩, b1⟩
  have H3 := Lib.hid h2
  have B1 := Lib.hid b1
  clear H1 h2 b1
  go_wp2
  go_ret
  exact ⟨⟨a1, c1, rfl, H3.out⟩, B1.out⟩

def emptyB : Value → Nat
  | .string s => if s.size = 0 then 1 else 0
  | _ => 0

theorem str_app (l m : List UInt8) : str l ++ str m = str (l ++ m) := by
  apply ByteArray.ext
  rw [ByteArray.data_append]
  simp [str]
theorem digit_piece : ∀ d, d < 10 → (⟨#[48, 49, 50, 51, 52, 53, 54, 55, 56, 57]⟩ : ByteArray).extract d (d + 1) = str [UInt8.ofNat (48 + d)] := by decide
theorem decDigits_le (u : Nat) (hu : u < 18446744073709551616) : (Lib.decDigits u).length ≤ 20 := by
  rw [Lib.decDigits_length]
  exact Lib.nDigits_le20 u hu
/-- One round of the reference's digits. -/
theorem digits_step {u n : Nat} {s : List UInt8} (h : Lib.decDigits u = Lib.decDigits n ++ s) :
    (n / 10 = 0 ∧ [UInt8.ofNat (48 + n % 10)] ++ s ≠ [] ∧ Lib.decDigits u = [UInt8.ofNat (48 + n % 10)] ++ s) ∨
    ((0 < n / 10 ∨ [UInt8.ofNat (48 + n % 10)] ++ s = []) ∧ Lib.decDigits u = Lib.decDigits (n / 10) ++ ([UInt8.ofNat (48 + n % 10)] ++ s)) := by
  by_cases hn : n < 10
  · rw [Lib.decDigits_one hn] at h
    exact .inl ⟨by omega, by simp, by rw [h, Nat.mod_eq_of_lt hn]⟩
  · have e : Lib.decDigits n = Lib.decDigits (n / 10) ++ [UInt8.ofNat (48 + n % 10)] := by rw [Lib.decDigits, dif_neg hn]
    rw [e] at h
    exact .inr ⟨.inl (by omega), by rw [h, List.append_assoc]⟩

set_option maxHeartbeats 2000000 in
set_option maxRecDepth 100000 in
theorem digitsW_any (u : Nat) (w : World) (hu : u < 18446744073709551616) :
    Calls Tryz.prog 84 #[.int .u64 u] w fun e w' => e = .returned (.string (str (Lib.decDigits u))) ∧ w = w' := by
  have Hlen := Lib.hid (decDigits_le u hu)
  have Hu := Lib.hid hu
  clear hu
  go_enter Tryz.func84, Tryz.ntmps84
  go_wp2
  go_loop [0, 3] (fun v0 v3 => ∃ (n : Nat) (s : List UInt8), v0 = .int .u64 (n : Int) ∧ v3 = .string (str s) ∧ Hid (n < 18446744073709551616) ∧ Hid ((n = 0 ∧ s ≠ [] ∧ Lib.decDigits u = s) ∨ ((0 < n ∨ s = []) ∧ Lib.decDigits u = Lib.decDigits n ++ s))) (fun v0 v3 => 2 * (intOf v0).toNat + emptyB v3)
  case atStart => exact ⟨u, [], rfl, rfl, Hu, .inr ⟨.inr rfl, by simp⟩⟩
  case round =>
    obtain ⟨n, s, rfl, rfl, Hn, H⟩ := hrel
    by_cases h0 : 0 < n
    · have h1 : (0 : Int) < n := by omega
      have HD : Hid (Lib.decDigits u = Lib.decDigits n ++ s) := by rcases H.out with ⟨h, _⟩ | ⟨_, h⟩; exact absurd h (by omega); exact h
      have hb : min (n % 10 + 1) 10 - n % 10 + (str s).size ≤ 9223372036854775807 := by
        have h2 := Hlen.out
        rw [HD.out, List.length_append] at h2
        rw [str_size]
        omega
      have hw : IntKind.u64.wrap ((n : Int) / 10) = (n : Int) / 10 := by have := Hn.out; rw [IntKind.wrap_u64]; omega
      go_wp2
      rw [digit_piece (n % 10) (Nat.mod_lt _ (by decide)), str_app]
      refine ⟨⟨n / 10, _, by simp, rfl, by have := Hn.out; exact Lib.hid (by omega), digits_step HD.out⟩, ?_⟩
      simp [intOf, emptyB, str_size]
      omega
    · obtain rfl : n = 0 := by omega
      by_cases hs : s = []
      · subst hs
        have HD : Hid (Lib.decDigits u = Lib.decDigits 0 ++ []) := by rcases H.out with ⟨_, h, _⟩ | ⟨_, h⟩; exact absurd rfl h; exact h
        have ht : (str []).toList.isEmpty = true := by rw [ByteArray.toList_eq]; rfl
        have hb : ¬ (9223372036854775807 < 1 + (str []).size) := by rw [str_size]; decide
        go_wp2
        rw [digit_piece 0 (by decide), str_app]
        refine ⟨⟨0, _, rfl, rfl, Lib.hid (by decide), digits_step HD.out⟩, ?_⟩
        simp [intOf, emptyB, str_size]
      · have HD : Hid (Lib.decDigits u = s) := by rcases H.out with ⟨_, _, h⟩ | ⟨h, _⟩; exact h; rcases h with h | h; exact absurd h (by omega); exact absurd h hs
        have ht : (str s).toList.isEmpty = false := by rw [ByteArray.toList_eq]; show s.isEmpty = false; cases s <;> simp_all
        clear hs
        go_wp2
        go_ret
        rw [HD.out]
        exact ⟨rfl, rfl⟩

theorem own_new {H : Nat} {a' : Option Addr} {n c : Nat} (b1 : Value.ownBlock (.slice a' n c) = Value.ownBlock (.slice none 0 0) ∨ ∃ g, a' = some ⟨g, 0, none⟩ ∧ H ≤ g) : ∀ b, Value.ownBlock (.slice a' n c) = some b → H ≤ b := by
  intro b hb
  rcases b1 with b1 | ⟨g, rfl, hg⟩
  · rw [b1] at hb; simp [Value.ownBlock] at hb
  · simp [Value.ownBlock] at hb; omega
theorem own_next2 {w w1 : World} {v : Value} {a' : Option Addr} {n c : Nat} (f : Below w.heap.size w w1) (h : ∀ b, v.ownBlock = some b → w.heap.size ≤ b)
    (b1 : Value.ownBlock (.slice a' n c) = v.ownBlock ∨ ∃ g, a' = some ⟨g, 0, none⟩ ∧ w1.heap.size ≤ g) : ∀ b, Value.ownBlock (.slice a' n c) = some b → w.heap.size ≤ b := by
  intro b hb
  rcases b1 with b1 | ⟨g, rfl, hg⟩
  · exact h b (b1 ▸ hb)
  · have := f.size
    simp [Value.ownBlock] at hb; omega
theorem below_then {w w1 w2 : World} (f : Below w.heap.size w w1) (g : Fr (fun k => w.heap.size ≤ k) w1 w2) : Below w.heap.size w w2 :=
  f.trans ⟨g.os, g.tape, g.output, g.size, fun k hk => g.block k (Nat.lt_of_lt_of_le hk f.size) (by omega)⟩

set_option maxHeartbeats 1000000 in
/-- add: a fresh slice of what was there and the text. -/
theorem add_any (a : Option Addr) (n c : Nat) (l : List UInt8) (d : ByteArray) (w : World) (hl : l.length = n) (hv : IsB w (.slice a n c) l) (hroom : n + d.size ≤ roomB) :
    Calls Tryz.prog 83 #[.slice a n c, .string d] w fun e w' => (∃ a' c', e = .returned (.slice a' (n + d.size) c') ∧ OwnB w' (.slice a' (n + d.size) c') (l ++ d.data.toList) ∧ ∀ b, Value.ownBlock (.slice a' (n + d.size) c') = some b → w.heap.size ≤ b) ∧ Below w.heap.size w w' := by
  have hds : d.data.toList.length = d.size := Array.length_toList
  have Hds := Lib.hid hds
  have Hl := Lib.hid hl
  have Hroom := Lib.hid hroom
  have S0 : Hid (SrcB Tryz.prog 22 w (.slice a n c) l) := srcB_of Tryz.underlying22 hv
  clear hds hl hroom hv
  go_enter Tryz.func83, Tryz.ntmps83
  go_wp2_with (first
    | (at_builtin; refine wpList_appN rfl (.tmp 6) (.tmp 7) rfl T22 (n := 0) (m := n) rfl Hl.out rfl (OwnB.nil w) rfl S0.out (by have := Hroom.out; omega) ?_; intro a1 c1 w1 o1 g1 b1; rw [Nat.zero_add] at o1 b1; have O1 := Lib.hid o1; have G1 := Lib.hid (Fr.below (g1.mono (Y := fun _ => False) (fun k _ hk => nomatch hk))); have B1 := Lib.hid (own_new b1); clear o1 g1 b1)
    | (at_builtin; refine wpList_appN rfl (.tmp 9) (.tmp 10) rfl T22 (n := n) (m := d.size) Hl.out Hds.out rfl O1.out rfl (srcB_str w1 U9 d) Hroom.out ?_; intro a2 c2 w2 o2 g2 b2; have O2 := Lib.hid o2; have G2 := Lib.hid (below_then G1.out (Fr.mono (Y := fun k => w.heap.size ≤ k) g2 (fun k _ hk => B1.out k hk))); have B2 := Lib.hid (own_next2 G1.out B1.out b2); clear o2 g2 b2))
  go_ret
  exact ⟨⟨_, _, rfl, O2.out, B2.out⟩, G2.out⟩
/-- What the reference's writer hands back. -/
def RW (w w' : World) (e : Ending) (l : List UInt8) : Prop :=
  (∃ a n c, e = .returned (.slice a n c) ∧ l.length = n ∧ OwnB w' (.slice a n c) l ∧ ∀ b, Value.ownBlock (.slice a n c) = some b → w.heap.size ≤ b) ∧ Below w.heap.size w w'
theorem add_at (a : Option Addr) (n c : Nat) (l m : List UInt8) (d : ByteArray) (w : World) (hl : l.length = n) (hd : d = str m) (hv : IsB w (.slice a n c) l) (hroom : n + m.length ≤ roomB) :
    Calls Tryz.prog 83 #[.slice a n c, .string d] w fun e w' => RW w w' e (l ++ m) := by
  subst hd hl
  refine (add_any a _ c l (str m) w rfl hv (by rw [str_size]; exact hroom)).mono ?_
  rintro e w' ⟨⟨a', c', rfl, o, h⟩, b⟩
  rw [str_size] at o h ⊢
  rw [str_list] at o
  exact ⟨⟨a', _, c', rfl, by rw [List.length_append], o, h⟩, b⟩

set_option maxHeartbeats 1000000 in
theorem ruint_w (a : Option Addr) (n c : Nat) (l : List UInt8) (u : Nat) (w : World) (hl : l.length = n) (hv : IsB w (.slice a n c) l) (hu : u < 18446744073709551616) (hroom : n + 100 ≤ roomB) :
    Calls Tryz.prog 36 #[.slice a n c, .int .u64 u] w fun e w' => RW w w' e (l ++ (110 :: Lib.decDigits u ++ [59])) := by
  have hlen := decDigits_le u hu
  have HD := Lib.hid (digitsW_any u w hu)
  have HA := Lib.hid (add_at a n c l (110 :: Lib.decDigits u ++ [59]) (⟨#[110]⟩ ++ str (Lib.decDigits u) ++ ⟨#[59]⟩) w hl (by
    rw [show (⟨#[110]⟩ : ByteArray) = str [110] from rfl, show (⟨#[59]⟩ : ByteArray) = str [59] from rfl, str_app, str_app]; rfl) hv (by simp; omega))
  clear hu hv hl hroom
  generalize Lib.decDigits u = ds at *
  have h1 : 1 + (str ds).size ≤ 9223372036854775807 := by rw [str_size]; omega
  have h2 : 1 + (str ds).size + 1 ≤ 9223372036854775807 := by rw [str_size]; omega
  clear hlen
  go_enter Tryz.func36, Tryz.ntmps36
  go_wp2_with fail
  refine HD.out.mono ?_
  rintro e w1 ⟨rfl, rfl⟩
  clear HD
  go_wp2_with fail
  refine HA.out.mono ?_
  rintro e w2 ⟨⟨a', n', c', rfl, hh⟩, b⟩
  have HH := Lib.hid hh
  have HB := Lib.hid b
  clear HA hh b h1 h2
  go_wp2
  go_ret
  exact ⟨⟨a', n', c', rfl, HH.out⟩, HB.out⟩

set_option maxHeartbeats 1000000 in
theorem rint_w (a : Option Addr) (n c : Nat) (l : List UInt8) (u : Int) (w : World) (hl : l.length = n) (hv : IsB w (.slice a n c) l) (hu0 : -9223372036854775808 ≤ u) (hu1 : u ≤ 9223372036854775807) (hroom : n + 100 ≤ roomB) :
    Calls Tryz.prog 87 #[.slice a n c, .int .i64 u] w fun e w' => RW w w' e (l ++ (105 :: Lib.itoa u ++ [59])) := by
  by_cases hneg : u < 0
  · obtain ⟨k, hk⟩ : ∃ k : Nat, -u = k := ⟨u.natAbs, by omega⟩
    have hit : Lib.itoa u = 45 :: Lib.decDigits k := by rw [show u = -(k : Int) by omega, Lib.itoa_neg k (by omega)]
    have hlen := decDigits_le k (by omega)
    have HD := Lib.hid (digitsW_any k w (by omega))
    have HA := Lib.hid (add_at a n c l (105 :: 45 :: Lib.decDigits k ++ [59]) (⟨#[105, 45]⟩ ++ str (Lib.decDigits k) ++ ⟨#[59]⟩) w hl (by
      rw [show (⟨#[105, 45]⟩ : ByteArray) = str [105, 45] from rfl, show (⟨#[59]⟩ : ByteArray) = str [59] from rfl, str_app, str_app]; rfl) hv (by simp; omega))
    rw [hit]
    have w1 : IntKind.i64.wrap (u + 1) = u + 1 := by rw [IntKind.wrap_i64]; omega
    have w2 : IntKind.i64.wrap (-(u + 1)) = -(u + 1) := by rw [IntKind.wrap_i64]; omega
    have w3 : IntKind.u64.wrap (-(u + 1)) = -(u + 1) := by rw [IntKind.wrap_u64]; omega
    have w4 : IntKind.u64.wrap (-(u + 1) + 1) = k := by rw [IntKind.wrap_u64]; omega
    clear hu0 hu1 hv hl hroom hit
    generalize Lib.decDigits k = ds at *
    have h1 : 2 + (str ds).size ≤ 9223372036854775807 := by rw [str_size]; omega
    have h2 : 2 + (str ds).size + 1 ≤ 9223372036854775807 := by rw [str_size]; omega
    clear hlen hk
    go_enter Tryz.func87, Tryz.ntmps87
    go_wp2_with fail
    refine HD.out.mono ?_
    rintro e w1 ⟨rfl, rfl⟩
    clear HD
    go_wp2_with fail
    refine HA.out.mono ?_
    rintro e w2 ⟨⟨a', n', c', rfl, hh⟩, b⟩
    have HH := Lib.hid hh
    have HB := Lib.hid b
    clear HA hh b h1 h2
    go_wp2
    go_ret
    exact ⟨⟨a', n', c', rfl, HH.out⟩, HB.out⟩
  · obtain ⟨k, rfl⟩ : ∃ k : Nat, u = k := ⟨u.toNat, by omega⟩
    rw [Lib.itoa_nonneg]
    have hlen := decDigits_le k (by omega)
    have HD := Lib.hid (digitsW_any k w (by omega))
    have HA := Lib.hid (add_at a n c l (105 :: Lib.decDigits k ++ [59]) (⟨#[105]⟩ ++ str (Lib.decDigits k) ++ ⟨#[59]⟩) w hl (by
      rw [show (⟨#[105]⟩ : ByteArray) = str [105] from rfl, show (⟨#[59]⟩ : ByteArray) = str [59] from rfl, str_app, str_app]; rfl) hv (by simp; omega))
    have w3 : IntKind.u64.wrap (k : Int) = k := by rw [IntKind.wrap_u64]; omega
    clear hu0 hu1 hv hl hroom
    generalize Lib.decDigits k = ds at *
    have h1 : 1 + (str ds).size ≤ 9223372036854775807 := by rw [str_size]; omega
    have h2 : 1 + (str ds).size + 1 ≤ 9223372036854775807 := by rw [str_size]; omega
    clear hlen
    go_enter Tryz.func87, Tryz.ntmps87
    go_wp2_with fail
    refine HD.out.mono ?_
    rintro e w1 ⟨rfl, rfl⟩
    clear HD
    go_wp2_with fail
    refine HA.out.mono ?_
    rintro e w2 ⟨⟨a', n', c', rfl, hh⟩, b⟩
    have HH := Lib.hid hh
    have HB := Lib.hid b
    clear HA hh b h1 h2
    go_wp2
    go_ret
    exact ⟨⟨a', n', c', rfl, HH.out⟩, HB.out⟩
set_option maxRecDepth 100000 in
set_option maxHeartbeats 2000000 in
theorem rbytes_w (a : Option Addr) (n c : Nat) (l : List UInt8) (x : Option Addr) (xn xc : Nat) (d : List UInt8) (w : World) (hl : l.length = n) (hd : d.length = xn) (hv : IsB w (.slice a n c) l) (hx : IsB w (.slice x xn xc) d) (hroom : n + xn + 100 ≤ roomB) :
    Calls Tryz.prog 37 #[.slice a n c, .slice x xn xc] w fun e w' => RW w w' e (l ++ (98 :: Lib.decDigits xn ++ [58]) ++ d) := by
  subst hd
  have hdl := hx.len
  have hu : d.length < 18446744073709551616 := by simp only [maxLen] at hdl; omega
  have hlen := decDigits_le d.length hu
  have hwrap : IntKind.u64.wrap (d.length : Int) = (d.length : Int) := by rw [IntKind.wrap_u64]; omega
  have HD := Lib.hid (fun W : World => digitsW_any d.length W hu)
  have HA : Hid (∀ W, Hid (Below w.heap.size w W) → Calls Tryz.prog 83 #[.slice a n c, .string (⟨#[98]⟩ ++ str (Lib.decDigits d.length) ++ ⟨#[58]⟩ ++ str d)] W fun e w' => (∃ a n c, e = .returned (.slice a n c) ∧ Hid ((l ++ (98 :: Lib.decDigits d.length ++ [58]) ++ d).length = n ∧ OwnB w' (.slice a n c) (l ++ (98 :: Lib.decDigits d.length ++ [58]) ++ d) ∧ ∀ b, Value.ownBlock (.slice a n c) = some b → w.heap.size ≤ b)) ∧ Hid (Below w.heap.size w w')) := fun W hW => by
    have := add_at a n c l ((98 :: Lib.decDigits d.length ++ [58]) ++ d) (⟨#[98]⟩ ++ str (Lib.decDigits d.length) ++ ⟨#[58]⟩ ++ str d) W hl (by
      rw [show (⟨#[98]⟩ : ByteArray) = str [98] from rfl, show (⟨#[58]⟩ : ByteArray) = str [58] from rfl, str_app, str_app, str_app]; rfl) (hv.below hW.out) (by simp; omega)
    refine this.mono ?_
    rw [← List.append_assoc]
    rintro e w' ⟨⟨a', n', c', rfl, h1, h2, h3⟩, b⟩
    exact ⟨⟨a', n', c', rfl, h1, h2, fun b hb => Nat.le_trans hW.out.size (h3 b hb)⟩, hW.out.trans (b.mono hW.out.size)⟩
  have ecv : ∀ W : World, Hid (Below w.heap.size w W) → (convert 22 9 (.slice x d.length xc)).run Tryz.prog W = .ok (.string (str d)) W := fun W h => run_toStr T22 U9 (hx.below h.out)
  have S0 : Hid (Below w.heap.size w w.drew) := (Below.refl _ _).drew
  have h1 : ¬ 9223372036854775807 < 1 + (str (Lib.decDigits d.length)).size := by rw [str_size]; omega
  have h2 : ¬ 9223372036854775807 < 1 + (str (Lib.decDigits d.length)).size + 1 := by rw [str_size]; omega
  have h3 : ¬ 9223372036854775807 < 1 + (str (Lib.decDigits d.length)).size + 1 + (str d).size := by rw [str_size, str_size]; simp only [maxLen] at hdl; simp only [roomB] at hroom; omega
  clear hv hx hroom hl hlen hdl
  generalize hL : l ++ (98 :: Lib.decDigits d.length ++ [58]) ++ d = L at *
  clear hL
  generalize hm : d.length = m at *
  generalize Lib.decDigits m = ds at *
  generalize str d = sd at *
  clear hm
  go_enter Tryz.func37, Tryz.ntmps37
  go_wp2_with fail
  go_region_held3 (fun W => Hid (Below w.heap.size w W)) (assumption)
    (first
      | (go_at_call 84; refine (HD.out _).mono ?_; rintro e w' ⟨rfl, rfl⟩)
      | (go_at_call 83; refine (HA.out _ ?_).mono ?_; assumption; rintro e w' ⟨⟨a', n', c', rfl, hh⟩, hk⟩))
  go_wp2
  go_ret
  exact ⟨⟨_, _, _, rfl, hh.out⟩, hk.out⟩
set_option maxHeartbeats 2000000 in
theorem rparts_any (a b : Nat) (w : World) (ha : a ≤ 1099511627776) (hb : b ≤ 1099511627776) :
    Calls Tryz.prog 124 #[.complex .f64 (FL.fB a) (FL.fB b)] w fun e w' => e = .returned (.tuple #[.int .i64 a, .int .i64 b, .int .i64 0]) ∧ w = w' := by
  have HM := rmayQ_any a b w (by omega) (by omega)
  rw [decide_eq_true ⟨ha, hb⟩] at HM
  have HM1 := Lib.hid HM
  have c1 := fun w => run_toInt a w ha
  have c2 := fun w => run_toInt b w hb
  clear HM ha hb
  generalize FL.fB a = x at *
  generalize FL.fB b = y at *
  go_enter Tryz.func124, Tryz.ntmps124
  go_wp2_with fail
  refine HM1.out.mono ?_
  rintro e w1 ⟨rfl, rfl⟩
  go_wp2
  go_ret3
  exact ⟨rfl, rfl⟩
set_option maxHeartbeats 1000000 in
theorem rtext_w (a : Option Addr) (n c : Nat) (l d : List UInt8) (w : World) (hl : l.length = n) (hv : IsB w (.slice a n c) l) (hd : d.length ≤ 1099511627776) (hroom : n + d.length + 100 ≤ roomB) :
    Calls Tryz.prog 86 #[.slice a n c, .string (str d)] w fun e w' => RW w w' e (l ++ QT.xB d) := by
  have hu : d.length < 18446744073709551616 := by omega
  have hlen := decDigits_le d.length hu
  have hwrap : IntKind.u64.wrap ((str d).size : Int) = (d.length : Int) := by rw [IntKind.wrap_u64, str_size]; omega
  have HD := Lib.hid (digitsW_any d.length w hu)
  have HA := Lib.hid (add_at a n c l (QT.xB d) (⟨#[116]⟩ ++ str (Lib.decDigits d.length) ++ ⟨#[58]⟩ ++ str d) w hl (by
      rw [show (⟨#[116]⟩ : ByteArray) = str [116] from rfl, show (⟨#[58]⟩ : ByteArray) = str [58] from rfl, str_app, str_app, str_app]; rfl) hv (by simp [QT.xB]; omega))
  have h1 : ¬ 9223372036854775807 < 1 + (str (Lib.decDigits d.length)).size := by rw [str_size]; omega
  have h2 : ¬ 9223372036854775807 < 1 + (str (Lib.decDigits d.length)).size + 1 := by rw [str_size]; omega
  have h3 : ¬ 9223372036854775807 < 1 + (str (Lib.decDigits d.length)).size + 1 + (str d).size := by rw [str_size, str_size]; omega
  clear hv hroom hl hlen hu hd
  generalize QT.xB d = xd at *
  generalize hm : d.length = m at *
  generalize Lib.decDigits m = ds at *
  generalize str d = sd at *
  clear hm
  go_enter Tryz.func86, Tryz.ntmps86
  go_wp2_with fail
  refine HD.out.mono ?_
  rintro e w1 ⟨rfl, rfl⟩
  clear HD
  go_wp2_with fail
  refine HA.out.mono ?_
  rintro e w2 ⟨⟨a', n', c', rfl, hh⟩, b⟩
  have HH := Lib.hid hh
  have HB := Lib.hid b
  clear HA hh b
  go_wp2
  go_ret
  exact ⟨⟨a', n', c', rfl, HH.out⟩, HB.out⟩

set_option maxHeartbeats 2000000 in
theorem rputA_w (a : Option Addr) (n c : Nat) (l : List UInt8) (x y : Nat) (w : World) (hl : l.length = n) (hv : IsB w (.slice a n c) l) (hx : x ≤ 1099511627776) (hy : y ≤ 1099511627776) (hroom : n + 300 ≤ roomB) :
    Calls Tryz.prog 85 #[.slice a n c, .complex .f64 (FL.fB x) (FL.fB y)] w fun e w' => RW w w' e (l ++ PK.uB x ++ PK.uB y) := by
  have HP := Lib.hid (fun W : World => rparts_any x y W hx hy)
  have S0 : Hid (SrcB Tryz.prog 22 w (.slice a n c) l) := srcB_of Tryz.underlying22 hv
  have HU1 := Lib.hid (fun (W : World) (a' : Option Addr) (c' : Nat) (h : OwnB W (.slice a' n c') l) => ruint_w a' n c' l x W hl h.isB (by omega) (by omega))
  have hu := PK.uB_len x (by omega)
  have HU2 := Lib.hid (fun (W : World) (a' : Option Addr) (n' c' : Nat) (hn : (l ++ PK.uB x).length = n') (h : OwnB W (.slice a' n' c') (l ++ PK.uB x)) => ruint_w a' n' c' (l ++ PK.uB x) y W hn h.isB (by omega) (by rw [List.length_append] at hn; omega))
  have wx : IntKind.u64.wrap (x : Int) = (x : Int) := by rw [IntKind.wrap_u64]; omega
  have wy : IntKind.u64.wrap (y : Int) = (y : Int) := by rw [IntKind.wrap_u64]; omega
  have HL := Lib.hid hl
  have HR := Lib.hid hroom
  clear hl hv hx hy hroom hu
  generalize FL.fB x = fx at *
  generalize FL.fB y = fy at *
  go_enter Tryz.func85, Tryz.ntmps85
  go_wp2_with (at_builtin; refine wpList_appN rfl _ _ rfl T22 (n := 0) (m := n) rfl HL.out rfl (OwnB.nil w) rfl S0.out (by have := HR.out; omega) ?_; intro a1 c1 w1 o1 g1 b1; rw [List.nil_append] at o1; rw [Nat.zero_add] at o1 b1; have O1 := Lib.hid o1; have G1 := Lib.hid (Fr.below (g1.mono (Y := fun _ => False) (fun k _ hk => nomatch hk))); have B1 := Lib.hid (own_new b1); clear o1 g1 b1)
  refine (HP.out w1).mono ?_
  rintro e w2 ⟨rfl, rfl⟩
  clear HP
  go_wp2_with fail
  refine (HU1.out w1 a1 c1 O1.out).mono ?_
  rintro e w2 ⟨⟨a2, n2, c2, rfl, hn2, o2, h2⟩, b2⟩
  have O2 := Lib.hid o2
  have N2 := Lib.hid hn2
  have G2 := Lib.hid (G1.out.trans (b2.mono G1.out.size))
  clear HU1 o2 hn2 h2 b2 G1 B1 O1
  go_wp2_with fail
  refine (HU2.out w2 a2 n2 c2 N2.out O2.out).mono ?_
  rintro e w3 ⟨⟨a3, n3, c3, rfl, hn3, o3, h3⟩, b3⟩
  have O3 := Lib.hid o3
  have N3 := Lib.hid hn3
  have G3 := Lib.hid (G2.out.trans (b3.mono G2.out.size))
  have B3 := Lib.hid (fun b hb => Nat.le_trans G2.out.size (h3 b hb))
  clear HU2 o3 hn3 h3 b3 G2 O2 N2
  go_wp2
  go_ret
  exact ⟨⟨a3, n3, c3, rfl, N3.out, O3.out, B3.out⟩, G3.out⟩
theorem IsB.own_lt {w : World} {a : Option Addr} {n c : Nat} {l : List UInt8} (h : IsB w (.slice a n c) l) (hl : l ≠ []) : ∀ k, Value.ownBlock (.slice a n c) = some k → k < w.heap.size := by
  obtain ⟨a', cap', he, h1, h2, h0, h3⟩ := h
  simp only [Value.slice.injEq] at he
  obtain ⟨rfl, rfl, rfl⟩ := he
  rcases h3 with h3 | ⟨b, o, rfl, hc⟩
  · exact absurd h3 hl
  · intro k hk
    simp [Value.ownBlock] at hk
    subst hk
    exact World.block_lt_of_cell? w _ (hc 0 (List.length_pos_iff.2 hl))

/-- After an append onto what was laid. -/
theorem Wr.app {w : World} {B M : Nat} {l : List UInt8} (h : Wr w B M l) : ∃ a c, w.cell? ⟨M, 0, none⟩ = some (.slice a l.length c) ∧ w.frozen? ⟨M, 0, none⟩ = false ∧ OwnB w (.slice a l.length c) l ∧
    ∀ (ys : List UInt8) (n m : Nat) (a1 : Option Addr) (c1 : Nat) (w1 : World), l.length = n → ys.length = m → OwnB w1 (.slice a1 (n + m) c1) (l ++ ys) → Fr (fun k => (Value.slice a l.length c).ownBlock = some k) w w1 →
      (Value.ownBlock (.slice a1 (n + m) c1) = (Value.slice a l.length c).ownBlock ∨ ∃ g, a1 = some ⟨g, 0, none⟩ ∧ w.heap.size ≤ g) →
      (w1.cell? ⟨M, 0, none⟩ = some (.slice a l.length c) ∧ w1.frozen? ⟨M, 0, none⟩ = false) ∧ Wr (w1.setCell ⟨M, 0, none⟩ (.slice a1 (n + m) c1)) B M (l ++ ys) ∧ Below B w (w1.setCell ⟨M, 0, none⟩ (.slice a1 (n + m) c1)) := by
  have hM := h.lt
  obtain ⟨hg, hb, a, c, hh, ho, hxb⟩ := h
  obtain ⟨c0, f0⟩ := cells1 hh
  refine ⟨a, c, c0, f0, ho, fun ys n m a1 c1 w1 hn hm o1 g1 b1 => ?_⟩
  have X1 := own_next hxb hb hM b1
  have F1 : Fr (offM B M) w w1 := g1.mono (fun k _ hk => hxb k hk)
  have h3 := F1.heap hh (fun x => x.2 rfl)
  exact ⟨cells1 h3, Wr.store hg hb h3 (by rw [List.length_append, hn, hm]) o1 X1, (F1.belowB (Nat.le_of_lt (Nat.lt_of_le_of_lt hb hM))).setCell hb _⟩

end Go.Proofs.YtkanjdijmdjbaaaGreatDoor
