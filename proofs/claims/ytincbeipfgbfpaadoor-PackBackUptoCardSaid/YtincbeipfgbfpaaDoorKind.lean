/-
  pack.Reader's Kind by a contract.
  Conditions: none but the reader's block.
-/
import Derived.Test.YtincbeipfgbfpaaDoorRd3
namespace Go.Proofs.YtincbeipfgbfpaaDoor
open Go Go.RowKit

set_option maxHeartbeats 1000000 in
/-- Kind. -/
theorem kind_any (N : Nat) (l : List UInt8) (k : Nat) (w : World) (h : Rd w N l k) :
    Calls Tryd.prog 34 #[.pointer (some ⟨N, 0, none⟩)] w fun e w' => e = .returned (.int .u8 ((PK.kindP l k : Nat) : Int)) ∧ Below w.heap.size w w' := by
  have HB := Lib.hid (begin_any N l k ⟨#[110, 105, 121, 122, 116, 98]⟩ w h (by decide))
  have hbe : (⟨#[110, 105, 121, 122, 116, 98]⟩ : ByteArray).data.toList = [110, 105, 121, 122, 116, 98] := rfl
  rw [hbe] at HB
  have H := Lib.hid h
  clear hbe
  cases k with
  | succ n =>
    have hk : PK.kindP l (n + 1) = 0 := by unfold PK.kindP; rw [if_pos (by simp)]
    rw [hk]
    obtain ⟨_, a, c, hh, _⟩ := h
    obtain ⟨c0, c1, _, _⟩ := cells2 hh
    unfold errV at c1
    clear hh hk HB
    go_enter Tryd.func34, Tryd.ntmps34
    go_wp2
    go_ret
    exact ⟨rfl, Below.refl _ _⟩
  | zero =>
    obtain ⟨_, a, c, hh, hv⟩ := h
    obtain ⟨c0, c1, _, _⟩ := cells2 hh
    unfold errV at c1
    have hN := H.out.lt
    by_cases hb : PK.begP [110, 105, 121, 122, 116, 98] l = 0
    · rw [hb] at HB
      have hl : l ≠ [] := by rintro rfl; simp [PK.begP] at hb
      obtain ⟨_, hl1, hl2, b, o, rfl, hc⟩ := hv.open_cons hl
      have hp : 0 < l.length := List.length_pos_iff.2 hl
      have hx0 := hc 0 hp
      rw [Nat.add_zero] at hx0
      have hk : ((PK.kindP l 0 : Nat) : Int) = at8 l 0 := by
        unfold PK.kindP
        rw [if_neg (by simp), if_neg (by simp [hb])]
        cases l with
        | nil => exact absurd rfl hl
        | cons x r => simp [at8]
      rw [hk]
      have hbl : b < w.heap.size := World.block_lt_of_cell? w _ hx0
      have Hp := Lib.hid hp
      generalize at8 l 0 = x at *
      clear hh hv hc hk hb hl hl1 hl2 hp
      replace HB : Hid (Calls Tryd.prog 36 #[.pointer (some ⟨N, 0, none⟩), .string ⟨#[110, 105, 121, 122, 116, 98]⟩] w fun e w' => e = .returned .nilIface ∧ Below w.heap.size w w') := HB
      go_enter Tryd.func34, Tryd.ntmps34
      go_wp2_with fail
      refine HB.out.mono ?_
      rintro v w1 ⟨rfl, b1⟩
      have d0 : w1.cell? ⟨N, 0, none⟩ = some (.slice (some ⟨b, o, none⟩) l.length c) := (b1.cell (p := ⟨N, 0, none⟩) hN).trans c0
      have d1 : w1.cell? ⟨b, o, none⟩ = some (.int .u8 x) := (b1.cell (p := ⟨b, o, none⟩) hbl).trans hx0
      have B1 := Lib.hid b1
      have hp := Hp.out
      clear b1 HB
      go_wp2
      go_ret
      exact ⟨rfl, B1.out⟩
    · obtain ⟨e, he⟩ : ∃ e, PK.begP [110, 105, 121, 122, 116, 98] l = e + 1 := ⟨PK.begP [110, 105, 121, 122, 116, 98] l - 1, by omega⟩
      have hk : PK.kindP l 0 = 0 := by unfold PK.kindP; rw [if_neg (by simp), if_pos (by simp [he])]
      rw [hk]
      rw [he] at HB
      unfold errV at HB
      clear hh hv hk hb he
      go_enter Tryd.func34, Tryd.ntmps34
      go_wp2_with fail
      refine HB.out.mono ?_
      rintro v w1 ⟨rfl, b1⟩
      have B1 := Lib.hid b1
      clear b1 HB
      go_wp2
      go_ret
      exact ⟨rfl, B1.out⟩
end Go.Proofs.YtincbeipfgbfpaaDoor
