/-
  pack.Reader's Text and Bytes, by contracts.
  Conditions: the listed variables read as listed ('Env'); what is read is at most 2^47 bytes long.
-/
import Derived.Test.YtbgockggbpmhnaaGreatDoorRd7
namespace Go.Proofs.YtbgockggbpmhnaaGreatDoor
open Go Go.RowKit

theorem run_any (N : Nat) (l : List UInt8) (k : Nat) (t : ByteArray) (lc : UInt8) (most : Int) (w : World) (hE : Env w) (h : Rd w N l k) (ht : t.data.toList = [lc]) (hm2 : most ≤ 9223372036854775807) (hl47 : l.length ≤ roomB) :
    Calls Tryz.prog 60 #[.pointer (some ⟨N, 0, none⟩), .string t, .int .i64 most] w fun v w' => RunR N w w' v (PK.runP lc most l k) := by
  by_cases hk : k = 0 ∧ most < 0
  · have e : PK.runP lc most l k = ([], l, 1) := by unfold PK.runP; rw [if_pos hk]
    obtain ⟨rfl, hm⟩ := hk
    rw [e]
    exact run_neg N l t lc most w hE h ht hm
  · rcases PK.numP_cases lc 58 1 l k with ⟨e, he, _⟩ | ⟨h1, h2, h3, h4⟩
    · have er : PK.runP lc most l k = ([], l, e + 1) := by unfold PK.runP; rw [if_neg hk, if_pos (by rw [he]), he]
      rw [er]
      exact run_bad N l k (e + 1) t lc most w hE h ht hk he
    · obtain ⟨k0, _, _, b2, b3, _⟩ := PK.numP_ok (lc := lc) (s := 58) (f := 1) (l := l) (k := k) (by rw [h4])
      subst k0
      have er : PK.runP lc most l 0 = if most < ((PK.numP lc 58 1 l 0).1 : Int) then ([], l, 2) else if l.length - (PK.numP lc 58 1 l 0).2.1 < (PK.numP lc 58 1 l 0).1 then ([], l, 12) else ((l.drop (PK.numP lc 58 1 l 0).2.1).take (PK.numP lc 58 1 l 0).1, l.drop ((PK.numP lc 58 1 l 0).2.1 + (PK.numP lc 58 1 l 0).1), 0) := by
        unfold PK.runP
        rw [if_neg hk, if_neg (by rw [h4]; simp)]
      rw [er]
      have he : PK.numP lc 58 1 l 0 = ((PK.numP lc 58 1 l 0).1, (PK.numP lc 58 1 l 0).2.1, true, 0) := by rw [h4]
      generalize (PK.numP lc 58 1 l 0).1 = n at *
      generalize (PK.numP lc 58 1 l 0).2.1 = e at *
      exact run_ok N l n e t lc most w hE h ht (by omega) hm2 b3 b2 hl47 he

/-- Bytes. -/
theorem bytes_any (N : Nat) (l : List UInt8) (k : Nat) (most : Int) (w : World) (hE : Env w) (h : Rd w N l k) (hm2 : most ≤ 9223372036854775807) (hl47 : l.length ≤ roomB) :
    Calls Tryz.prog 28 #[.pointer (some ⟨N, 0, none⟩), .int .i64 most] w fun v w' => RunR N w w' v (PK.runP 98 most l k) := by
  have HC := Lib.hid (run_any N l k ⟨#[98]⟩ 98 most w hE h rfl hm2 hl47)
  clear hE h hm2 hl47
  generalize PK.runP 98 most l k = R at *
  go_enter Tryz.func28, Tryz.ntmps28
  go_wp2_with fail
  refine HC.out.mono ?_
  rintro v w1 ⟨⟨a, n, c, rfl, h1⟩, h2⟩
  have H1 := Lib.hid h1
  have H2 := Lib.hid h2
  clear h1 h2 HC
  go_wp2
  go_ret
  exact ⟨⟨a, n, c, rfl, H1.out⟩, H2.out⟩

end Go.Proofs.YtbgockggbpmhnaaGreatDoor
