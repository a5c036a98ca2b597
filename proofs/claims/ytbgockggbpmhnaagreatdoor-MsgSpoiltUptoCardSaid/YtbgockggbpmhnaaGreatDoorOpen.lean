/-
  Parameters that came in, opened: a slice of bytes (as an argument or as a field), a Thing.
  No condition of its own.
-/
import Derived.Test.YtbgockggbpmhnaaGreatDoorEnv
import Derived.Test.YtbgockggbpmhnaaGreatDoorPure3
import Derived.Lib.SmallJoins
import Derived.SizedLaws
namespace Go.Proofs.YtbgockggbpmhnaaGreatDoor
open Go Go.ChangeShapes Go.WideShapes Go.ChangeAt Go.RowKit Go.Joins

theorem lits_length (k : IntKind) (zs : List Int) {H : Type} : (lits (H := H) k zs).length = zs.length := by simp [lits]
/-- A slice of bytes that came in: its bytes; its length is at most its bulk, and at most its weight. -/
theorem open_bytes {H : Type} {enc : TypeId × Value → H} {W : World} {base n : Nat} {sp : Nat → Bool} {held : Bool} {v : Value} {y : DataW H × List MemPlace} (h : DataW.trod enc Tryz.prog W base sp held n 22 [v] = some y) :
    ∃ a m c l, v = .slice a m c ∧ l.length = m ∧ IsB W (.slice a m c) l ∧ m ≤ Rows.uptoBulk y.1 ∧ ∀ B, (y.1.weights Tryz.prog 22).all (· ≤ B) = true → m ≤ B := by
  have hlen := fun (k : IntKind) (zs : List Int) => lits_length (H := H) k zs
  have hall : ∀ l : List (DataW H), l.length ≤ Rows.uptoBulkAll l := by
    intro l
    induction l with
    | nil => simp [Rows.uptoBulkAll]
    | cons x r ih =>
      have h1 : 1 ≤ Rows.uptoBulk x := by
        cases x with
        | lit l => cases l <;> simp [Rows.uptoBulk]
        | nil => simp [Rows.uptoBulk]
        | ptr d => simp [Rows.uptoBulk]
        | slice elems spare => simp [Rows.uptoBulk]
        | agg parts => simp [Rows.uptoBulk]
        | iface t d => simp [Rows.uptoBulk]
        | map entries => simp [Rows.uptoBulk]
        | held h => simp [Rows.uptoBulk]
      simp only [Rows.uptoBulkAll, List.length_cons]
      omega
  rcases open_ints Tryz.underlying22 Tryz.underlying5 c_u8 h with ⟨hcs, _⟩ | ⟨x, len, cap, zs, hcs, _, hl, hm, hz, rfl, hcell, hwz⟩
  · simp at hcs
    subst hcs
    exact ⟨none, 0, 0, [], rfl, rfl, IsB.nil W, by omega, fun _ _ => by omega⟩
  · simp at hcs
    subst hcs
    have hlz : len ≤ zs.length := by rw [hz]; split <;> omega
    have hopen : ∃ l, l.length = len ∧ IsB W (.slice (some x) len cap) l := by
      -- the bytes alone, whatever room is behind them
      have hlen' : (bytesFrom (zs.take len)).length = len := by simp [bytesFrom]; omega
      refine ⟨bytesFrom (zs.take len), hlen', some x, cap, by rw [hlen'], by omega, hm, (fun h => by cases h), ?_⟩
      by_cases h0 : len = 0
      · exact .inl (List.eq_nil_of_length_eq_zero (by omega))
      · have hc := hcell 0 (by omega)
        obtain ⟨b, off, spot⟩ := x
        have hspot : spot = none := by simpa [Addr.add] using World.cell?_spot hc
        subst hspot
        refine .inr ⟨b, off, rfl, fun i hi => ?_⟩
        have hi' : i < zs.length := by omega
        have := hcell i hi'
        have hadd : (⟨b, off, none⟩ : Addr).add i = ⟨b, off + i, none⟩ := by unfold Addr.add; split <;> simp_all
        rw [hadd] at this
        rw [this]
        have hmem : zs[i] ∈ zs := List.getElem_mem hi'
        have hwf := hwz _ hmem
        obtain ⟨z0, z1⟩ := bounds_u8 hwf
        have hg : zs.getD i 0 = zs[i] := by simp [List.getD_eq_getElem?_getD, hi']
        rw [hg, at8_get _ _ hi]
        have hbt : ((bytesFrom (zs.take len))[i]'hi).toNat = zs[i].toNat := by
          have : zs[i].toNat < 256 := by omega
          simp [bytesFrom, UInt8.toNat_ofNat', Nat.mod_eq_of_lt this]
        rw [hbt, Int.toNat_of_nonneg z0]
    obtain ⟨l, e, hI⟩ := hopen
    refine ⟨_, _, _, l, rfl, e, hI, ?_, fun B hB => ?_⟩
    · have := hall (lits (H := H) .u8 (zs.take len))
      simp only [Rows.uptoBulk]
      rw [hlen] at this
      simp at this
      omega
    · have hb : Tryz.prog.bytesOf 5 = 1 := by kernel_rfl
      simp [DataW.weights, Tryz.underlying22, hlen, hb] at hB
      omega

end Go.Proofs.YtbgockggbpmhnaaGreatDoor
