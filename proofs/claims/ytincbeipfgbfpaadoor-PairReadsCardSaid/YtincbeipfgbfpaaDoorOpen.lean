/-
  Parameters that came in, opened: a slice of bytes (as an argument or as a field), a Thing.
  No condition of its own.
-/
import Derived.Test.YtincbeipfgbfpaaDoorEnv
import Derived.Test.YtincbeipfgbfpaaDoorPure3
import Derived.Lib.SmallJoins
import Derived.SizedLaws
namespace Go.Proofs.YtincbeipfgbfpaaDoor
open Go Go.ChangeShapes Go.WideShapes Go.ChangeAt Go.RowKit Go.Joins

theorem lits_length (k : IntKind) (zs : List Int) {H : Type} : (lits (H := H) k zs).length = zs.length := by simp [lits]
/-- A slice of bytes that came in: its bytes; its length is at most its bulk, and at most its weight. -/
theorem open_bytes {H : Type} {enc : TypeId × Value → H} {W : World} {base n : Nat} {sp : Nat → Bool} {held : Bool} {v : Value} {y : DataW H × List MemPlace} (h : DataW.trod enc Tryd.prog W base sp held n 22 [v] = some y) :
    ∃ a m c l, v = .slice a m c ∧ l.length = m ∧ IsB W (.slice a m c) l ∧ m ≤ Rows.uptoBulk y.1 ∧ ∀ B, (y.1.weights Tryd.prog 22).all (· ≤ B) = true → m ≤ B := by
  have hlen := fun (k : IntKind) (zs : List Int) => lits_length (H := H) k zs
  have hall : ∀ l : List (DataW H), l.length ≤ Rows.uptoBulkAll l := by
    intro l
    induction l with
    | nil => simp [Rows.uptoBulkAll]
    | cons x r ih =>
      have h1 : 1 ≤ Rows.uptoBulk x := by
        cases x with
        | lit l => cases l <;> simp [Rows.uptoBulk]
        | nil => simp [Rows.uptoBulk]
        | ptr d => simp [Rows.uptoBulk]
        | slice elems spare => simp [Rows.uptoBulk]
        | agg parts => simp [Rows.uptoBulk]
        | iface t d => simp [Rows.uptoBulk]
        | map entries => simp [Rows.uptoBulk]
        | held h => simp [Rows.uptoBulk]
      simp only [Rows.uptoBulkAll, List.length_cons]
      omega
  rcases open_ints Tryd.underlying22 Tryd.underlying5 c_u8 h with ⟨hcs, _⟩ | ⟨x, len, cap, zs, hcs, _, hl, hm, hz, rfl, hcell, hwz⟩
  · simp at hcs
    subst hcs
    exact ⟨none, 0, 0, [], rfl, rfl, IsB.nil W, by omega, fun _ _ => by omega⟩
  · simp at hcs
    subst hcs
    have hlz : len ≤ zs.length := by rw [hz]; split <;> omega
    have hopen : ∃ l, l.length = len ∧ IsB W (.slice (some x) len cap) l := by
      -- the bytes alone, whatever room is behind them
      have hlen' : (bytesFrom (zs.take len)).length = len := by simp [bytesFrom]; omega
      refine ⟨bytesFrom (zs.take len), hlen', some x, cap, by rw [hlen'], by omega, hm, (fun h => by cases h), ?_⟩
      by_cases h0 : len = 0
      · exact .inl (List.eq_nil_of_length_eq_zero (by omega))
      · have hc := hcell 0 (by omega)
        obtain ⟨b, off, spot⟩ := x
        have hspot : spot = none := by simpa [Addr.add] using World.cell?_spot hc
        subst hspot
        refine .inr ⟨b, off, rfl, fun i hi => ?_⟩
        have hi' : i < zs.length := by omega
        have := hcell i hi'
        have hadd : (⟨b, off, none⟩ : Addr).add i = ⟨b, off + i, none⟩ := by unfold Addr.add; split <;> simp_all
        rw [hadd] at this
        rw [this]
        have hmem : zs[i] ∈ zs := List.getElem_mem hi'
        have hwf := hwz _ hmem
        obtain ⟨z0, z1⟩ := bounds_u8 hwf
        have hg : zs.getD i 0 = zs[i] := by simp [List.getD_eq_getElem?_getD, hi']
        rw [hg, at8_get _ _ hi]
        have hbt : ((bytesFrom (zs.take len))[i]'hi).toNat = zs[i].toNat := by
          have : zs[i].toNat < 256 := by omega
          simp [bytesFrom, UInt8.toNat_ofNat', Nat.mod_eq_of_lt this]
        rw [hbt, Int.toNat_of_nonneg z0]
    obtain ⟨l, e, hI⟩ := hopen
    refine ⟨_, _, _, l, rfl, e, hI, ?_, fun B hB => ?_⟩
    · have := hall (lits (H := H) .u8 (zs.take len))
      simp only [Rows.uptoBulk]
      rw [hlen] at this
      simp at this
      omega
    · have hb : Tryd.prog.bytesOf 5 = 1 := by kernel_rfl
      simp [DataW.weights, Tryd.underlying22, hlen, hb] at hB
      omega

theorem cTh : Tryd.prog.cellsOf 61 = 3 := by kernel_rfl
set_option maxRecDepth 100000 in
/-- A Thing that came in. -/
theorem open_thing {H : Type} {enc : TypeId × Value → H} {W : World} {base b0 : Nat} {sp : Nat → Bool} {held : Bool} {v : Value} {d : DataW H} {p : List MemPlace} (ho : Value.okWide Tryd.prog W .any b0 61 v)
    (h : DataW.Trod enc Tryd.prog W base sp held 61 v d p) : ∃ kd n a m c b, v = .agg #[.int .i64 kd, .int .i64 n, .slice a m c] ∧ b.length = m ∧ IsB W (.slice a m c) b ∧ -9223372036854775808 ≤ n ∧ n ≤ 9223372036854775807 ∧
      m ≤ Rows.uptoBulk d ∧ ∀ B, (d.weights Tryd.prog 61).all (· ≤ B) = true → m ≤ B := by
  obtain ⟨v0, v1, v2, y0, y1, y2, k, rfl, rfl, rfl, t0, t1, t2⟩ := open_agg3 Tryd.underlying61 (by kernel_rfl) cTh ho h
  obtain ⟨n0, e0, _, _⟩ := DataW.trod_int Tryd.underlying3 t0
  obtain ⟨n1, e1, _, w1⟩ := DataW.trod_int Tryd.underlying3 t1
  obtain ⟨a, m, c, b, rfl, hb, hI, hu, hw⟩ := open_bytes t2
  simp at e0 e1
  subst e0 e1
  obtain ⟨b0, b1⟩ := bounds_i64 w1
  refine ⟨n0, n1, a, m, c, b, rfl, hb, hI, b0, b1, ?_, fun B hB => hw B ?_⟩
  · simp only [Rows.uptoBulk, Rows.uptoBulkAll]; omega
  · simp only [DataW.weights, Tryd.underlying61, DataW.weightsEach, List.map, List.all_append, Bool.and_eq_true] at hB
    exact hB.2.2.1
end Go.Proofs.YtincbeipfgbfpaaDoor
