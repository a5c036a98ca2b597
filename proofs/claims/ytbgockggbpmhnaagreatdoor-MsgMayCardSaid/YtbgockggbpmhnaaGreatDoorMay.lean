/-
  within, odd, may, Check, by contracts.
  Conditions: what is looked at reads as such.
-/
import Derived.Test.YtbgockggbpmhnaaGreatDoorGive3
namespace Go.Proofs.YtbgockggbpmhnaaGreatDoor
open Go Go.RowKit

theorem out_any (n lo hi : Int) (p q : Addr) (w : World) (h1 : w.cell? p = some (.int .i64 lo)) (h2 : w.cell? q = some (.int .i64 hi)) :
    Calls Tryz.prog 84 #[.int .i64 n, .pointer (some p), .pointer (some q)] w fun e w' => e = .returned (.bool (!decide (PK.in01 lo hi n))) ∧ w = w' := by
  by_cases hl : n < lo
  · have hd : decide (PK.in01 lo hi n) = false := decide_eq_false (fun h => by unfold PK.in01 at h; omega)
    rw [hd]
    clear hd
    go_enter Tryz.func84, Tryz.ntmps84
    go_wp2
    go_ret
    exact ⟨rfl, rfl⟩
  · by_cases hh : hi < n
    · have hd : decide (PK.in01 lo hi n) = false := decide_eq_false (fun h => by unfold PK.in01 at h; omega)
      rw [hd]
      clear hd
      go_enter Tryz.func84, Tryz.ntmps84
      go_wp2
      go_ret
      exact ⟨rfl, rfl⟩
    · have hd : decide (PK.in01 lo hi n) = true := decide_eq_true (by unfold PK.in01; omega)
      rw [hd]
      clear hd
      go_enter Tryz.func84, Tryz.ntmps84
      go_wp2
      go_ret
      exact ⟨rfl, rfl⟩
/-- The slice value reads as ints. -/
def IsI (w : World) (b o : Nat) (l : List Int) : Prop := ∀ i x, l[i]? = some x → w.cell? ⟨b, o + i, none⟩ = some (.int .i64 x)
theorem isI_new (w : World) (l : List Int) (e : TypeId) : IsI (w.alloc (.cells (l.map (Value.int .i64 ·)).toArray e)) w.heap.size 0 l := by
  intro i x hx
  rw [Nat.zero_add, World.cell?_alloc_new]
  simp [hx]
def allIn (lo hi : Int) (l : List Int) : Bool := l.all fun x => decide (PK.in01 lo hi x)
theorem allIn_take {lo hi : Int} {l : List Int} {k : Nat} {x : Int} (hx : l[k]? = some x) : allIn lo hi (l.take (k + 1)) = (allIn lo hi (l.take k) && decide (PK.in01 lo hi x)) := by
  have hk : k < l.length := (List.getElem?_eq_some_iff.1 hx).1
  have e : l.take (k + 1) = l.take k ++ [x] := by rw [List.take_succ_eq_append_getElem hk]; congr 1; simpa [List.getElem?_eq_getElem hk] using hx
  unfold allIn
  rw [e, List.all_append]
  simp
theorem allIn_no {lo hi : Int} {l : List Int} {k : Nat} {x : Int} (hx : l[k]? = some x) (h : decide (PK.in01 lo hi x) = false) : allIn lo hi l = false := by
  unfold allIn
  rw [List.all_eq_false]
  exact ⟨x, List.mem_of_getElem? hx, by simp [h]⟩
set_option maxHeartbeats 2000000 in
theorem indexI_any (b o n c : Nat) (l : List Int) (lo hi : Int) (p q : Addr) (w : World) (hl : l.length = n) (hn : n ≤ 100) (hi' : IsI w b o l) (h1 : w.cell? p = some (.int .i64 lo)) (h2 : w.cell? q = some (.int .i64 hi)) :
    Calls Tryz.prog 96 #[.slice (some ⟨b, o, none⟩) n c, .func (.func 84) #[] #[.pointer (some p), .pointer (some q)]] w fun e w' => (∃ r : Int, e = .returned (.int .i64 r) ∧ (0 ≤ r ↔ allIn lo hi l = false)) ∧ w = w' := by
  have HI := Lib.hid hi'
  have HO := Lib.hid (fun (x : Int) => out_any x lo hi p q w h1 h2)
  have HL := Lib.hid hl
  clear hi' h1 h2 hl
  go_enter Tryz.func96, Tryz.ntmps96
  go_wp2
  go_loop [5, 8] (fun _ v => ∃ k : Nat, k ≤ n ∧ v = .int .i64 k ∧ Hid (allIn lo hi (l.take k) = true)) (fun _ v => n - (intOf v).toNat)
  case atStart => exact ⟨0, by omega, rfl, rfl⟩
  case round =>
    obtain ⟨k, hk, rfl, Hno⟩ := hrel
    by_cases hlt : k < n
    · have hkl : k < l.length := by rw [HL.out]; exact hlt
      obtain ⟨x, hx⟩ : ∃ x, l[k]? = some x := ⟨_, List.getElem?_eq_getElem hkl⟩
      have hck := HI.out k x hx
      have HC := Lib.hid (HO.out x)
      have Hx := Lib.hid hx
      clear hx hkl
      by_cases hin : decide (PK.in01 lo hi x) = true
      · rw [hin] at HC
        have Hs : Hid (allIn lo hi (l.take (k + 1)) = true) := Lib.hid (by rw [allIn_take Hx.out, Hno.out, hin]; rfl)
        clear hin
        go_wp2_with fail
        refine HC.out.mono ?_
        rintro e w1 ⟨rfl, rfl⟩
        go_wp2
        exact ⟨⟨k + 1, hlt, by simp, Hs⟩, by simp [intOf]; omega⟩
      · have hin2 : decide (PK.in01 lo hi x) = false := by simpa using hin
        rw [hin2] at HC
        have Hs : Hid (allIn lo hi l = false) := Lib.hid (allIn_no Hx.out hin2)
        clear hin hin2
        go_wp2_with fail
        refine HC.out.mono ?_
        rintro e w1 ⟨rfl, rfl⟩
        go_wp2
        go_ret
        exact ⟨⟨k, rfl, fun _ => Hs.out, fun _ => by omega⟩, rfl⟩
    · obtain rfl : k = n := by omega
      have Hs : Hid (allIn lo hi l = true) := Lib.hid (by have := Hno.out; rwa [List.take_of_length_le (by rw [HL.out]; exact Nat.le_refl _)] at this)
      go_wp2
      go_ret
      exact ⟨⟨-1, rfl, fun h => by omega, fun h => by rw [Hs.out] at h; cases h⟩, rfl⟩
theorem containsI_any (b o n c : Nat) (l : List Int) (lo hi : Int) (p q : Addr) (w : World) (hl : l.length = n) (hn : n ≤ 100) (hi' : IsI w b o l) (h1 : w.cell? p = some (.int .i64 lo)) (h2 : w.cell? q = some (.int .i64 hi)) :
    Calls Tryz.prog 83 #[.slice (some ⟨b, o, none⟩) n c, .func (.func 84) #[] #[.pointer (some p), .pointer (some q)]] w fun e w' => e = .returned (.bool (!allIn lo hi l)) ∧ w = w' := by
  have HC := Lib.hid (indexI_any b o n c l lo hi p q w hl hn hi' h1 h2)
  clear hi' h1 h2 hl
  cases ha : allIn lo hi l with
  | true =>
    rw [ha] at HC
    go_enter Tryz.func83, Tryz.ntmps83
    go_wp2_with fail
    refine HC.out.mono ?_
    rintro e w1 ⟨⟨r, rfl, hr⟩, rfl⟩
    have h0 : r < 0 := by
      rcases Int.lt_or_le r 0 with h | h
      · exact h
      · cases hr.1 h
    have h0' : decide (0 ≤ r) = false := by simp; omega
    clear hr ha
    go_wp2
    go_ret
    exact ⟨rfl, rfl⟩
  | false =>
    rw [ha] at HC
    go_enter Tryz.func83, Tryz.ntmps83
    go_wp2_with fail
    refine HC.out.mono ?_
    rintro e w1 ⟨⟨r, rfl, hr⟩, rfl⟩
    have h0 : 0 ≤ r := hr.2 trivial
    clear hr ha
    go_wp2
    go_ret
    exact ⟨rfl, rfl⟩
theorem within_any (b o n c : Nat) (l : List Int) (lo hi : Int) (w : World) (hl : l.length = n) (hn : n ≤ 100) (hi' : IsI w b o l) :
    Calls Tryz.prog 61 #[.int .i64 lo, .int .i64 hi, .slice (some ⟨b, o, none⟩) n c] w fun e w' => e = .returned (.bool (allIn lo hi l)) ∧ Below w.heap.size w w' := by
  have HC := Lib.hid (fun (p q : Addr) (W : World) (hb : Below w.heap.size w W) (h1 : W.cell? p = some (.int .i64 lo)) (h2 : W.cell? q = some (.int .i64 hi)) => containsI_any b o n c l lo hi p q W hl hn (fun i x hx => (World.cell?_of_block (hb.block b (World.block_lt_of_cell? _ _ (hi' i x hx)))).trans (hi' i x hx)) h1 h2)
  clear hi' hl hn
  generalize allIn lo hi l = r at *
  go_enter Tryz.func61, Tryz.ntmps61
  go_wp2_with fail
  have B2 : Below w.heap.size w ((w.alloc (.cells #[.int .i64 lo] 3)).alloc (.cells #[.int .i64 hi] 3)) := ((Below.refl _ _).alloc (Nat.le_refl _) _).alloc (by simp) _
  refine (HC.out _ _ _ B2 ?_ ?_).mono ?_
  · rw [World.cell?_alloc_lt _ _ _ (by simp)]; exact World.cell?_alloc_new _ _ _ 0
  · simp
  · rintro e w1 ⟨rfl, rfl⟩
    go_wp2
    go_ret
    exact ⟨by simp, B2⟩
end Go.Proofs.YtbgockggbpmhnaaGreatDoor
