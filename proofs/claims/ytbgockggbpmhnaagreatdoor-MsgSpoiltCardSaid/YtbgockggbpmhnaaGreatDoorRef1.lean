/-
  The document's answer of layer 1 (package tollbarref01): a reader by value: fail, head, Done.
  Conditions: what the reader holds reads as bytes.
-/
import Derived.Test.YtbgockggbpmhnaaGreatDoorRd2
namespace Go.Proofs.YtbgockggbpmhnaaGreatDoor
open Go Go.RowKit

/-- The reader as a value. -/
def rdr (a : Option Addr) (n c : Nat) (k : Nat) : Value := .agg #[.slice a n c, .int .i64 k]

theorem fail_any (a : Option Addr) (n c k e : Nat) (w : World) :
    Calls Tryz.prog 65 #[.agg #[.slice a n c, .int .i64 k], .int .i64 e] w fun v w' => v = .returned (.agg #[.slice a n c, .int .i64 ((if k = 0 then e else k : Nat) : Int)]) ∧ Below w.heap.size w w' := by
  by_cases hk : k = 0
  · subst hk
    go_enter Tryz.func65, Tryz.ntmps65
    go_wp2
    go_returns
    refine ⟨by simp, ?_⟩
    go_grown
  · have h0 : ((k : Int) == 0) = false := by simp; omega
    rw [if_neg hk]
    go_enter Tryz.func65, Tryz.ntmps65
    go_wp2
    go_returns
    refine ⟨by simp, ?_⟩
    go_grown

/-- Blocks of the call's own, behind a callee. -/
theorem own1 {w w1 : World} {o1 : Obj} (b : Below (w.alloc o1).heap.size (w.alloc o1) w1) : w1.heap[w.heap.size]? = some o1 ∧ Below w.heap.size w w1 :=
  ⟨(b.block w.heap.size (by simp)).trans (heap_alloc_new w o1), ((Below.refl _ w).alloc (Nat.le_refl _) o1).trans (b.mono (by simp))⟩
theorem own2 {w w1 : World} {o1 o2 : Obj} (b : Below ((w.alloc o1).alloc o2).heap.size ((w.alloc o1).alloc o2) w1) : w1.heap[w.heap.size]? = some o1 ∧ w1.heap[w.heap.size + 1]? = some o2 ∧ Below w.heap.size w w1 := by
  obtain ⟨h1, h2⟩ := own1 b
  refine ⟨(b.block w.heap.size (by simp; omega)).trans ?_, by simpa using h1, ((Below.refl _ w).alloc (Nat.le_refl _) o1).trans (h2.mono (by simp))⟩
  exact (Below.heap_alloc (w.alloc o1) o2 w.heap.size (by simp)).trans (heap_alloc_new w o1)
/-- Two stores into a block of two cells. -/
theorem stored2 {w : World} {M : Nat} {x0 y0 : Value} {t : TypeId} (h : w.heap[M]? = some (.cells #[x0, y0] t)) (x y : Value) : ((w.setCell ⟨M, 0, none⟩ x).setCell ⟨M, 1, none⟩ y).heap[M]? = some (.cells #[x, y] t) := by
  simp only [World.setCell, Array.getElem?_modify, if_true, h, Option.map_some]
  simp

/-- What head answers as the error. -/
def headP (lc : UInt8) (l : List UInt8) (k : Nat) : Nat := if k = 0 then PK.begP [lc] l else k

theorem head_any (a : Option Addr) (c k : Nat) (l : List UInt8) (lc : UInt8) (x : Int) (w : World) (hv : IsB w (.slice a l.length c) l) (hx : x = (lc.toNat : Int)) :
    Calls Tryz.prog 86 #[.agg #[.slice a l.length c, .int .i64 k], .int .u8 x] w fun v w' => v = .returned (.agg #[.slice a l.length c, .int .i64 (headP lc l k : Int)]) ∧ Below w.heap.size w w' := by
  unfold headP
  by_cases hk : k = 0
  · subst hk
    rw [if_pos rfl]
    cases l with
    | nil =>
      clear hv hx
      have HF := Lib.hid (fun W : World => fail_any a 0 c 0 12 W)
      go_enter Tryz.func86, Tryz.ntmps86
      go_wp2_with fail
      refine (HF.out _).mono ?_
      rintro v w1 ⟨rfl, b1⟩
      obtain ⟨g1, g2, bb⟩ := own2 b1
      obtain ⟨d0, d1, z0, z1⟩ := cells2 g2
      obtain ⟨e0, e1, _, _⟩ := cells2 (stored2 g2 (.slice a 0 c) (.int .i64 12))
      have E0 := Lib.hid e0
      have E1 := Lib.hid e1
      have BB : Hid (Below w.heap.size w ((w1.setCell ⟨w.heap.size + 1, 0, none⟩ (.slice a 0 c)).setCell ⟨w.heap.size + 1, 1, none⟩ (.int .i64 12))) := (bb.setCell (by simp) _).setCell (by simp) _
      clear g1 g2 bb b1 HF e0 e1
      go_wp2
      generalize ((w1.setCell ⟨w.heap.size + 1, 0, none⟩ (.slice a 0 c)).setCell ⟨w.heap.size + 1, 1, none⟩ (.int .i64 12)) = W at *
      exact bodyPost_ret (v := .agg #[.slice a 0 c, .int .i64 12]) (by simp [results, Tryz.results86, go_sem, E0.out, E1.out]) rfl ⟨rfl, BB.out⟩
    | cons y r =>
      obtain ⟨_, hl1, _, b, o, rfl, hc⟩ := hv.open_cons (by simp)
      have hx0 : w.cell? ⟨b, o, none⟩ = some (.int .u8 (at8 (y :: r) 0)) := by simpa using hc 0 (by simp)
      have hat : at8 (y :: r) 0 = (y.toNat : Int) := rfl
      rw [hat] at hx0
      have hbl : b < w.heap.size := World.block_lt_of_cell? w _ hx0
      have hy0 : ∀ o1 o2 : Obj, ((w.alloc o1).alloc o2).cell? ⟨b, o, none⟩ = some (.int .u8 (y.toNat : Int)) := fun o1 o2 => by
        rw [World.cell?_alloc_lt _ _ _ (by simp; omega), World.cell?_alloc_lt _ _ _ hbl]; exact hx0
      have hp : 0 < (y :: r).length := by simp
      have hz : (((y :: r).length : Int) == 0) = false := by simp; omega
      generalize hlen : (y :: r).length = n at *
      have Hx := Lib.hid hx
      clear hv hc hat hlen hx
      by_cases hm : y = lc
      · have hq : ((y.toNat : Int) != x) = false := by rw [Hx.out, hm]; simp
        have hb : PK.begP [lc] (y :: r) = 0 := by simp [PK.begP, hm]
        rw [hb]
        clear hm hb
        go_enter Tryz.func86, Tryz.ntmps86
        go_wp2
        go_returns
        refine ⟨by simp, ?_⟩
        go_grown
      · have hq : ((y.toNat : Int) != x) = true := by
          rw [Hx.out, bne_iff_ne]
          exact fun e => hm (at8_inj e)
        have hb : PK.begP [lc] (y :: r) = 3 := by simp [PK.begP, hm]
        rw [hb]
        clear hm hb
        have HF := Lib.hid (fun W : World => fail_any (some ⟨b, o, none⟩) n c 0 3 W)
        go_enter Tryz.func86, Tryz.ntmps86
        go_wp2_with fail
        refine (HF.out _).mono ?_
        rintro v w1 ⟨rfl, b1⟩
        obtain ⟨g1, g2, bb⟩ := own2 b1
        obtain ⟨d0, d1, z0, z1⟩ := cells2 g2
        obtain ⟨e0, e1, _, _⟩ := cells2 (stored2 g2 (.slice (some ⟨b, o, none⟩) n c) (.int .i64 3))
        have E0 := Lib.hid e0
        have E1 := Lib.hid e1
        have BB : Hid (Below w.heap.size w ((w1.setCell ⟨w.heap.size + 1, 0, none⟩ (.slice (some ⟨b, o, none⟩) n c)).setCell ⟨w.heap.size + 1, 1, none⟩ (.int .i64 3))) := (bb.setCell (by simp) _).setCell (by simp) _
        clear g1 g2 bb b1 HF e0 e1
        go_wp2
        generalize ((w1.setCell ⟨w.heap.size + 1, 0, none⟩ (.slice (some ⟨b, o, none⟩) n c)).setCell ⟨w.heap.size + 1, 1, none⟩ (.int .i64 3)) = W at *
        exact bodyPost_ret (v := .agg #[.slice (some ⟨b, o, none⟩) n c, .int .i64 3]) (by simp [results, Tryz.results86, go_sem, E0.out, E1.out]) rfl ⟨rfl, BB.out⟩
  · have h0 : ((k : Int) != 0) = true := by simp; omega
    rw [if_neg hk]
    clear hv hx
    go_enter Tryz.func86, Tryz.ntmps86
    go_wp2
    go_returns
    refine ⟨by simp, ?_⟩
    go_grown

/-- Done. -/
theorem rdone_any (a : Option Addr) (c k : Nat) (l : List UInt8) (w : World) :
    Calls Tryz.prog 38 #[.agg #[.slice a l.length c, .int .i64 k]] w fun v w' => v = .returned (.int .i64 (PK.doneP l k : Int)) ∧ Below w.heap.size w w' := by
  unfold PK.doneP
  by_cases hk : k = 0
  · subst hk
    by_cases hl : l = []
    · subst hl
      go_enter Tryz.func38, Tryz.ntmps38
      go_wp2
      go_ret
      refine ⟨by simp, ?_⟩
      go_grown
    · have hp : 0 < l.length := List.length_pos_iff.2 hl
      rw [if_pos ⟨rfl, hl⟩]
      clear hl
      go_enter Tryz.func38, Tryz.ntmps38
      go_wp2
      go_ret
      refine ⟨by simp, ?_⟩
      go_grown
  · have h0 : ((k : Int) == 0) = false := by simp; omega
    rw [if_neg (fun h => hk h.1)]
    clear hk
    go_enter Tryz.func38, Tryz.ntmps38
    go_wp2
    go_ret
    refine ⟨by simp, ?_⟩
    go_grown
end Go.Proofs.YtbgockggbpmhnaaGreatDoor
